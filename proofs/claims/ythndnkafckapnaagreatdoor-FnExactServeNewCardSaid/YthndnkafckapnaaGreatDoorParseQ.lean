/- Plain: how the reference and the program read atoms and changes: both read just what a text is of. No program in sight. -/
import Derived.Test.YthndnkafckapnaaGreatDoorParseP
import Derived.Test.YthndnkafckapnaaGreatDoorSpecE
import Derived.Lib.IndexMore
namespace Go.Proofs.YthndnkafckapnaaGreatDoor
open Go.RowKit

def joinL (c : UInt8) : List (List UInt8) → List UInt8
  | [] => []
  | [p] => p
  | p :: q :: r => p ++ c :: joinL c (q :: r)
theorem join_split (c : UInt8) : ∀ l : List UInt8, joinL c (splitL c l) = l
  | [] => rfl
  | x :: l => by
    have ih := join_split c l
    have hne := splitL_ne c l
    unfold splitL
    split
    · rename_i hx
      subst hx
      cases hs : splitL x l with
      | nil => exact absurd hs hne
      | cons p ps =>
        rw [hs] at ih
        show [] ++ x :: joinL x (p :: ps) = _
        rw [ih]; rfl
    · cases hs : splitL c l with
      | nil => exact absurd hs hne
      | cons p ps =>
        rw [hs] at ih
        cases ps with
        | nil => show x :: p = _; rw [← ih]; rfl
        | cons q r => show (x :: p) ++ c :: joinL c (q :: r) = _; rw [← ih]; rfl

/-- A word as a term. -/
def argOf (l : List UInt8) : GT := ⟨capB (strOf l), strOf l⟩
theorem argOf_ok {t : GT} (h : termOkB t = true) : argOf t.n.data.toList = t := by
  have hv := term_var h
  have e : strOf t.n.data.toList = t.n := strOf_list t.n
  unfold argOf
  rw [e, ← hv]
theorem args_of {l : List GT} (h : ∀ t ∈ l, termOkB t = true) (hl : l ≠ []) : (splitL 44 (namesL l)).map argOf = l := by
  rw [namesL_split h hl, List.map_map]
  conv => rhs; rw [← List.map_id l]
  exact List.map_congr_left fun t ht => argOf_ok (h t ht)
theorem names_of : ∀ ws : List (List UInt8), namesL (ws.map argOf) = joinL 44 ws
  | [] => rfl
  | [p] => rfl
  | p :: q :: r => by
    have ih := names_of (q :: r)
    show (strOf p).data.toList ++ [44] ++ namesL ((q :: r).map argOf) = _
    rw [ih, list_strOf, List.append_assoc]; rfl

def argsOf (inner : List UInt8) : List GT := if inner = [] then [] else (splitL 44 inner).map argOf
theorem argsOf_names {l : List GT} (h : ∀ t ∈ l, termOkB t = true) : argsOf (namesL l) = l := by
  unfold argsOf
  by_cases hl : l = []
  · subst hl; rfl
  · rw [if_neg (namesL_pos h hl), args_of h hl]
theorem names_argsOf (inner : List UInt8) : namesL (argsOf inner) = inner := by
  unfold argsOf
  by_cases h : inner = []
  · rw [if_pos h, h]; rfl
  · rw [if_neg h, names_of, join_split]
def atomPutL (a : GA) : List UInt8 := if atomOkB a = true then atomL a else []

/-- As the reference reads an atom. -/
def specAtom (l : List UInt8) : Option GA :=
  match splitL 40 l with
  | [p, q] => if l.length ≤ 1500 ∧ q ≠ [] ∧ atomPutL ⟨strOf p, argsOf q.dropLast⟩ = l then some ⟨strOf p, argsOf q.dropLast⟩ else none
  | _ => none
theorem specAtom_eq (l : List UInt8) : specAtom l = atomOf l := by
  cases h : atomOf l with
  | some a =>
    obtain ⟨h1, h2⟩ := atomOf_is h
    have hs := atom_split h1
    have hp := atom_parts h1
    unfold specAtom
    rw [← h2, hs]
    have e : (⟨strOf a.n.data.toList, argsOf (namesL a.args ++ [41]).dropLast⟩ : GA) = a := by
      rw [List.dropLast_concat, argsOf_names hp.2.2]
      rfl
    show (if _ then _ else _) = _
    rw [e, if_pos]
    refine ⟨Nat.le_trans (atomL_ok_len h1) (by omega), by simp, ?_⟩
    unfold atomPutL
    rw [if_pos h1]
  | none =>
    unfold specAtom
    split
    · rename_i p q hs
      rw [if_neg]
      rintro ⟨_, hq, hput⟩
      have hl : l ≠ [] := by
        intro e
        subst e
        simp [splitL] at hs
      unfold atomPutL at hput
      split at hput
      · rename_i hok
        rw [← hput, atomOf_some hok] at h
        cases h
      · exact hl hput.symm
    · rfl

theorem index_one (c : UInt8) : ∀ l : List UInt8, (c ∉ l ∧ Lib.index l [c] = -1) ∨ ∃ p r, l = p ++ c :: r ∧ c ∉ p ∧ Lib.index l [c] = p.length
  | [] => .inl ⟨by simp, rfl⟩
  | x :: l => by
    by_cases hx : c = x
    · subst hx
      exact .inr ⟨[], l, rfl, by simp, by unfold Lib.index; simp⟩
    · have hpre : List.isPrefixOf [c] (x :: l) = false := by simp [List.isPrefixOf, hx]
      rcases index_one c l with ⟨h1, h2⟩ | ⟨p, r, rfl, h1, h2⟩
      · refine .inl ⟨by simp [hx, h1], ?_⟩
        unfold Lib.index; rw [hpre, h2]; rfl
      · refine .inr ⟨x :: p, r, rfl, by simp [hx, h1], ?_⟩
        unfold Lib.index
        rw [hpre, h2]
        have : ((p.length : Int) == -1) = false := by rw [beq_eq_false_iff_ne]; omega
        rw [this]
        simp
theorem cut_one (c : UInt8) (l : List UInt8) : (c ∉ l ∧ Lib.cut l [c] = (l, [], false)) ∨ ∃ p r, l = p ++ c :: r ∧ c ∉ p ∧ Lib.cut l [c] = (p, r, true) := by
  rcases index_one c l with ⟨h1, h2⟩ | ⟨p, r, h0, h1, h2⟩
  · refine .inl ⟨h1, ?_⟩
    unfold Lib.cut; rw [h2]; rfl
  · refine .inr ⟨p, r, h0, h1, ?_⟩
    unfold Lib.cut
    rw [h2, if_pos (by omega), h0]
    simp

/-- As the program reads an atom. -/
def implAtom (l : List UInt8) : Option GA :=
  if l.length ≤ 1500 ∧ (Lib.cut l [40]).2.2 = true ∧ (Lib.cut l [40]).2.1.getLast? = some 41 ∧ atomOkB ⟨strOf (Lib.cut l [40]).1, argsOf (Lib.cut l [40]).2.1.dropLast⟩ = true then some ⟨strOf (Lib.cut l [40]).1, argsOf (Lib.cut l [40]).2.1.dropLast⟩ else none
theorem implAtom_eq (l : List UInt8) : implAtom l = atomOf l := by
  cases h : atomOf l with
  | some a =>
    obtain ⟨h1, h2⟩ := atomOf_is h
    have hp := atom_parts h1
    have hl : l = a.n.data.toList ++ 40 :: (namesL a.args ++ [41]) := by rw [← h2]; unfold atomL; simp
    have hn : (40 : UInt8) ∉ a.n.data.toList := fun hc => okByte_ne (name_ok hp.1 40 hc) 40 rfl rfl
    have hc : Lib.cut l [40] = (a.n.data.toList, namesL a.args ++ [41], true) := by
      rcases cut_one 40 l with ⟨h3, _⟩ | ⟨p, r, h3, h4, h5⟩
      · exact absurd (by rw [hl]; simp) h3
      · have e1 := splitL_app (l := r) h4
        have e2 := splitL_app (l := namesL a.args ++ [41]) hn
        rw [← h3] at e1
        rw [← hl, e1] at e2
        have e3 : p = a.n.data.toList := by injection e2
        rw [h3, e3] at hl
        have e4 := List.append_cancel_left hl
        injection e4 with _ e4
        rw [h5, e3, e4]
    have e : (⟨strOf a.n.data.toList, argsOf (namesL a.args ++ [41]).dropLast⟩ : GA) = a := by
      rw [List.dropLast_concat, argsOf_names hp.2.2]
      rfl
    unfold implAtom
    rw [hc]
    simp only [e]
    rw [if_pos]
    exact ⟨by rw [← h2]; exact Nat.le_trans (atomL_ok_len h1) (by omega), trivial, by simp, h1⟩
  | none =>
    unfold implAtom
    rw [if_neg]
    rintro ⟨_, h2, h3, h4⟩
    rcases cut_one 40 l with ⟨_, h5⟩ | ⟨p, r, h5, _, h6⟩
    · rw [h5] at h2; cases h2
    · rw [h6] at h3 h4
      have hr : r = r.dropLast ++ [41] := by
        have hne : r ≠ [] := by intro e; subst e; cases h3
        have h7 := List.dropLast_concat_getLast hne
        have h8 : r.getLast hne = 41 := by
          rw [List.getLast?_eq_some_getLast hne] at h3
          injection h3
        rw [h8] at h7
        exact h7.symm
      have : atomL ⟨strOf p, argsOf r.dropLast⟩ = l := by
        unfold atomL
        rw [names_argsOf, list_strOf, h5]
        conv => rhs; rw [hr]
        simp
      rw [← this, atomOf_some h4] at h
      cases h

/-! ### Changes -/
def noneC : GC := ⟨[], []⟩
noncomputable def wordSpec (w : List UInt8) (g : GC) : Option GC :=
  match w with
  | [] => none
  | x :: r => (atomOf r).map fun a => if x = 45 then ⟨g.comes, g.goes ++ [a]⟩ else ⟨g.comes ++ [a], g.goes⟩
noncomputable def wordImpl (w : List UInt8) (g : GC) : Option GC :=
  match w with
  | [] => none
  | x :: r => (atomOf r).bind fun a => if x = 45 ∧ g.comes = [] then some ⟨g.comes, g.goes ++ [a]⟩ else if x = 43 then some ⟨g.comes ++ [a], g.goes⟩ else none
theorem wordSpec_cons (x : UInt8) (r : List UInt8) (g : GC) : wordSpec (x :: r) g = (atomOf r).map fun a => if x = 45 then ⟨g.comes, g.goes ++ [a]⟩ else ⟨g.comes ++ [a], g.goes⟩ := rfl
theorem wordImpl_cons (x : UInt8) (r : List UInt8) (g : GC) : wordImpl (x :: r) g = (atomOf r).bind fun a => if x = 45 ∧ g.comes = [] then some ⟨g.comes, g.goes ++ [a]⟩ else if x = 43 then some ⟨g.comes ++ [a], g.goes⟩ else none := rfl
noncomputable def specFold : List (List UInt8) → GC → Option GC
  | [], g => some g
  | w :: ws, g => match ws with
    | [] => some g
    | _ :: _ => (wordSpec w g).bind fun g' => specFold ws g'
noncomputable def implFold : List (List UInt8) → GC → Option GC
  | [], _ => none
  | w :: ws, g => match ws with
    | [] => if w = [] then some g else none
    | _ :: _ => (wordImpl w g).bind fun g' => implFold ws g'
theorem specFold_two (w p : List UInt8) (q : List (List UInt8)) (g : GC) : specFold (w :: p :: q) g = (wordSpec w g).bind fun g' => specFold (p :: q) g' := rfl
theorem implFold_two (w p : List UInt8) (q : List (List UInt8)) (g : GC) : implFold (w :: p :: q) g = (wordImpl w g).bind fun g' => implFold (p :: q) g' := rfl

open Classical in
noncomputable def changeOf (l : List UInt8) : Option GC := if h : ∃ g, changeOkB g = true ∧ changeL g = l then some h.choose else none
theorem changeOk_ok {g : GC} (h : changeOkB g = true) : (∀ a ∈ g.comes, atomOkB a = true) ∧ ∀ a ∈ g.goes, atomOkB a = true := by
  unfold changeOkB at h
  simp only [Bool.and_eq_true] at h
  have key : ∀ xs, factsB xs 300 = true → ∀ a ∈ xs, atomOkB a = true := fun xs hx a ha => by
    unfold factsB at hx
    simp only [Bool.and_eq_true] at hx
    exact factB_ok (List.all_eq_true.1 hx.1.1 a ha)
  exact ⟨key _ h.1.1, key _ h.1.2⟩
theorem words_ne {c : UInt8} (l : List GA) (m : List (List UInt8)) (hm : m ≠ []) : ∃ p q, wordsOf c l ++ m = p :: q := by
  cases l with
  | nil => cases m with
    | nil => exact absurd rfl hm
    | cons p q => exact ⟨p, q, rfl⟩
  | cons a l => exact ⟨_, _, rfl⟩
theorem specFold_goes : ∀ (l : List GA) (m : List (List UInt8)) (g : GC), m ≠ [] → (∀ a ∈ l, atomOkB a = true) → specFold (wordsOf 45 l ++ m) g = specFold m ⟨g.comes, g.goes ++ l⟩
  | [], m, g, _, _ => by simp [wordsOf]
  | a :: l, m, g, hm, h => by
    have ih := specFold_goes l m ⟨g.comes, g.goes ++ [a]⟩ hm (fun a ha => h a (List.mem_cons_of_mem _ ha))
    obtain ⟨p, q, hpq⟩ := words_ne (c := 45) l m hm
    show specFold ((45 :: atomL a) :: (wordsOf 45 l ++ m)) g = _
    rw [hpq] at ih ⊢
    have hw : wordSpec (45 :: atomL a) g = some ⟨g.comes, g.goes ++ [a]⟩ := by rw [wordSpec_cons, atomOf_some (h a (by simp))]; rfl
    rw [specFold_two, hw, Option.bind_some, ih, List.append_assoc]
    rfl
theorem specFold_comes : ∀ (l : List GA) (m : List (List UInt8)) (g : GC), m ≠ [] → (∀ a ∈ l, atomOkB a = true) → specFold (wordsOf 43 l ++ m) g = specFold m ⟨g.comes ++ l, g.goes⟩
  | [], m, g, _, _ => by simp [wordsOf]
  | a :: l, m, g, hm, h => by
    have ih := specFold_comes l m ⟨g.comes ++ [a], g.goes⟩ hm (fun a ha => h a (List.mem_cons_of_mem _ ha))
    obtain ⟨p, q, hpq⟩ := words_ne (c := 43) l m hm
    show specFold ((43 :: atomL a) :: (wordsOf 43 l ++ m)) g = _
    rw [hpq] at ih ⊢
    have hw : wordSpec (43 :: atomL a) g = some ⟨g.comes ++ [a], g.goes⟩ := by rw [wordSpec_cons, atomOf_some (h a (by simp))]; rfl
    rw [specFold_two, hw, Option.bind_some, ih, List.append_assoc]
    rfl
theorem implFold_goes : ∀ (l : List GA) (m : List (List UInt8)) (g : GC), m ≠ [] → g.comes = [] → (∀ a ∈ l, atomOkB a = true) → implFold (wordsOf 45 l ++ m) g = implFold m ⟨g.comes, g.goes ++ l⟩
  | [], m, g, _, _, _ => by simp [wordsOf]
  | a :: l, m, g, hm, hg, h => by
    have ih := implFold_goes l m ⟨g.comes, g.goes ++ [a]⟩ hm hg (fun a ha => h a (List.mem_cons_of_mem _ ha))
    obtain ⟨p, q, hpq⟩ := words_ne (c := 45) l m hm
    show implFold ((45 :: atomL a) :: (wordsOf 45 l ++ m)) g = _
    rw [hpq] at ih ⊢
    have hw : wordImpl (45 :: atomL a) g = some ⟨g.comes, g.goes ++ [a]⟩ := by
      rw [wordImpl_cons, atomOf_some (h a (by simp)), Option.bind_some]
      exact if_pos ⟨rfl, hg⟩
    rw [implFold_two, hw, Option.bind_some, ih, List.append_assoc]
    rfl
theorem implFold_comes : ∀ (l : List GA) (m : List (List UInt8)) (g : GC), m ≠ [] → (∀ a ∈ l, atomOkB a = true) → implFold (wordsOf 43 l ++ m) g = implFold m ⟨g.comes ++ l, g.goes⟩
  | [], m, g, _, _ => by simp [wordsOf]
  | a :: l, m, g, hm, h => by
    have ih := implFold_comes l m ⟨g.comes ++ [a], g.goes⟩ hm (fun a ha => h a (List.mem_cons_of_mem _ ha))
    obtain ⟨p, q, hpq⟩ := words_ne (c := 43) l m hm
    show implFold ((43 :: atomL a) :: (wordsOf 43 l ++ m)) g = _
    rw [hpq] at ih ⊢
    have hw : wordImpl (43 :: atomL a) g = some ⟨g.comes ++ [a], g.goes⟩ := by
      rw [wordImpl_cons, atomOf_some (h a (by simp)), Option.bind_some]
      exact (if_neg (by rintro ⟨e, _⟩; exact absurd e (by decide))).trans (if_pos rfl)
    rw [implFold_two, hw, Option.bind_some, ih, List.append_assoc]
    rfl
theorem spec_reads {g : GC} (h : changeOkB g = true) : specFold (splitL 32 (changeL g)) noneC = some g := by
  obtain ⟨h1, h2⟩ := changeOk_ok h
  rw [change_split h1 h2, specFold_goes _ _ _ (by simp) h2, specFold_comes _ _ _ (by simp) h1]
  rfl
theorem impl_reads {g : GC} (h : changeOkB g = true) : implFold (splitL 32 (changeL g)) noneC = some g := by
  obtain ⟨h1, h2⟩ := changeOk_ok h
  rw [change_split h1 h2, implFold_goes _ _ _ (by simp) rfl h2, implFold_comes _ _ _ (by simp) h1]
  rfl
theorem changeOf_some {g : GC} (h : changeOkB g = true) : changeOf (changeL g) = some g := by
  have hx : ∃ b, changeOkB b = true ∧ changeL b = changeL g := ⟨g, h, rfl⟩
  unfold changeOf
  rw [dif_pos hx]
  have h1 := spec_reads hx.choose_spec.1
  rw [hx.choose_spec.2, spec_reads h] at h1
  exact h1.symm
theorem changeOf_is {l : List UInt8} {g : GC} (h : changeOf l = some g) : changeOkB g = true ∧ changeL g = l := by
  unfold changeOf at h
  split at h
  · rename_i hx
    injection h with h
    exact h ▸ hx.choose_spec
  · cases h

noncomputable def specChange (l : List UInt8) : Option GC := match specFold (splitL 32 l) noneC with | none => none | some g => if changePutL g = l then some g else none
theorem specChange_eq (l : List UInt8) : specChange l = changeOf l := by
  cases h : changeOf l with
  | some g =>
    obtain ⟨h1, h2⟩ := changeOf_is h
    unfold specChange
    rw [← h2, spec_reads h1]
    show (if _ then _ else _) = _
    rw [if_pos]
    unfold changePutL
    rw [if_pos h1]
  | none =>
    unfold specChange
    cases hf : specFold (splitL 32 l) noneC with
    | none => rfl
    | some g =>
      show (if _ then _ else _) = _
      rw [if_neg]
      intro hp
      unfold changePutL at hp
      split at hp
      · rename_i hok
        rw [← hp, changeOf_some hok] at h
        cases h
      · subst hp
        have hg : g = noneC := by
          have : specFold (splitL 32 []) noneC = some noneC := rfl
          rw [this] at hf
          injection hf with hf
          exact hf.symm
        have : changeOf (changeL noneC) = some noneC := changeOf_some rfl
        rw [show changeL noneC = [] from rfl, h] at this
        cases this

theorem signedL_snoc (c : UInt8) (l : List GA) (a : GA) : signedL c (l ++ [a]) = signedL c l ++ ((c :: atomL a) ++ [32]) := by simp [signedL]
theorem wordImpl_text {w : List UInt8} {g g1 : GC} (h : wordImpl w g = some g1) : changeL g1 = changeL g ++ (w ++ [32]) := by
  cases w with
  | nil => cases h
  | cons x r =>
    rw [wordImpl_cons] at h
    cases ha : atomOf r with
    | none => rw [ha] at h; cases h
    | some a =>
      obtain ⟨_, hr⟩ := atomOf_is ha
      rw [ha, Option.bind_some] at h
      split at h
      · rename_i hx
        obtain ⟨rfl, hg⟩ := hx
        injection h with h
        subst h
        unfold changeL
        rw [signedL_snoc, hg, hr]
        simp [signedL]
      · split at h
        · rename_i hx
          subst hx
          injection h with h
          subst h
          unfold changeL
          rw [signedL_snoc, hr]
          simp
        · cases h
theorem implFold_join : ∀ (ws : List (List UInt8)) (g g' : GC), implFold ws g = some g' → changeL g' = changeL g ++ joinL 32 ws
  | [], g, g', h => by cases h
  | [w], g, g', h => by
    have h2 : (if w = [] then some g else none) = some g' := h
    split at h2
    · rename_i hw
      subst hw
      injection h2 with h2
      subst h2
      show _ = _ ++ []
      rw [List.append_nil]
    · cases h2
  | w :: w2 :: ws, g, g', h => by
    rw [implFold_two] at h
    cases hw : wordImpl w g with
    | none => rw [hw] at h; cases h
    | some g1 =>
      rw [hw, Option.bind_some] at h
      rw [implFold_join (w2 :: ws) g1 g' h, wordImpl_text hw]
      show _ = _ ++ (w ++ 32 :: joinL 32 (w2 :: ws))
      simp

noncomputable def implChange (l : List UInt8) : Option GC := match implFold (splitL 32 l) noneC with | none => none | some g => if changeOkB g = true then some g else none
theorem implChange_eq (l : List UInt8) : implChange l = changeOf l := by
  cases h : changeOf l with
  | some g =>
    obtain ⟨h1, h2⟩ := changeOf_is h
    unfold implChange
    rw [← h2, impl_reads h1]
    show (if _ then _ else _) = _
    rw [if_pos h1]
  | none =>
    unfold implChange
    cases hf : implFold (splitL 32 l) noneC with
    | none => rfl
    | some g =>
      show (if _ then _ else _) = _
      rw [if_neg]
      intro hok
      have hj := implFold_join _ _ _ hf
      rw [join_split, show changeL noneC = [] from rfl, List.nil_append] at hj
      rw [← hj, changeOf_some hok] at h
      cases h

end Go.Proofs.YthndnkafckapnaaGreatDoor
