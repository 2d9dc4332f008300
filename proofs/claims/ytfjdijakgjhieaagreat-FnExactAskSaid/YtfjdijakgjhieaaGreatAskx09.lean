/- Texts of the proof: ParseQ, RlS, Bin. -/
import Derived.Test.YtfjdijakgjhieaaGreatAskx08
import Derived.Lib.IndexMore
import Derived.Test.YtfjdijakgjhieaaGreatAskx04
import Derived.Test.YtfjdijakgjhieaaGreatAskx07
import Derived.Test.YtfjdijakgjhieaaGreatAskx06
import Derived.Test.YtfjdijakgjhieaaGreatAskx02
import Derived.Deep.DeepCutAuto
import Derived.BigQuiet
namespace Go.Proofs.YtfjdijakgjhieaaGreat
open Go.RowKit

def joinL (c : UInt8) : List (List UInt8) → List UInt8
  | [] => []
  | [p] => p
  | p :: q :: r => p ++ c :: joinL c (q :: r)
theorem join_split (c : UInt8) : ∀ l : List UInt8, joinL c (splitL c l) = l
  | [] => rfl
  | x :: l => by
    have ih := join_split c l
    have hne := splitL_ne c l
    unfold splitL
    split
    · rename_i hx
      subst hx
      cases hs : splitL x l with
      | nil => exact absurd hs hne
      | cons p ps =>
        rw [hs] at ih
        show [] ++ x :: joinL x (p :: ps) = _
        rw [ih]; rfl
    · cases hs : splitL c l with
      | nil => exact absurd hs hne
      | cons p ps =>
        rw [hs] at ih
        cases ps with
        | nil => show x :: p = _; rw [← ih]; rfl
        | cons q r => show (x :: p) ++ c :: joinL c (q :: r) = _; rw [← ih]; rfl

/-- A word as a term. -/
def argOf (l : List UInt8) : GT := ⟨capB (strOf l), strOf l⟩
theorem argOf_ok {t : GT} (h : termOkB t = true) : argOf t.n.data.toList = t := by
  have hv := term_var h
  have e : strOf t.n.data.toList = t.n := strOf_list t.n
  unfold argOf
  rw [e, ← hv]
theorem args_of {l : List GT} (h : ∀ t ∈ l, termOkB t = true) (hl : l ≠ []) : (splitL 44 (namesL l)).map argOf = l := by
  rw [namesL_split h hl, List.map_map]
  conv => rhs; rw [← List.map_id l]
  exact List.map_congr_left fun t ht => argOf_ok (h t ht)
theorem names_of : ∀ ws : List (List UInt8), namesL (ws.map argOf) = joinL 44 ws
  | [] => rfl
  | [p] => rfl
  | p :: q :: r => by
    have ih := names_of (q :: r)
    show (strOf p).data.toList ++ [44] ++ namesL ((q :: r).map argOf) = _
    rw [ih, list_strOf, List.append_assoc]; rfl

def argsOf (inner : List UInt8) : List GT := if inner = [] then [] else (splitL 44 inner).map argOf
theorem argsOf_names {l : List GT} (h : ∀ t ∈ l, termOkB t = true) : argsOf (namesL l) = l := by
  unfold argsOf
  by_cases hl : l = []
  · subst hl; rfl
  · rw [if_neg (namesL_pos h hl), args_of h hl]
theorem names_argsOf (inner : List UInt8) : namesL (argsOf inner) = inner := by
  unfold argsOf
  by_cases h : inner = []
  · rw [if_pos h, h]; rfl
  · rw [if_neg h, names_of, join_split]
def atomPutL (a : GA) : List UInt8 := if atomOkB a = true then atomL a else []

/-- As the reference reads an atom. -/
def specAtom (l : List UInt8) : Option GA :=
  match splitL 40 l with
  | [p, q] => if l.length ≤ 1500 ∧ q ≠ [] ∧ atomPutL ⟨strOf p, argsOf q.dropLast⟩ = l then some ⟨strOf p, argsOf q.dropLast⟩ else none
  | _ => none
theorem specAtom_eq (l : List UInt8) : specAtom l = atomOf l := by
  cases h : atomOf l with
  | some a =>
    obtain ⟨h1, h2⟩ := atomOf_is h
    have hs := atom_split h1
    have hp := atom_parts h1
    unfold specAtom
    rw [← h2, hs]
    have e : (⟨strOf a.n.data.toList, argsOf (namesL a.args ++ [41]).dropLast⟩ : GA) = a := by
      rw [List.dropLast_concat, argsOf_names hp.2.2]
      rfl
    show (if _ then _ else _) = _
    rw [e, if_pos]
    refine ⟨Nat.le_trans (atomL_ok_len h1) (by omega), by simp, ?_⟩
    unfold atomPutL
    rw [if_pos h1]
  | none =>
    unfold specAtom
    split
    · rename_i p q hs
      rw [if_neg]
      rintro ⟨_, hq, hput⟩
      have hl : l ≠ [] := by
        intro e
        subst e
        simp [splitL] at hs
      unfold atomPutL at hput
      split at hput
      · rename_i hok
        rw [← hput, atomOf_some hok] at h
        cases h
      · exact hl hput.symm
    · rfl

theorem index_one (c : UInt8) : ∀ l : List UInt8, (c ∉ l ∧ Lib.index l [c] = -1) ∨ ∃ p r, l = p ++ c :: r ∧ c ∉ p ∧ Lib.index l [c] = p.length
  | [] => .inl ⟨by simp, rfl⟩
  | x :: l => by
    by_cases hx : c = x
    · subst hx
      exact .inr ⟨[], l, rfl, by simp, by unfold Lib.index; simp⟩
    · have hpre : List.isPrefixOf [c] (x :: l) = false := by simp [List.isPrefixOf, hx]
      rcases index_one c l with ⟨h1, h2⟩ | ⟨p, r, rfl, h1, h2⟩
      · refine .inl ⟨by simp [hx, h1], ?_⟩
        unfold Lib.index; rw [hpre, h2]; rfl
      · refine .inr ⟨x :: p, r, rfl, by simp [hx, h1], ?_⟩
        unfold Lib.index
        rw [hpre, h2]
        have : ((p.length : Int) == -1) = false := by rw [beq_eq_false_iff_ne]; omega
        rw [this]
        simp
theorem cut_one (c : UInt8) (l : List UInt8) : (c ∉ l ∧ Lib.cut l [c] = (l, [], false)) ∨ ∃ p r, l = p ++ c :: r ∧ c ∉ p ∧ Lib.cut l [c] = (p, r, true) := by
  rcases index_one c l with ⟨h1, h2⟩ | ⟨p, r, h0, h1, h2⟩
  · refine .inl ⟨h1, ?_⟩
    unfold Lib.cut; rw [h2]; rfl
  · refine .inr ⟨p, r, h0, h1, ?_⟩
    unfold Lib.cut
    rw [h2, if_pos (by omega), h0]
    simp

/-- As the program reads an atom. -/
def implAtom (l : List UInt8) : Option GA :=
  if l.length ≤ 1500 ∧ (Lib.cut l [40]).2.2 = true ∧ (Lib.cut l [40]).2.1.getLast? = some 41 ∧ atomOkB ⟨strOf (Lib.cut l [40]).1, argsOf (Lib.cut l [40]).2.1.dropLast⟩ = true then some ⟨strOf (Lib.cut l [40]).1, argsOf (Lib.cut l [40]).2.1.dropLast⟩ else none
theorem implAtom_eq (l : List UInt8) : implAtom l = atomOf l := by
  cases h : atomOf l with
  | some a =>
    obtain ⟨h1, h2⟩ := atomOf_is h
    have hp := atom_parts h1
    have hl : l = a.n.data.toList ++ 40 :: (namesL a.args ++ [41]) := by rw [← h2]; unfold atomL; simp
    have hn : (40 : UInt8) ∉ a.n.data.toList := fun hc => okByte_ne (name_ok hp.1 40 hc) 40 rfl rfl
    have hc : Lib.cut l [40] = (a.n.data.toList, namesL a.args ++ [41], true) := by
      rcases cut_one 40 l with ⟨h3, _⟩ | ⟨p, r, h3, h4, h5⟩
      · exact absurd (by rw [hl]; simp) h3
      · have e1 := splitL_app (l := r) h4
        have e2 := splitL_app (l := namesL a.args ++ [41]) hn
        rw [← h3] at e1
        rw [← hl, e1] at e2
        have e3 : p = a.n.data.toList := by injection e2
        rw [h3, e3] at hl
        have e4 := List.append_cancel_left hl
        injection e4 with _ e4
        rw [h5, e3, e4]
    have e : (⟨strOf a.n.data.toList, argsOf (namesL a.args ++ [41]).dropLast⟩ : GA) = a := by
      rw [List.dropLast_concat, argsOf_names hp.2.2]
      rfl
    unfold implAtom
    rw [hc]
    simp only [e]
    rw [if_pos]
    exact ⟨by rw [← h2]; exact Nat.le_trans (atomL_ok_len h1) (by omega), trivial, by simp, h1⟩
  | none =>
    unfold implAtom
    rw [if_neg]
    rintro ⟨_, h2, h3, h4⟩
    rcases cut_one 40 l with ⟨_, h5⟩ | ⟨p, r, h5, _, h6⟩
    · rw [h5] at h2; cases h2
    · rw [h6] at h3 h4
      have hr : r = r.dropLast ++ [41] := by
        have hne : r ≠ [] := by intro e; subst e; cases h3
        have h7 := List.dropLast_concat_getLast hne
        have h8 : r.getLast hne = 41 := by
          rw [List.getLast?_eq_some_getLast hne] at h3
          injection h3
        rw [h8] at h7
        exact h7.symm
      have : atomL ⟨strOf p, argsOf r.dropLast⟩ = l := by
        unfold atomL
        rw [names_argsOf, list_strOf, h5]
        conv => rhs; rw [hr]
        simp
      rw [← this, atomOf_some h4] at h
      cases h

/-! ### Changes -/
def noneC : GC := ⟨[], []⟩
noncomputable def wordSpec (w : List UInt8) (g : GC) : Option GC :=
  match w with
  | [] => none
  | x :: r => (atomOf r).map fun a => if x = 45 then ⟨g.comes, g.goes ++ [a]⟩ else ⟨g.comes ++ [a], g.goes⟩
noncomputable def wordImpl (w : List UInt8) (g : GC) : Option GC :=
  match w with
  | [] => none
  | x :: r => (atomOf r).bind fun a => if x = 45 ∧ g.comes = [] then some ⟨g.comes, g.goes ++ [a]⟩ else if x = 43 then some ⟨g.comes ++ [a], g.goes⟩ else none
theorem wordSpec_cons (x : UInt8) (r : List UInt8) (g : GC) : wordSpec (x :: r) g = (atomOf r).map fun a => if x = 45 then ⟨g.comes, g.goes ++ [a]⟩ else ⟨g.comes ++ [a], g.goes⟩ := rfl
theorem wordImpl_cons (x : UInt8) (r : List UInt8) (g : GC) : wordImpl (x :: r) g = (atomOf r).bind fun a => if x = 45 ∧ g.comes = [] then some ⟨g.comes, g.goes ++ [a]⟩ else if x = 43 then some ⟨g.comes ++ [a], g.goes⟩ else none := rfl
noncomputable def specFold : List (List UInt8) → GC → Option GC
  | [], g => some g
  | w :: ws, g => match ws with
    | [] => some g
    | _ :: _ => (wordSpec w g).bind fun g' => specFold ws g'
noncomputable def implFold : List (List UInt8) → GC → Option GC
  | [], _ => none
  | w :: ws, g => match ws with
    | [] => if w = [] then some g else none
    | _ :: _ => (wordImpl w g).bind fun g' => implFold ws g'
theorem specFold_two (w p : List UInt8) (q : List (List UInt8)) (g : GC) : specFold (w :: p :: q) g = (wordSpec w g).bind fun g' => specFold (p :: q) g' := rfl
theorem implFold_two (w p : List UInt8) (q : List (List UInt8)) (g : GC) : implFold (w :: p :: q) g = (wordImpl w g).bind fun g' => implFold (p :: q) g' := rfl

open Classical in
noncomputable def changeOf (l : List UInt8) : Option GC := if h : ∃ g, changeOkB g = true ∧ changeL g = l then some h.choose else none
theorem changeOk_ok {g : GC} (h : changeOkB g = true) : (∀ a ∈ g.comes, atomOkB a = true) ∧ ∀ a ∈ g.goes, atomOkB a = true := by
  unfold changeOkB at h
  simp only [Bool.and_eq_true] at h
  have key : ∀ xs, factsB xs 300 = true → ∀ a ∈ xs, atomOkB a = true := fun xs hx a ha => by
    unfold factsB at hx
    simp only [Bool.and_eq_true] at hx
    exact factB_ok (List.all_eq_true.1 hx.1.1 a ha)
  exact ⟨key _ h.1.1, key _ h.1.2⟩
theorem words_ne {c : UInt8} (l : List GA) (m : List (List UInt8)) (hm : m ≠ []) : ∃ p q, wordsOf c l ++ m = p :: q := by
  cases l with
  | nil => cases m with
    | nil => exact absurd rfl hm
    | cons p q => exact ⟨p, q, rfl⟩
  | cons a l => exact ⟨_, _, rfl⟩
theorem specFold_goes : ∀ (l : List GA) (m : List (List UInt8)) (g : GC), m ≠ [] → (∀ a ∈ l, atomOkB a = true) → specFold (wordsOf 45 l ++ m) g = specFold m ⟨g.comes, g.goes ++ l⟩
  | [], m, g, _, _ => by simp [wordsOf]
  | a :: l, m, g, hm, h => by
    have ih := specFold_goes l m ⟨g.comes, g.goes ++ [a]⟩ hm (fun a ha => h a (List.mem_cons_of_mem _ ha))
    obtain ⟨p, q, hpq⟩ := words_ne (c := 45) l m hm
    show specFold ((45 :: atomL a) :: (wordsOf 45 l ++ m)) g = _
    rw [hpq] at ih ⊢
    have hw : wordSpec (45 :: atomL a) g = some ⟨g.comes, g.goes ++ [a]⟩ := by rw [wordSpec_cons, atomOf_some (h a (by simp))]; rfl
    rw [specFold_two, hw, Option.bind_some, ih, List.append_assoc]
    rfl
theorem specFold_comes : ∀ (l : List GA) (m : List (List UInt8)) (g : GC), m ≠ [] → (∀ a ∈ l, atomOkB a = true) → specFold (wordsOf 43 l ++ m) g = specFold m ⟨g.comes ++ l, g.goes⟩
  | [], m, g, _, _ => by simp [wordsOf]
  | a :: l, m, g, hm, h => by
    have ih := specFold_comes l m ⟨g.comes ++ [a], g.goes⟩ hm (fun a ha => h a (List.mem_cons_of_mem _ ha))
    obtain ⟨p, q, hpq⟩ := words_ne (c := 43) l m hm
    show specFold ((43 :: atomL a) :: (wordsOf 43 l ++ m)) g = _
    rw [hpq] at ih ⊢
    have hw : wordSpec (43 :: atomL a) g = some ⟨g.comes ++ [a], g.goes⟩ := by rw [wordSpec_cons, atomOf_some (h a (by simp))]; rfl
    rw [specFold_two, hw, Option.bind_some, ih, List.append_assoc]
    rfl
theorem implFold_goes : ∀ (l : List GA) (m : List (List UInt8)) (g : GC), m ≠ [] → g.comes = [] → (∀ a ∈ l, atomOkB a = true) → implFold (wordsOf 45 l ++ m) g = implFold m ⟨g.comes, g.goes ++ l⟩
  | [], m, g, _, _, _ => by simp [wordsOf]
  | a :: l, m, g, hm, hg, h => by
    have ih := implFold_goes l m ⟨g.comes, g.goes ++ [a]⟩ hm hg (fun a ha => h a (List.mem_cons_of_mem _ ha))
    obtain ⟨p, q, hpq⟩ := words_ne (c := 45) l m hm
    show implFold ((45 :: atomL a) :: (wordsOf 45 l ++ m)) g = _
    rw [hpq] at ih ⊢
    have hw : wordImpl (45 :: atomL a) g = some ⟨g.comes, g.goes ++ [a]⟩ := by
      rw [wordImpl_cons, atomOf_some (h a (by simp)), Option.bind_some]
      exact if_pos ⟨rfl, hg⟩
    rw [implFold_two, hw, Option.bind_some, ih, List.append_assoc]
    rfl
theorem implFold_comes : ∀ (l : List GA) (m : List (List UInt8)) (g : GC), m ≠ [] → (∀ a ∈ l, atomOkB a = true) → implFold (wordsOf 43 l ++ m) g = implFold m ⟨g.comes ++ l, g.goes⟩
  | [], m, g, _, _ => by simp [wordsOf]
  | a :: l, m, g, hm, h => by
    have ih := implFold_comes l m ⟨g.comes ++ [a], g.goes⟩ hm (fun a ha => h a (List.mem_cons_of_mem _ ha))
    obtain ⟨p, q, hpq⟩ := words_ne (c := 43) l m hm
    show implFold ((43 :: atomL a) :: (wordsOf 43 l ++ m)) g = _
    rw [hpq] at ih ⊢
    have hw : wordImpl (43 :: atomL a) g = some ⟨g.comes ++ [a], g.goes⟩ := by
      rw [wordImpl_cons, atomOf_some (h a (by simp)), Option.bind_some]
      exact (if_neg (by rintro ⟨e, _⟩; exact absurd e (by decide))).trans (if_pos rfl)
    rw [implFold_two, hw, Option.bind_some, ih, List.append_assoc]
    rfl
theorem spec_reads {g : GC} (h : changeOkB g = true) : specFold (splitL 32 (changeL g)) noneC = some g := by
  obtain ⟨h1, h2⟩ := changeOk_ok h
  rw [change_split h1 h2, specFold_goes _ _ _ (by simp) h2, specFold_comes _ _ _ (by simp) h1]
  rfl
theorem impl_reads {g : GC} (h : changeOkB g = true) : implFold (splitL 32 (changeL g)) noneC = some g := by
  obtain ⟨h1, h2⟩ := changeOk_ok h
  rw [change_split h1 h2, implFold_goes _ _ _ (by simp) rfl h2, implFold_comes _ _ _ (by simp) h1]
  rfl
theorem changeOf_some {g : GC} (h : changeOkB g = true) : changeOf (changeL g) = some g := by
  have hx : ∃ b, changeOkB b = true ∧ changeL b = changeL g := ⟨g, h, rfl⟩
  unfold changeOf
  rw [dif_pos hx]
  have h1 := spec_reads hx.choose_spec.1
  rw [hx.choose_spec.2, spec_reads h] at h1
  exact h1.symm
theorem changeOf_is {l : List UInt8} {g : GC} (h : changeOf l = some g) : changeOkB g = true ∧ changeL g = l := by
  unfold changeOf at h
  split at h
  · rename_i hx
    injection h with h
    exact h ▸ hx.choose_spec
  · cases h

noncomputable def specChange (l : List UInt8) : Option GC := match specFold (splitL 32 l) noneC with | none => none | some g => if changePutL g = l then some g else none
theorem specChange_eq (l : List UInt8) : specChange l = changeOf l := by
  cases h : changeOf l with
  | some g =>
    obtain ⟨h1, h2⟩ := changeOf_is h
    unfold specChange
    rw [← h2, spec_reads h1]
    show (if _ then _ else _) = _
    rw [if_pos]
    unfold changePutL
    rw [if_pos h1]
  | none =>
    unfold specChange
    cases hf : specFold (splitL 32 l) noneC with
    | none => rfl
    | some g =>
      show (if _ then _ else _) = _
      rw [if_neg]
      intro hp
      unfold changePutL at hp
      split at hp
      · rename_i hok
        rw [← hp, changeOf_some hok] at h
        cases h
      · subst hp
        have hg : g = noneC := by
          have : specFold (splitL 32 []) noneC = some noneC := rfl
          rw [this] at hf
          injection hf with hf
          exact hf.symm
        have : changeOf (changeL noneC) = some noneC := changeOf_some rfl
        rw [show changeL noneC = [] from rfl, h] at this
        cases this

theorem signedL_snoc (c : UInt8) (l : List GA) (a : GA) : signedL c (l ++ [a]) = signedL c l ++ ((c :: atomL a) ++ [32]) := by simp [signedL]
theorem wordImpl_text {w : List UInt8} {g g1 : GC} (h : wordImpl w g = some g1) : changeL g1 = changeL g ++ (w ++ [32]) := by
  cases w with
  | nil => cases h
  | cons x r =>
    rw [wordImpl_cons] at h
    cases ha : atomOf r with
    | none => rw [ha] at h; cases h
    | some a =>
      obtain ⟨_, hr⟩ := atomOf_is ha
      rw [ha, Option.bind_some] at h
      split at h
      · rename_i hx
        obtain ⟨rfl, hg⟩ := hx
        injection h with h
        subst h
        unfold changeL
        rw [signedL_snoc, hg, hr]
        simp [signedL]
      · split at h
        · rename_i hx
          subst hx
          injection h with h
          subst h
          unfold changeL
          rw [signedL_snoc, hr]
          simp
        · cases h
theorem implFold_join : ∀ (ws : List (List UInt8)) (g g' : GC), implFold ws g = some g' → changeL g' = changeL g ++ joinL 32 ws
  | [], g, g', h => by cases h
  | [w], g, g', h => by
    have h2 : (if w = [] then some g else none) = some g' := h
    split at h2
    · rename_i hw
      subst hw
      injection h2 with h2
      subst h2
      show _ = _ ++ []
      rw [List.append_nil]
    · cases h2
  | w :: w2 :: ws, g, g', h => by
    rw [implFold_two] at h
    cases hw : wordImpl w g with
    | none => rw [hw] at h; cases h
    | some g1 =>
      rw [hw, Option.bind_some] at h
      rw [implFold_join (w2 :: ws) g1 g' h, wordImpl_text hw]
      show _ = _ ++ (w ++ 32 :: joinL 32 (w2 :: ws))
      simp

noncomputable def implChange (l : List UInt8) : Option GC := match implFold (splitL 32 l) noneC with | none => none | some g => if changeOkB g = true then some g else none
theorem implChange_eq (l : List UInt8) : implChange l = changeOf l := by
  cases h : changeOf l with
  | some g =>
    obtain ⟨h1, h2⟩ := changeOf_is h
    unfold implChange
    rw [← h2, impl_reads h1]
    show (if _ then _ else _) = _
    rw [if_pos h1]
  | none =>
    unfold implChange
    cases hf : implFold (splitL 32 l) noneC with
    | none => rfl
    | some g =>
      show (if _ then _ else _) = _
      rw [if_neg]
      intro hok
      have hj := implFold_join _ _ _ hf
      rw [join_split, show changeL noneC = [] from rfl, List.nil_append] at hj
      rw [← hj, changeOf_some hok] at h
      cases h

end Go.Proofs.YtfjdijakgjhieaaGreat

namespace Go.Proofs.YtfjdijakgjhieaaGreat
set_option linter.unusedSimpArgs false
set_option linter.unusedVariables false
open Go.RowKit

def partOkB (p : GP) : Bool := atomOkB p.atom
theorem ruleOkB_eq (r : GR) : ruleOkB r = (r.body.all partOkB && (atomOkB r.head && decide (r.body.length ≤ 4))) := rfl

set_option maxHeartbeats 1000000 in
theorem specRule_any (r : GR) (v u : Value) (w : World) {S T : Nat → Prop} (hs : r.head.n.size ≤ maxLen) (hv : TermsR S w v r.head.args) (hu : PartsR T w u r.body) :
    Calls Tryz.prog 132 #[.agg #[.string r.head.n, v, u]] w fun e w' => e = .returned (.bool (ruleOkB r)) ∧ Ext w w' := by
  obtain ⟨A, c, rfl, hc1, hc2⟩ := SliceR.form hv
  obtain ⟨B, d, rfl, hd1, hd2⟩ := SliceR.form hu
  have HV := Lib.hid (hv.ext ((Ext.refl w).alloc (.cells #[.string r.head.n, .slice A r.head.args.length c, .slice B r.body.length d] 93)))
  have HU := Lib.hid (hu.ext ((Ext.refl w).alloc (.cells #[.string r.head.n, .slice A r.head.args.length c, .slice B r.body.length d] 93)))
  have HB := Lib.hid (Blk.new w 93 #[.string r.head.n, .slice A r.head.args.length c, .slice B r.body.length d])
  clear hv hu
  go_enter Tryz.func132, Tryz.ntmps132
  go_wp2
  go_loopw [3] (fun i wr => ∃ k : Nat, k ≤ r.body.length ∧ i = .int .i64 k ∧ Hid ((r.body.take k).all partOkB = true) ∧ Ext (w.alloc (.cells #[.string r.head.n, .slice A r.head.args.length c, .slice B r.body.length d] 93)) wr) (fun i _ => r.body.length - (intOf i).toNat)
  case atStart => exact ⟨0, Nat.zero_le _, rfl, rfl, Ext.refl _⟩
  case round =>
    obtain ⟨k, hk, rfl, hp, hx⟩ := hrel
    have hb1 := HB.out.ext hx
    have q0 := hb1.cell 0
    have q1 := hb1.cell 1
    have q2 := hb1.cell 2
    have hl := hb1.lt
    clear hb1
    by_cases hlt : k < r.body.length
    · obtain ⟨b, off, x, y, rfl, hb, hxk, hxs, htx, p0, p1, p2⟩ := PartsR.at_ (HU.out.ext hx) hlt
      obtain ⟨C, e, rfl, he1, he2⟩ := SliceR.form htx
      have HK := Lib.hid hxk
      have hw := bool_ways (specAtomOk_any x.atom _ wr hxs htx)
      clear hxk htx
      cases ht : atomOkB x.atom
      · have HF := Lib.hid (show ruleOkB r = false from by rw [ruleOkB_eq, all_false partOkB _ k x HK.out ht]; rfl)
        have HW := Lib.hid (hw.2 ht)
        clear hw ht
        go_wp2_with (go_at_call 13; refine HW.out.mono ?_; rintro e w1 ⟨rfl, hx1⟩)
        go_ret
        exact ⟨by rw [HF.out]; rfl, ((Ext.refl _).alloc _).trans' (hx.trans' hx1)⟩
      · have HP := Lib.hid (show (r.body.take (k + 1)).all partOkB = true from by rw [all_snoc partOkB _ k x HK.out, hp.out, show partOkB x = true from ht]; rfl)
        have HW := Lib.hid (hw.1 ht)
        clear hw ht
        go_wp2_with (go_at_call 13; refine HW.out.mono ?_; rintro e w1 ⟨rfl, hx1⟩)
        go_roundw
        case rel => exact ⟨k + 1, by omega, by go_num, HP, hx.trans' hx1⟩
        case measure => simp [intOf]; omega
    · have hall := all_whole partOkB _ k hlt hp.out
      have hw := bool_ways (specAtomOk_any r.head _ wr hs (HV.out.ext hx))
      clear hp
      cases hn : atomOkB r.head
      · have HF := Lib.hid (show ruleOkB r = false from by rw [ruleOkB_eq, hn, hall]; rfl)
        have HW := Lib.hid (hw.2 hn)
        clear hw hn hall
        go_wp2_with (go_at_call 13; refine HW.out.mono ?_; rintro e w1 ⟨rfl, hx1⟩)
        go_ret
        exact ⟨by rw [HF.out]; rfl, ((Ext.refl _).alloc _).trans' (hx.trans' hx1)⟩
      · have HF := Lib.hid (show ruleOkB r = decide (r.body.length ≤ 4) from by rw [ruleOkB_eq, hn, hall]; rfl)
        have HW := Lib.hid (hw.1 hn)
        clear hw hn hall
        go_wp2_with (go_at_call 13; refine HW.out.mono ?_; rintro e w1 ⟨rfl, hx1⟩; have hb2 := (HB.out.ext (hx.trans' hx1)); have p2 := hb2.cell 2; have hl2 := hb2.lt; clear hb2)
        go_ret
        refine ⟨ret_bool ?_, ((Ext.refl _).alloc _).trans' (hx.trans' hx1)⟩
        rw [HF.out]
        exact decide_eq_decide.2 (by omega)

/-! ### Texts, ascending -/
theorem str_info : (Tryz.prog.info? 9).map (fun i => (i.zero, i.size, i.bytes)) = some (some (.string ByteArray.empty), 1, 16) := by kernel_rfl
theorem ltS_less (a b : ByteArray) : Op.bytesLess a.toList b.toList = ltS a b := by
  unfold ltS
  cases h : Op.bytesLess a.toList b.toList
  · cases h2 : (!a.toList == b.toList)
    · have := cmpS_same h h2
      unfold cmpS at this
      rw [this]; rfl
    · have := cmpS_more h h2
      unfold cmpS at this
      rw [this]; rfl
  · have := cmpS_less h
    unfold cmpS at this
    rw [this]; rfl
theorem str_ne' {a b : ByteArray} (h : a ≠ b) : (a.toList == b.toList) = false := by
  rw [beq_eq_false_iff_ne, ByteArray.toList_eq, ByteArray.toList_eq]
  intro e
  apply h
  cases a; cases b
  simp at e
  rw [e]
theorem putS_len (l : List ByteArray) (s : ByteArray) : (putS l s).length ≤ l.length + 1 := by
  induction l with
  | nil => exact Nat.le_refl _
  | cons x l ih =>
    unfold putS
    split
    · simp; exact ih
    · split <;> simp

/-- Texts hold no memory. -/
theorem OwnK.strs {S S' : Nat → Prop} {w : World} {v : Value} {xs : List ByteArray} {base : Nat} {e : TypeId} (h : OwnK kStr base e S w v xs) : OwnK kStr base e S' w v xs := by
  obtain ⟨rows, T, h1, h2, _, _⟩ := h
  exact ⟨rows, fun _ => False, h1, h2, fun _ h => h.elim, fun _ _ h => h⟩

set_option maxRecDepth 100000 in
set_option maxHeartbeats 4000000 in
theorem l2Put_in (v : Value) (xs : List ByteArray) (s : ByteArray) (w : World) {S : Nat → Prop} (hv : StrsR S w v xs) (hs : s.size ≤ maxLen) (hn : xs.length ≤ 1000000) :
    Calls Tryz.prog 135 #[v, .string s] w fun e w' => (∃ v', e = .returned v' ∧ StrsR (fun b => S b ∨ w.heap.size ≤ b) w' v' (putS xs s)) ∧ Ext w w' := by
  obtain ⟨A, c, rfl, hc1, hc2⟩ := SliceR.form hv
  obtain ⟨i0, hi0, hz0, hz1, hz2⟩ := info_parts str_info
  have HV := Lib.hid hv
  clear hv
  go_enter Tryz.func135, Tryz.ntmps135
  go_wp2
  go_loopw [5] (fun i wr => ∃ k : Nat, k ≤ xs.length ∧ i = .int .i64 k ∧ Hid (∀ i x, i < k → xs[i]? = some x → ltS x s = true) ∧ w = wr) (fun i _ => xs.length - (intOf i).toNat)
  case atStart => exact ⟨0, Nat.zero_le _, rfl, Lib.hid (fun i x h => absurd h (Nat.not_lt_zero _)), rfl⟩
  case round =>
    obtain ⟨k, hk, rfl, hlow, rfl⟩ := hrel
    have hk0 : (0 : Int) ≤ (k : Int) := by omega
    have hk1 : (k : Int) ≤ (c : Int) := by omega
    have hk2 : (k : Int) ≤ (xs.length : Int) := by omega
    have hend : ∀ hw : whileS xs s = k, xs[k]? ≠ some s → putS xs s = xs.take k ++ [s] ++ xs.drop k := fun hw hne => by rw [putS_eq, hw, if_neg hne]
    by_cases hlt : k < xs.length
    · obtain ⟨b, off, x, rfl, hb, hxk, hxs, p0⟩ := StrsR.at_ HV.out hlt
      cases hl : ltS x s
      · have hw : whileS xs s = k := whileS_is hk hlow.out (fun y hy => by rw [hxk] at hy; injection hy with hy; subst hy; exact hl)
        have hbl : Op.bytesLess x.toList s.toList = false := (ltS_less x s).trans hl
        by_cases he : x = s
        · have HP := Lib.hid (show putS xs s = xs from by rw [putS_eq, hw, if_pos (by rw [hxk, he])])
          have he1 : (x.toList == s.toList) = true := by rw [he]; exact beq_self_eq_true _
          clear hw hend hl hxk hlow he
          go_wp2
          go_ret
          exact ⟨⟨_, rfl, by rw [HP.out]; exact StrsR.imp HV.out (fun _ h => .inl h) (.refl _ _) (Nat.le_refl _)⟩, Ext.refl _⟩
        · have HP := Lib.hid (hend hw (by rw [hxk]; intro e; injection e with e; exact he e))
          have he1 : (x.toList == s.toList) = false := str_ne' he
          clear hw hend hl hxk hlow he
          go_wp2
          clear p0 hb
          generalize (some (⟨b, off, none⟩ : Addr)) = A at HV ⊢
          have HE1 := Lib.hid (show ∀ W, Ext w W → ElemsK kStr (fun b => b < w.heap.size) W (.slice A k c) (xs.take k) from fun W hW =>
            ElemsK.ext ((ListK.elems (k := kStr) (SliceR.fst HV.out k hk)).sub (fun b hb hlt => hlt)) hW)
          have HE2 := Lib.hid (show ∀ W, Ext w W → kStr.E (fun b => b < w.heap.size) W [.string s] s from fun W hW => ⟨rfl, hs⟩)
          have HE3 := Lib.hid (show ∀ W, Ext w W → ElemsK kStr (fun b => b < w.heap.size) W (.slice (if c = k then A else A.map (·.add k)) (xs.length - k) (c - k)) (xs.drop k) from fun W hW =>
            ElemsK.ext ((ListK.elems (k := kStr) (by have h := SliceR.drop HV.out k hk; simp only [Nat.mul_one] at h; exact h)).sub (fun b hb hlt => hlt)) hW)
          have hlk : (xs.take k).length = k := by rw [List.length_take]; omega
          go_region_held3 (fun _ => True) (exact trivial)
            (first
              | (refine step_appL (o := ⟨some 37, _, _, _, _, _⟩) (k := kStr) (S := fun b => b < w.heap.size) (T := fun b => b < w.heap.size) (base := w.heap.size) (v := .slice (some ⟨_, 0, none⟩) 0 0) (xs := []) (ys := xs.take k) (by rfl) (.tmp 33) (.tmp 36) 56 (by rfl) i0 _ 16 Tryz.underlying56 hi0 hz0 hz1 hz2 (by rfl) (by rfl)
                  (by first | exact OwnK.drew (OwnK.empty rfl (Nat.le_refl _)) | exact OwnK.drew (OwnK.alloc (OwnK.empty rfl (Nat.le_refl _)) _) | exact OwnK.drew (OwnK.empty (w := w.alloc _) (by simp) (by simp))) A k c (by rfl) (HE1.out _ (by first | exact Ext.drew (Ext.alloc (Ext.refl _) _) | exact Ext.drew (Ext.alloc (Ext.alloc (Ext.refl _) _) _))) (fun b hb => ⟨hb, hb⟩) (maxOf (by simp; omega)) (by simp; omega) (by go_size) ?_
                 intro v1 w2 hap1; obtain ⟨A1, n1, c1, rfl, hn1, hd11, hd12⟩ := hap1.own.form2; have HX2 := Lib.hid (hap1.toExt (w0 := w) (by first | exact Ext.drew (Ext.alloc (Ext.refl _) _) | exact Ext.drew (Ext.alloc (Ext.alloc (Ext.refl _) _) _)) (Nat.le_refl _)); have HA1 := Lib.hid hap1; clear hap1)
              | (refine step_appL (o := ⟨some 40, _, _, _, _, _⟩) (k := kStr) (S := fun b => b < w.heap.size) (T := fun b => b < w.heap.size) (base := w.heap.size) (xs := [] ++ xs.take k) (ys := [s]) (by rfl) (.tmp 37) (.tmp 39) 56 (by rfl) i0 _ 16 Tryz.underlying56 hi0 hz0 hz1 hz2 (by rfl) (by rfl)
                  (by first | exact HA1.out.own | exact OwnK.alloc HA1.out.own _) _ 1 1 (by rfl) (ElemsK.one (k := kStr) (x := s) (by first | exact Blk.at_new rfl | exact HA1.out.blk2 (Blk.drew (Blk.at_new (w := w.alloc _) (by simp))) (by simp [Value.ownBlock]) | exact HA1.out.blk2 (Blk.drew (Blk.alloc (Blk.at_new rfl) _)) (by simp [Value.ownBlock])) (HE2.out _ (by first | exact HX2.out | exact Ext.alloc HX2.out _))) (fun b hb => ⟨hb, hb⟩) (maxOf (by simp; omega)) (by simp; omega) (by have := HX2.out.size; go_size) ?_
                 intro v2 w3 hap2; obtain ⟨A2, n2, c2, rfl, hn2, hd21, hd22⟩ := hap2.own.form2; have HX3 := Lib.hid (hap2.toExt (w0 := w) (by first | exact HX2.out | exact Ext.alloc HX2.out _) (Nat.le_refl _)); have HA2 := Lib.hid hap2; clear hap2)
              | (refine step_appL (o := ⟨some 44, _, _, _, _, _⟩) (k := kStr) (S := fun b => b < w.heap.size) (T := fun b => b < w.heap.size) (base := w.heap.size) (xs := ([] ++ xs.take k) ++ [s]) (ys := xs.drop k) (by rfl) (.tmp 40) (.tmp 43) 56 (by rfl) i0 _ 16 Tryz.underlying56 hi0 hz0 hz1 hz2 (by rfl) (by rfl)
                  (by exact HA2.out.own) _ _ _ (by rfl) (HE3.out _ HX3.out) (fun b hb => ⟨hb, hb⟩) (maxOf (by simp; omega)) (by simp; omega) (by have := HX3.out.size; go_size) ?_
                 intro v3 w4 hap3; obtain ⟨A3, n3, c3, rfl, hn3, hd31, hd32⟩ := hap3.own.form2; have HX4 := Lib.hid (hap3.toExt (w0 := w) HX3.out (Nat.le_refl _)); have HA3 := Lib.hid hap3; clear hap3))
          all_goals go_wp2
          all_goals
            go_ret
            refine ⟨⟨_, rfl, ?_⟩, HX4.out⟩
            rw [HP.out]
            have h := (OwnK.strs (S' := None) HA3.out.own).list (S' := fun b => S b ∨ w.heap.size ≤ b) (fun b hb => hb.elim) (fun b hb => .inr hb)
            simp only [List.nil_append] at h
            exact h
      · have hbl : Op.bytesLess x.toList s.toList = true := (ltS_less x s).trans hl
        have HL := Lib.hid (show ∀ i y, i < k + 1 → xs[i]? = some y → ltS y s = true from fun i y hi hy => by
          rcases Nat.lt_or_ge i k with h | h
          · exact hlow.out i y h hy
          · rw [show i = k from by omega, hxk] at hy; injection hy with hy; subst hy; exact hl)
        clear hend hl hxk hlow
        go_wp2
        go_roundw
        case rel => exact ⟨k + 1, by omega, by go_num, HL, trivial⟩
        case measure => simp [intOf]; omega
    · have hw : whileS xs s = k := whileS_is hk hlow.out (fun y hy => by rw [List.getElem?_eq_none (by omega)] at hy; cases hy)
      have HP := Lib.hid (hend hw (by rw [List.getElem?_eq_none (by omega)]; simp))
      clear hw hend hlow
      go_wp2
      have HE1 := Lib.hid (show ∀ W, Ext w W → ElemsK kStr (fun b => b < w.heap.size) W (.slice A k c) (xs.take k) from fun W hW =>
        ElemsK.ext ((ListK.elems (k := kStr) (SliceR.fst HV.out k hk)).sub (fun b hb hlt => hlt)) hW)
      have HE2 := Lib.hid (show ∀ W, Ext w W → kStr.E (fun b => b < w.heap.size) W [.string s] s from fun W hW => ⟨rfl, hs⟩)
      have HE3 := Lib.hid (show ∀ W, Ext w W → ElemsK kStr (fun b => b < w.heap.size) W (.slice (if c = k then A else A.map (·.add k)) (xs.length - k) (c - k)) (xs.drop k) from fun W hW =>
        ElemsK.ext ((ListK.elems (k := kStr) (by have h := SliceR.drop HV.out k hk; simp only [Nat.mul_one] at h; exact h)).sub (fun b hb hlt => hlt)) hW)
      have hlk : (xs.take k).length = k := by rw [List.length_take]; omega
      go_region_held3 (fun _ => True) (exact trivial)
        (first
          | (refine step_appL (o := ⟨some 37, _, _, _, _, _⟩) (k := kStr) (S := fun b => b < w.heap.size) (T := fun b => b < w.heap.size) (base := w.heap.size) (v := .slice (some ⟨_, 0, none⟩) 0 0) (xs := []) (ys := xs.take k) (by rfl) (.tmp 33) (.tmp 36) 56 (by rfl) i0 _ 16 Tryz.underlying56 hi0 hz0 hz1 hz2 (by rfl) (by rfl)
              (by first | exact OwnK.drew (OwnK.empty rfl (Nat.le_refl _)) | exact OwnK.drew (OwnK.alloc (OwnK.empty rfl (Nat.le_refl _)) _) | exact OwnK.drew (OwnK.empty (w := w.alloc _) (by simp) (by simp))) A k c (by rfl) (HE1.out _ (by first | exact Ext.drew (Ext.alloc (Ext.refl _) _) | exact Ext.drew (Ext.alloc (Ext.alloc (Ext.refl _) _) _))) (fun b hb => ⟨hb, hb⟩) (maxOf (by simp; omega)) (by simp; omega) (by go_size) ?_
             intro v1 w2 hap1; obtain ⟨A1, n1, c1, rfl, hn1, hd11, hd12⟩ := hap1.own.form2; have HX2 := Lib.hid (hap1.toExt (w0 := w) (by first | exact Ext.drew (Ext.alloc (Ext.refl _) _) | exact Ext.drew (Ext.alloc (Ext.alloc (Ext.refl _) _) _)) (Nat.le_refl _)); have HA1 := Lib.hid hap1; clear hap1)
          | (refine step_appL (o := ⟨some 40, _, _, _, _, _⟩) (k := kStr) (S := fun b => b < w.heap.size) (T := fun b => b < w.heap.size) (base := w.heap.size) (xs := [] ++ xs.take k) (ys := [s]) (by rfl) (.tmp 37) (.tmp 39) 56 (by rfl) i0 _ 16 Tryz.underlying56 hi0 hz0 hz1 hz2 (by rfl) (by rfl)
              (by first | exact HA1.out.own | exact OwnK.alloc HA1.out.own _) _ 1 1 (by rfl) (ElemsK.one (k := kStr) (x := s) (by first | exact Blk.at_new rfl | exact HA1.out.blk2 (Blk.drew (Blk.at_new (w := w.alloc _) (by simp))) (by simp [Value.ownBlock]) | exact HA1.out.blk2 (Blk.drew (Blk.alloc (Blk.at_new rfl) _)) (by simp [Value.ownBlock])) (HE2.out _ (by first | exact HX2.out | exact Ext.alloc HX2.out _))) (fun b hb => ⟨hb, hb⟩) (maxOf (by simp; omega)) (by simp; omega) (by have := HX2.out.size; go_size) ?_
             intro v2 w3 hap2; obtain ⟨A2, n2, c2, rfl, hn2, hd21, hd22⟩ := hap2.own.form2; have HX3 := Lib.hid (hap2.toExt (w0 := w) (by first | exact HX2.out | exact Ext.alloc HX2.out _) (Nat.le_refl _)); have HA2 := Lib.hid hap2; clear hap2)
          | (refine step_appL (o := ⟨some 44, _, _, _, _, _⟩) (k := kStr) (S := fun b => b < w.heap.size) (T := fun b => b < w.heap.size) (base := w.heap.size) (xs := ([] ++ xs.take k) ++ [s]) (ys := xs.drop k) (by rfl) (.tmp 40) (.tmp 43) 56 (by rfl) i0 _ 16 Tryz.underlying56 hi0 hz0 hz1 hz2 (by rfl) (by rfl)
              (by exact HA2.out.own) _ _ _ (by rfl) (HE3.out _ HX3.out) (fun b hb => ⟨hb, hb⟩) (maxOf (by simp; omega)) (by simp; omega) (by have := HX3.out.size; go_size) ?_
             intro v3 w4 hap3; obtain ⟨A3, n3, c3, rfl, hn3, hd31, hd32⟩ := hap3.own.form2; have HX4 := Lib.hid (hap3.toExt (w0 := w) HX3.out (Nat.le_refl _)); have HA3 := Lib.hid hap3; clear hap3))
      all_goals go_wp2
      all_goals
        go_ret
        refine ⟨⟨_, rfl, ?_⟩, HX4.out⟩
        rw [HP.out]
        have h := (OwnK.strs (S' := None) HA3.out.own).list (S' := fun b => S b ∨ w.heap.size ≤ b) (fun b hb => hb.elim) (fun b hb => .inr hb)
        simp only [List.nil_append] at h
        exact h

theorem l2Put_any (v : Value) (xs : List ByteArray) (s : ByteArray) (w : World) {S : Nat → Prop} (hv : StrsR S w v xs) (hs : s.size ≤ maxLen) (hn : xs.length ≤ 1000000) :
    Calls Tryz.prog 135 #[v, .string s] w fun e w' => (∃ v', e = .returned v' ∧ StrsR Any w' v' (putS xs s)) ∧ Ext w w' :=
  (l2Put_in v xs s w hv hs hn).mono fun e w' ⟨⟨v', h1, h2⟩, h3⟩ => ⟨⟨v', h1, StrsR.imp h2 (fun _ _ => trivial) (.refl _ _) (Nat.le_refl _)⟩, h3⟩

/-! ### Variables -/
def varsTo (os : List ByteArray) (l : List GT) : List ByteArray := ((l.filter (·.v)).map (·.n)).foldl putS os
theorem varsTo_snoc (os : List ByteArray) (l : List GT) (x : GT) : varsTo os (l ++ [x]) = if x.v then putS (varsTo os l) x.n else varsTo os l := by
  unfold varsTo
  rw [List.filter_append, List.map_append, List.foldl_append]
  cases h : x.v <;> simp [h]
theorem varsTo_len (os : List ByteArray) : ∀ l : List GT, (varsTo os l).length ≤ os.length + l.length := by
  intro l
  unfold varsTo
  generalize hvs : (l.filter (·.v)).map (·.n) = vs
  have hl : vs.length ≤ l.length := by rw [← hvs, List.length_map]; exact List.length_filter_le _ _
  clear hvs
  have key : ∀ (vs os : List ByteArray), (vs.foldl putS os).length ≤ os.length + vs.length := by
    intro vs
    induction vs with
    | nil => intro os; exact Nat.le_refl _
    | cons v vs ih =>
      intro os
      have h1 := ih (putS os v)
      have h2 := putS_len os v
      simp only [List.foldl_cons, List.length_cons]
      omega
  have := key vs os
  omega

set_option maxRecDepth 100000 in
set_option maxHeartbeats 2000000 in
theorem l2Vars_in (a : GA) (v o : Value) (os : List ByteArray) (w : World) {S T : Nat → Prop} (hv : TermsR S w v a.args) (ho : StrsR T w o os) (hn : os.length + a.args.length ≤ 1000000) :
    Calls Tryz.prog 101 #[.agg #[.string a.n, v], o] w fun e w' => (∃ v', e = .returned v' ∧ StrsR (fun b => T b ∨ w.heap.size ≤ b) w' v' (varsPut os a)) ∧ Ext w w' := by
  obtain ⟨A, c, rfl, hc1, hc2⟩ := SliceR.form hv
  have HV := Lib.hid (hv.ext ((Ext.refl w).alloc (.cells #[.string a.n, .slice A a.args.length c] 26)))
  have HO := Lib.hid (StrsR.imp (S' := fun b => T b ∨ w.heap.size ≤ b) ho (fun _ h => .inl h) (.of_ext ((Ext.refl w).alloc (.cells #[.string a.n, .slice A a.args.length c] 26))) (by go_size))
  have HB := Lib.hid (Blk.new w 26 #[.string a.n, .slice A a.args.length c])
  clear hv ho
  go_enter Tryz.func101, Tryz.ntmps101
  go_wp2
  go_loopw [1, 5] (fun o i wr => ∃ k : Nat, k ≤ a.args.length ∧ i = .int .i64 k ∧ Hid (StrsR (fun b => T b ∨ w.heap.size ≤ b) wr o (varsTo os (a.args.take k))) ∧ Ext (w.alloc (.cells #[.string a.n, .slice A a.args.length c] 26)) wr) (fun _ i _ => a.args.length - (intOf i).toNat)
  case atStart => exact ⟨0, Nat.zero_le _, rfl, HO, Ext.refl _⟩
  case round =>
    obtain ⟨k, hk, rfl, ho, hx⟩ := hrel
    have hb1 := HB.out.ext hx
    have q0 := hb1.cell 0
    have q1 := hb1.cell 1
    have hl := hb1.lt
    clear hb1
    obtain ⟨B, d, rfl, hd1, hd2⟩ := SliceR.form ho.out
    obtain ⟨n1, hn1⟩ : ∃ n1, n1 = (varsTo os (a.args.take k)).length := ⟨_, rfl⟩
    have hln := varsTo_len os (a.args.take k)
    rw [List.length_take] at hln
    rw [← hn1] at ho hln ⊢
    by_cases hlt : k < a.args.length
    · obtain ⟨b, off, x, rfl, hb, hxk, hxs, hc0, hc1⟩ := TermsR.at_ (HV.out.ext hx) hlt
      have hstep : varsTo os (a.args.take (k + 1)) = if x.v then putS (varsTo os (a.args.take k)) x.n else varsTo os (a.args.take k) := by
        obtain ⟨hk', rfl⟩ := List.getElem?_eq_some_iff.1 hxk
        rw [List.take_succ_eq_append_getElem hk', varsTo_snoc]
      cases hxv : x.v
      · have HP := Lib.hid (show varsTo os (a.args.take (k + 1)) = varsTo os (a.args.take k) from by rw [hstep, hxv]; rfl)
        rw [hxv] at hc0
        clear hstep hxk hxv hn1
        go_wp2
        go_roundw
        case rel => exact ⟨k + 1, by omega, by go_num, (by rw [HP.out]; exact ho), hx⟩
        case measure => simp [intOf]; omega
      · have HP := Lib.hid (show varsTo os (a.args.take (k + 1)) = putS (varsTo os (a.args.take k)) x.n from by rw [hstep, hxv]; rfl)
        have HL := Lib.hid (show (varsTo os (a.args.take k)).length ≤ 1000000 from by rw [← hn1]; omega)
        rw [hxv] at hc0
        clear hstep hxk hxv hn1
        go_wp2_with (go_at_call 135; refine (l2Put_in _ (varsTo os (a.args.take k)) x.n _ ho.out hxs HL.out).mono ?_; rintro e w1 ⟨⟨v1, rfl, hv1⟩, hx1⟩)
        go_roundw
        case rel => exact ⟨k + 1, by omega, by go_num, Lib.hid (by rw [HP.out]; exact StrsR.imp hv1 (fun b hb => hb.elim id (fun h => .inr (Nat.le_trans (((Ext.refl w).alloc _).trans' hx).size h))) (.refl _ _) (Nat.le_refl _)), hx.trans' hx1⟩
        case measure => simp [intOf]; omega
    · have HP := Lib.hid (show varsTo os (a.args.take k) = varsPut os a from by rw [List.take_of_length_le (by omega)]; rfl)
      clear hn1
      go_wp2
      go_ret
      exact ⟨⟨_, rfl, by rw [← HP.out]; exact ho.out⟩, ((Ext.refl _).alloc _).trans' hx⟩

theorem l2Vars_any (a : GA) (v o : Value) (os : List ByteArray) (w : World) {S T : Nat → Prop} (hv : TermsR S w v a.args) (ho : StrsR T w o os) (hn : os.length + a.args.length ≤ 1000000) :
    Calls Tryz.prog 101 #[.agg #[.string a.n, v], o] w fun e w' => (∃ v', e = .returned v' ∧ StrsR Any w' v' (varsPut os a)) ∧ Ext w w' :=
  (l2Vars_in a v o os w hv ho hn).mono fun e w' ⟨⟨v', h1, h2⟩, h3⟩ => ⟨⟨v', h1, StrsR.imp h2 (fun _ _ => trivial) (.refl _ _) (Nat.le_refl _)⟩, h3⟩

def allTo (o : List ByteArray) (l : List GP) : List ByteArray := l.foldl (fun o p => varsPut o p.atom) o
def boundTo (l : List GP) : List ByteArray := l.foldl (fun o p => if p.no then o else varsPut o p.atom) []
theorem varsPut_len (o : List ByteArray) (a : GA) : (varsPut o a).length ≤ o.length + a.args.length := varsTo_len o a.args

set_option maxRecDepth 100000 in
set_option maxHeartbeats 2000000 in
theorem l2Tight_gen (r : GR) (v u : Value) (w : World) {S T : Nat → Prop} (hs : r.head.n.size ≤ maxLen) (hv : TermsR S w v r.head.args) (hu : PartsR T w u r.body) (hargs : r.head.args.length ≤ 12 ∧ r.body.length ≤ 4 ∧ ∀ p ∈ r.body, p.atom.args.length ≤ 3) :
    Calls Tryz.prog 67 #[.agg #[.string r.head.n, v, u]] w fun e w' => e = .returned (.bool (tightB r)) ∧ Ext w w' := by
  obtain ⟨hh, hbl, hpl⟩ := hargs
  obtain ⟨A, c, rfl, hc1, hc2⟩ := SliceR.form hv
  obtain ⟨B, d, rfl, hd1, hd2⟩ := SliceR.form hu
  have HV := Lib.hid (hv.ext ((Ext.refl w).alloc (.cells #[.string r.head.n, .slice A r.head.args.length c, .slice B r.body.length d] 93)))
  have HU := Lib.hid (hu.ext ((Ext.refl w).alloc (.cells #[.string r.head.n, .slice A r.head.args.length c, .slice B r.body.length d] 93)))
  have HB := Lib.hid (Blk.new w 93 #[.string r.head.n, .slice A r.head.args.length c, .slice B r.body.length d])
  have HPL := Lib.hid hpl
  have htl := tight_len r
  have HT := Lib.hid htl
  have tok : True := trivial
  clear hv hu hpl htl
  go_enter Tryz.func67, Tryz.ntmps67
  go_wp2_with (first
    | (go_at_call 101; refine (l2Vars_any (S := S) (T := Any) r.head _ _ [] _ (HV.out.ext (((Ext.refl _).alloc _).alloc _)) (SliceR.nil_ 0 (Nat.zero_le _) _) (by simp; omega)).mono ?_; rintro e w1 ⟨⟨v1, rfl, hv1⟩, hx1⟩
       have HV1 := Lib.hid hv1
       have HX1 := Lib.hid (((((Ext.refl (w.alloc (.cells #[.string r.head.n, .slice A r.head.args.length c, .slice B r.body.length d] 93)))).alloc (.cells #[] 9)).alloc (.cells #[] 9)).trans' hx1)
       clear hv1 hx1))
  go_loopw [3, 4, 5] (fun bo al i wr => ∃ k : Nat, k ≤ r.body.length ∧ i = .int .i64 k ∧ Hid (StrsR Any wr al (allTo (varsPut [] r.head) (r.body.take k))) ∧ Hid (StrsR Any wr bo (boundTo (r.body.take k))) ∧ Hid ((allTo (varsPut [] r.head) (r.body.take k)).length ≤ 12 + 3 * k ∧ (boundTo (r.body.take k)).length ≤ 3 * k) ∧ Ext (w.alloc (.cells #[.string r.head.n, .slice A r.head.args.length c, .slice B r.body.length d] 93)) wr) (fun _ _ i _ => r.body.length - (intOf i).toNat)
  case atStart => exact ⟨0, Nat.zero_le _, rfl, HV1, Lib.hid (SliceR.nil_ 0 (Nat.zero_le _) _), Lib.hid ⟨by have := varsPut_len [] r.head; show (varsPut [] r.head).length ≤ _; simp at this; omega, Nat.zero_le _⟩, HX1.out⟩
  case round =>
    obtain ⟨k, hk, rfl, hal, hbo, hlen, hx⟩ := hrel
    have hb1 := HB.out.ext hx
    have q0 := hb1.cell 0
    have q1 := hb1.cell 1
    have q2 := hb1.cell 2
    have hl := hb1.lt
    clear hb1
    obtain ⟨C, e, rfl, he1, he2⟩ := SliceR.form hal.out
    obtain ⟨D, f, rfl, hf1, hf2⟩ := SliceR.form hbo.out
    obtain ⟨n1, hn1⟩ : ∃ n1, n1 = (allTo (varsPut [] r.head) (r.body.take k)).length := ⟨_, rfl⟩
    obtain ⟨m1, hm1⟩ : ∃ m1, m1 = (boundTo (r.body.take k)).length := ⟨_, rfl⟩
    rw [← hn1, ← hm1] at hlen
    rw [← hn1] at hal ⊢
    rw [← hm1] at hbo ⊢
    by_cases hlt : k < r.body.length
    · obtain ⟨b, off, x, y, rfl, hb, hxk, hxs, htx, p0, p1, p2⟩ := PartsR.at_ (HU.out.ext hx) hlt
      obtain ⟨E, g, rfl, hg1, hg2⟩ := SliceR.form htx
      have hx3 := HPL.out x (List.mem_of_getElem? hxk)
      have hst : r.body.take (k + 1) = r.body.take k ++ [x] := by
        obtain ⟨hk', rfl⟩ := List.getElem?_eq_some_iff.1 hxk
        exact List.take_succ_eq_append_getElem hk'
      have hA1 : allTo (varsPut [] r.head) (r.body.take (k + 1)) = varsPut (allTo (varsPut [] r.head) (r.body.take k)) x.atom := by
        unfold allTo; rw [hst, List.foldl_append]; rfl
      have hB1 : boundTo (r.body.take (k + 1)) = if x.no then boundTo (r.body.take k) else varsPut (boundTo (r.body.take k)) x.atom := by
        unfold boundTo; rw [hst, List.foldl_append]; rfl
      have HT1 := Lib.hid htx
      have HA1 := Lib.hid hA1
      have HN1 := Lib.hid hn1
      have HM1 := Lib.hid hm1
      clear hxk htx hst hA1 hn1 hm1
      cases hno : x.no
      · have HBB := Lib.hid (show boundTo (r.body.take (k + 1)) = varsPut (boundTo (r.body.take k)) x.atom from by rw [hB1, hno]; rfl)
        rw [hno] at p0
        clear hB1 hno
        go_wp2_with (first
          | (go_at_call 101; have _t := tok; refine (l2Vars_any (T := Any) x.atom _ _ (allTo (varsPut [] r.head) (r.body.take k)) _ HT1.out hal.out (by have h := hlen.out; have h2 := HN1.out; omega)).mono ?_; clear tok _t; rintro e w1 ⟨⟨v1, rfl, hv1⟩, hx1⟩
             have HV2 := Lib.hid hv1
             have HX2 := Lib.hid hx1
             obtain ⟨hcc, hcf⟩ := hx1.cells
             have hz1 := hx1.size
             clear hv1)
          | (go_at_call 101; refine (l2Vars_any (T := Any) x.atom _ _ (boundTo (r.body.take k)) _ (HT1.out.ext HX2.out) (StrsR.imp hbo.out (fun _ h => h) (.of_ext HX2.out) HX2.out.size) (by have h := hlen.out; have h2 := HM1.out; omega)).mono ?_; rintro e w2 ⟨⟨v2, rfl, hv2⟩, hx2⟩
             have HV3 := Lib.hid hv2
             have HX3 := Lib.hid hx2
             clear hv2))
        go_roundw
        case rel =>
          have h1 := varsPut_len (allTo (varsPut [] r.head) (r.body.take k)) x.atom
          have h2 := varsPut_len (boundTo (r.body.take k)) x.atom
          have h3 := hlen.out
          have h4 := HN1.out
          have h5 := HM1.out
          exact ⟨k + 1, by omega, by go_num, Lib.hid (by rw [HA1.out]; exact StrsR.imp HV2.out (fun _ h => h) (.of_ext HX3.out) HX3.out.size), Lib.hid (by rw [HBB.out]; exact HV3.out), Lib.hid ⟨by rw [HA1.out]; omega, by rw [HBB.out]; omega⟩, (hx.trans' HX2.out).trans' HX3.out⟩
        case measure => simp [intOf]; omega
      · have HBB := Lib.hid (show boundTo (r.body.take (k + 1)) = boundTo (r.body.take k) from by rw [hB1, hno]; rfl)
        rw [hno] at p0
        clear hB1 hno
        go_wp2_with (first
          | (go_at_call 101; refine (l2Vars_any (T := Any) x.atom _ _ (allTo (varsPut [] r.head) (r.body.take k)) _ HT1.out hal.out (by have h := hlen.out; have h2 := HN1.out; omega)).mono ?_; rintro e w1 ⟨⟨v1, rfl, hv1⟩, hx1⟩
             have HV2 := Lib.hid hv1
             have HX2 := Lib.hid hx1
             obtain ⟨hcc, hcf⟩ := hx1.cells
             have hz1 := hx1.size
             clear hv1))
        go_roundw
        case rel =>
          have h1 := varsPut_len (allTo (varsPut [] r.head) (r.body.take k)) x.atom
          have h3 := hlen.out
          have h4 := HN1.out
          have h5 := HM1.out
          exact ⟨k + 1, by omega, by go_num, Lib.hid (by rw [HA1.out]; exact HV2.out), Lib.hid (by rw [HBB.out]; exact StrsR.imp hbo.out (fun _ h => h) (.of_ext HX2.out) HX2.out.size), Lib.hid ⟨by rw [HA1.out]; omega, by rw [HBB.out]; omega⟩, hx.trans' HX2.out⟩
        case measure => simp [intOf]; omega
    · have hall : r.body.take k = r.body := List.take_of_length_le (by omega)
      rw [hall] at hn1 hm1
      have HF := Lib.hid (show tightB r = (n1 == m1) from by rw [HT.out, hn1, hm1]; rfl)
      clear hn1 hm1 hlen hal hbo hall
      go_wp2
      go_ret
      refine ⟨ret_bool ?_, ((Ext.refl _).alloc _).trans' hx⟩
      rw [HF.out, Bool.eq_iff_iff]
      simp
      omega

theorem l2Tight_any (r : GR) (v u : Value) (w : World) {S T : Nat → Prop} (hs : r.head.n.size ≤ maxLen) (hv : TermsR S w v r.head.args) (hu : PartsR T w u r.body) (hok : ruleOkB r = true) :
    Calls Tryz.prog 67 #[.agg #[.string r.head.n, v, u]] w fun e w' => e = .returned (.bool (tightB r)) ∧ Ext w w' := by
  refine l2Tight_gen r v u w hs hv hu ?_
  unfold ruleOkB at hok
  simp only [Bool.and_eq_true, List.all_eq_true, decide_eq_true_eq] at hok
  have h1 := (atom_parts hok.2.1).2.1
  exact ⟨by omega, hok.2.2, fun p hp => (atom_parts (hok.1 p hp)).2.1⟩

end Go.Proofs.YtfjdijakgjhieaaGreat

namespace Go.Proofs.YtfjdijakgjhieaaGreat
set_option linter.unusedSimpArgs false
set_option linter.unusedVariables false
open Go.RowKit

set_option maxRecDepth 100000 in
theorem nan_any (x : ByteArray) (w : World) : Calls Tryz.prog 159 #[.string x] w fun e w' => e = .returned (.bool false) ∧ w' = w := by
  have e : (!x.toList == x.toList) = false := by simp
  go_enter Tryz.func159, Tryz.ntmps159
  go_wp2
  go_ret
  first
    | exact ⟨rfl, rfl⟩
    | (refine ⟨?_, rfl⟩; simp)

set_option maxRecDepth 100000 in
theorem less_any (x y : ByteArray) (w : World) : Calls Tryz.prog 170 #[.string x, .string y] w fun e w' => e = .returned (.bool (Op.bytesLess x.toList y.toList)) ∧ w' = w := by
  have tok : True := trivial
  go_enter Tryz.func170, Tryz.ntmps170
  go_wp2_with (first | (go_at_call 159; refine (nan_any _ _).mono ?_; rintro e w1 ⟨rfl, e1⟩; obtain rfl : w = w1 := e1.symm) | fail)
  go_ret
  exact ⟨rfl, rfl⟩

theorem asc_less {xs : List ByteArray} (ha : AscS xs) {i k : Nat} {s x : ByteArray} (hi : xs[i]? = some s) (hk : xs[k]? = some x) : Op.bytesLess x.toList s.toList = decide (k < i) := by
  rw [ltS_less]
  obtain ⟨h1, rfl⟩ := List.getElem?_eq_some_iff.1 hi
  obtain ⟨h2, rfl⟩ := List.getElem?_eq_some_iff.1 hk
  rcases Nat.lt_trichotomy k i with h | h | h
  · rw [decide_eq_true h]; exact List.pairwise_iff_getElem.1 ha k i h2 h1 h
  · subst h; rw [decide_eq_false (by omega)]
    exact ltS_irr _
  · rw [decide_eq_false (by omega)]
    have := List.pairwise_iff_getElem.1 ha i k h1 h2 h
    cases hh : ltS xs[k] xs[i] with
    | false => rfl
    | true => have h3 := ltS_trans hh this; rw [ltS_irr] at h3; cases h3

set_option maxRecDepth 100000 in
set_option maxHeartbeats 4000000 in
theorem binSearch_any (xs : List ByteArray) (v : Value) (s : ByteArray) (i : Nat) (w : World) {V : Nat → Prop} (h : StrsR V w v xs) (ha : AscS xs) (hi : xs[i]? = some s) (hl : xs.length ≤ 4294967296) :
    Calls Tryz.prog 178 #[v, .string s] w fun e w' => e = .returned (.tuple #[.int .i64 (i : Int), .bool true]) ∧ w' = w := by
  obtain ⟨A, c, rfl, hc1, hc2⟩ := SliceR.form h
  have hil : i < xs.length := (List.getElem?_eq_some_iff.1 hi).1
  have HS := Lib.hid h
  have HA := Lib.hid ha
  have HI := Lib.hid hi
  clear h ha hi
  go_enter Tryz.func178, Tryz.ntmps178
  go_wp2_with fail
  go_loopw [7, 8, 9] (fun a b m wr => ∃ lo hi : Nat, a = .int .i64 lo ∧ b = .int .i64 hi ∧ lo ≤ i ∧ i ≤ hi ∧ hi ≤ xs.length ∧ wr = w) (fun a b _ _ => (intOf b - intOf a).toNat)
  case atStart => exact ⟨0, xs.length, rfl, rfl, Nat.zero_le _, by omega, Nat.le_refl _, rfl⟩
  case round =>
    obtain ⟨lo, hi, rfl, rfl, h1, h2, h3, rfl⟩ := hrel
    by_cases hlt : lo < hi
    · have hlt1 : (lo : Int) < (hi : Int) := by omega
      have hm1 : (lo + hi) / 2 < xs.length := by omega
      obtain ⟨b, o, x, rfl, hb, hx, _, hcell⟩ := StrsR.at_ HS.out hm1
      have hls := asc_less HA.out HI.out hx
      by_cases hm : (lo + hi) / 2 < i
      · rw [decide_eq_true hm] at hls
        have HM := Lib.hid hm
        have hm0 : (((lo + hi) / 2 : Nat) : Int) = ((lo : Int) + (hi : Int)) / 2 := by omega
        have HM0 := Lib.hid hm0
        clear hm hm0
        go_wp2_with (first | (go_at_call 170; refine (less_any _ _ _).mono ?_; rintro e w1 ⟨rfl, e1⟩; obtain rfl : wr = w1 := e1.symm) | fail)
        have hm := HM.out
        have hm0 := HM0.out
        go_roundw
        case rel => exact ⟨(lo + hi) / 2 + 1, hi, congrArg _ (by omega), rfl, by omega, h2, h3, trivial⟩
        case measure => simp [intOf]; omega
      · rw [decide_eq_false hm] at hls
        have HM := Lib.hid hm
        have hm0 : (((lo + hi) / 2 : Nat) : Int) = ((lo : Int) + (hi : Int)) / 2 := by omega
        have HM0 := Lib.hid hm0
        clear hm hm0
        go_wp2_with (first | (go_at_call 170; refine (less_any _ _ _).mono ?_; rintro e w1 ⟨rfl, e1⟩; obtain rfl : wr = w1 := e1.symm) | fail)
        have hm := HM.out
        have hm0 := HM0.out
        go_roundw
        case rel => exact ⟨lo, (lo + hi) / 2, rfl, congrArg _ (by omega), h1, by omega, by omega, trivial⟩
        case measure => simp [intOf]; omega
    · have hlt1 : ¬ (lo : Int) < (hi : Int) := by omega
      obtain rfl : lo = hi := by omega
      obtain rfl : lo = i := by omega
      have hi1 : (lo : Int) < (xs.length : Int) := by omega
      obtain ⟨b, o, x, rfl, hb, hx, _, hcell⟩ := StrsR.at_ HS.out hil
      obtain rfl : x = s := Option.some.inj (hx.symm.trans HI.out)
      have e1 : (x.toList == x.toList) = true := by simp
      go_wp2_with fail
      go_ret2
      exact ⟨rfl, rfl⟩

end Go.Proofs.YtfjdijakgjhieaaGreat
