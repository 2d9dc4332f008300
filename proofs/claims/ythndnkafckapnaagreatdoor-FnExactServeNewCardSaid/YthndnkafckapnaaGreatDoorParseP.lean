/- Plain: atoms and changes are read back from their texts. No program in sight. -/
import Derived.Test.YthndnkafckapnaaGreatDoorText
import Derived.Test.YthndnkafckapnaaGreatDoorSpecD
namespace Go.Proofs.YthndnkafckapnaaGreatDoor
open Go.RowKit

/-- A text cut at each byte c. -/
def splitL (c : UInt8) : List UInt8 → List (List UInt8)
  | [] => [[]]
  | x :: l => if x = c then [] :: splitL c l else match splitL c l with | [] => [[x]] | p :: ps => (x :: p) :: ps

theorem splitL_ne (c : UInt8) (l : List UInt8) : splitL c l ≠ [] := by
  cases l with
  | nil => simp [splitL]
  | cons x l =>
    unfold splitL
    split
    · simp
    · split <;> simp
theorem splitL_none {c : UInt8} : ∀ {l : List UInt8}, c ∉ l → splitL c l = [l]
  | [], _ => rfl
  | x :: l, h => by
    have h1 : x ≠ c := fun e => h (by simp [e])
    have h2 : c ∉ l := fun e => h (List.mem_cons_of_mem _ e)
    unfold splitL
    rw [if_neg h1, splitL_none h2]
theorem splitL_app {c : UInt8} : ∀ {p l : List UInt8}, c ∉ p → splitL c (p ++ c :: l) = p :: splitL c l
  | [], l, _ => by simp [splitL]
  | x :: p, l, h => by
    have h1 : x ≠ c := fun e => h (by simp [e])
    have h2 : c ∉ p := fun e => h (List.mem_cons_of_mem _ e)
    have ih := splitL_app (l := l) h2
    show (if x = c then [] :: splitL c (p ++ c :: l) else match splitL c (p ++ c :: l) with | [] => [[x]] | p :: ps => (x :: p) :: ps) = _
    rw [if_neg h1, ih]

/-- A byte of names. -/
def okByte (c : UInt8) : Bool := lowDig c || upper c
theorem okByte_ne {c : UInt8} (h : okByte c = true) (d : UInt8) (hd : okByte d = false) : c ≠ d := fun e => by rw [e, hd] at h; cases h
theorem plain_ok {l : List UInt8} (h : plainB l = true) : ∀ c ∈ l, okByte c = true := fun c hc => by
  have := List.all_eq_true.1 h c hc
  unfold okByte; rw [this]; rfl
theorem name_ok {s : ByteArray} (h : nameOkB s = true) : ∀ c ∈ s.data.toList, okByte c = true := by
  unfold nameOkB lettersB at h
  simp only [Bool.and_eq_true] at h
  exact plain_ok h.1.1
theorem name_pos {s : ByteArray} (h : nameOkB s = true) : 1 ≤ s.size ∧ s.size ≤ 8 := by
  unfold nameOkB lettersB at h
  simp only [Bool.and_eq_true] at h
  have := of_decide_eq_true h.1.2
  omega
theorem term_ok {t : GT} (h : termOkB t = true) : ∀ c ∈ t.n.data.toList, okByte c = true := by
  unfold termOkB at h
  split at h
  · unfold varOkB at h
    simp only [Bool.and_eq_true] at h
    intro c hc
    unfold capB at h
    cases hl : t.n.data.toList with
    | nil => rw [hl] at hc; cases hc
    | cons x l =>
      rw [hl] at h hc
      rcases List.mem_cons.1 hc with rfl | hc
      · have hu : upper c = true := h.1.1
        unfold okByte; rw [hu, Bool.or_true]
      · exact plain_ok h.2 c (by simpa using hc)
  · exact name_ok h
theorem term_pos {t : GT} (h : termOkB t = true) : t.n.data.toList ≠ [] := by
  unfold termOkB at h
  split at h
  · unfold varOkB capB at h
    simp only [Bool.and_eq_true] at h
    intro e
    rw [e] at h
    exact absurd h.1.1 (by simp)
  · intro e
    have := name_pos h
    have hl : t.n.data.toList.length = t.n.size := by simp
    rw [e] at hl; simp at hl; omega
/-- Whether a name is a variable's shows in its first byte. -/
theorem term_var {t : GT} (h : termOkB t = true) : t.v = capB t.n := by
  unfold termOkB at h
  split at h
  · rename_i hv
    unfold varOkB at h
    simp only [Bool.and_eq_true] at h
    rw [hv, h.1.1]
  · rename_i hv
    have hv' : t.v = false := by simpa using hv
    rw [hv']
    unfold nameOkB lettersB at h
    simp only [Bool.and_eq_true] at h
    unfold capB
    cases hl : t.n.data.toList with
    | nil => rfl
    | cons x l =>
      rw [hl] at h
      have h1 : lowDig x = true := List.all_eq_true.1 h.1.1 x (by simp)
      have h2 := lowDig_yes h1
      show false = upper x
      unfold upper
      rw [decide_eq_false (by omega)]

theorem namesL_ok : ∀ {l : List GT}, (∀ t ∈ l, termOkB t = true) → ∀ c ∈ namesL l, okByte c = true ∨ c = 44
  | [], _, c, hc => by simp [namesL] at hc
  | [t], h, c, hc => .inl (term_ok (h t (by simp)) c hc)
  | t :: u :: l, h, c, hc => by
    unfold namesL at hc
    simp only [List.mem_append, List.mem_singleton] at hc
    rcases hc with (hc | hc) | hc
    · exact .inl (term_ok (h t (by simp)) c hc)
    · exact .inr hc
    · exact namesL_ok (l := u :: l) (fun t ht => h t (List.mem_cons_of_mem _ ht)) c hc
theorem namesL_split : ∀ {l : List GT}, (∀ t ∈ l, termOkB t = true) → l ≠ [] → splitL 44 (namesL l) = l.map fun t => t.n.data.toList
  | [], _, h => absurd rfl h
  | [t], h, _ => splitL_none (fun hc => okByte_ne (term_ok (h t (by simp)) 44 hc) 44 rfl rfl)
  | t :: u :: l, h, _ => by
    have ih := namesL_split (l := u :: l) (fun t ht => h t (List.mem_cons_of_mem _ ht)) (by simp)
    show splitL 44 (t.n.data.toList ++ [44] ++ namesL (u :: l)) = _
    rw [List.append_assoc, List.singleton_append, splitL_app (fun hc => okByte_ne (term_ok (h t (by simp)) 44 hc) 44 rfl rfl), ih]
    rfl
theorem namesL_pos {l : List GT} (h : ∀ t ∈ l, termOkB t = true) (hl : l ≠ []) : namesL l ≠ [] := by
  match l, hl with
  | [t], _ => exact term_pos (h t (by simp))
  | t :: u :: l, _ => simp [namesL]

theorem atom_parts {a : GA} (h : atomOkB a = true) : nameOkB a.n = true ∧ a.args.length ≤ 3 ∧ ∀ t ∈ a.args, termOkB t = true := by
  unfold atomOkB at h
  simp only [Bool.and_eq_true, decide_eq_true_eq] at h
  exact ⟨h.1.1, h.1.2, List.all_eq_true.1 h.2⟩
theorem atom_split {a : GA} (h : atomOkB a = true) : splitL 40 (atomL a) = [a.n.data.toList, namesL a.args ++ [41]] := by
  obtain ⟨h1, h2, h3⟩ := atom_parts h
  unfold atomL
  rw [List.append_assoc, List.append_assoc, List.singleton_append, splitL_app (fun hc => okByte_ne (name_ok h1 40 hc) 40 rfl rfl), splitL_none]
  intro hc
  rcases List.mem_append.1 hc with hc | hc
  · rcases namesL_ok h3 40 hc with hc | hc
    · exact okByte_ne hc 40 rfl rfl
    · cases hc
  · simp at hc
theorem bytes_inj {a b : ByteArray} (h : a.data.toList = b.data.toList) : a = b := by
  apply ByteArray.ext
  exact Array.toList_inj.1 h
theorem terms_inj : ∀ {l m : List GT}, (∀ t ∈ l, termOkB t = true) → (∀ t ∈ m, termOkB t = true) → (l.map fun t => t.n.data.toList) = (m.map fun t => t.n.data.toList) → l = m
  | [], [], _, _, _ => rfl
  | [], _ :: _, _, _, h => by simp at h
  | _ :: _, [], _, _, h => by simp at h
  | t :: l, u :: m, hl, hm, h => by
    simp only [List.map_cons, List.cons.injEq] at h
    have hn := bytes_inj h.1
    have hv : t.v = u.v := by rw [term_var (hl t (by simp)), term_var (hm u (by simp)), hn]
    have : t = u := by cases t; cases u; simp_all
    rw [this, terms_inj (fun t ht => hl t (List.mem_cons_of_mem _ ht)) (fun t ht => hm t (List.mem_cons_of_mem _ ht)) h.2]
theorem names_inj {l m : List GT} (hl : ∀ t ∈ l, termOkB t = true) (hm : ∀ t ∈ m, termOkB t = true) (h : namesL l = namesL m) : l = m := by
  by_cases h1 : l = []
  · subst h1
    by_cases h2 : m = []
    · exact h2.symm
    · exact absurd h.symm (namesL_pos hm h2)
  · by_cases h2 : m = []
    · subst h2; exact absurd h (namesL_pos hl h1)
    · exact terms_inj hl hm (by rw [← namesL_split hl h1, ← namesL_split hm h2, h])
theorem atom_inj {a b : GA} (ha : atomOkB a = true) (hb : atomOkB b = true) (h : atomL a = atomL b) : a = b := by
  have h1 := atom_split ha
  have h2 := atom_split hb
  rw [h, h2] at h1
  simp only [List.cons.injEq, and_true] at h1
  have e1 := bytes_inj h1.1
  have e2 := names_inj (atom_parts hb).2.2 (atom_parts ha).2.2 (List.append_cancel_right h1.2)
  cases a; cases b; simp_all

open Classical in
/-- The atom that a text is. -/
noncomputable def atomOf (l : List UInt8) : Option GA := if h : ∃ a, atomOkB a = true ∧ atomL a = l then some h.choose else none
theorem atomOf_some {a : GA} (h : atomOkB a = true) : atomOf (atomL a) = some a := by
  have hx : ∃ b, atomOkB b = true ∧ atomL b = atomL a := ⟨a, h, rfl⟩
  unfold atomOf
  rw [dif_pos hx]
  exact congrArg some (atom_inj hx.choose_spec.1 h hx.choose_spec.2)
theorem atomOf_none {l : List UInt8} (h : ∀ a, atomOkB a = true → atomL a ≠ l) : atomOf l = none := by
  unfold atomOf
  rw [dif_neg]
  rintro ⟨a, h1, h2⟩
  exact h a h1 h2
theorem atomOf_is {l : List UInt8} {a : GA} (h : atomOf l = some a) : atomOkB a = true ∧ atomL a = l := by
  unfold atomOf at h
  split at h
  · rename_i hx
    injection h with h
    exact h ▸ hx.choose_spec
  · cases h
theorem atomL_ok_len {a : GA} (h : atomOkB a = true) : (atomL a).length ≤ 60 := by
  obtain ⟨h1, h2, h3⟩ := atom_parts h
  have h4 := atomL_len a
  have h5 := (name_pos h1).2
  have h6 : ∀ l : List GT, (∀ t ∈ l, termOkB t = true) → (l.map wTerm).sum ≤ l.length * 8 := by
    intro l
    induction l with
    | nil => simp
    | cons t l ih =>
      intro hl
      have := ih (fun t ht => hl t (List.mem_cons_of_mem _ ht))
      have ht := hl t (by simp)
      have : t.n.size ≤ 8 := by
        unfold termOkB at ht
        split at ht
        · unfold varOkB at ht
          simp only [Bool.and_eq_true, decide_eq_true_eq] at ht
          exact ht.1.2
        · exact (name_pos ht).2
      simp only [List.map_cons, List.sum_cons, List.length_cons, wTerm] at *
      omega
  have := h6 a.args h3
  unfold wAtom wTerms at h4
  omega

/-! ### The words of a change -/
theorem atomL_no {a : GA} (h : atomOkB a = true) (d : UInt8) (hd : okByte d = false) (h40 : d ≠ 40) (h41 : d ≠ 41) (h44 : d ≠ 44) : d ∉ atomL a := by
  obtain ⟨h1, h2, h3⟩ := atom_parts h
  intro hc
  unfold atomL at hc
  simp only [List.mem_append, List.mem_singleton] at hc
  rcases hc with ((hc | hc) | hc) | hc
  · exact okByte_ne (name_ok h1 d hc) d hd rfl
  · exact h40 hc
  · rcases namesL_ok h3 d hc with hc | hc
    · exact okByte_ne hc d hd rfl
    · exact h44 hc
  · exact h41 hc
def wordsOf (c : UInt8) (l : List GA) : List (List UInt8) := l.map fun a => c :: atomL a
theorem signed_split {c : UInt8} (hc : c ≠ 32) : ∀ {l : List GA} (m : List UInt8), (∀ a ∈ l, atomOkB a = true) → splitL 32 (signedL c l ++ m) = wordsOf c l ++ splitL 32 m
  | [], m, _ => rfl
  | a :: l, m, h => by
    have ih := signed_split hc (l := l) m (fun a ha => h a (List.mem_cons_of_mem _ ha))
    have e : signedL c (a :: l) ++ m = (c :: atomL a) ++ 32 :: (signedL c l ++ m) := by simp [signedL]
    rw [e, splitL_app, ih]
    · rfl
    · intro hm
      rcases List.mem_cons.1 hm with hm | hm
      · exact hc hm.symm
      · exact atomL_no (h a (by simp)) 32 rfl (by decide) (by decide) (by decide) hm
theorem change_split {g : GC} (h1 : ∀ a ∈ g.comes, atomOkB a = true) (h2 : ∀ a ∈ g.goes, atomOkB a = true) : splitL 32 (changeL g) = wordsOf 45 g.goes ++ (wordsOf 43 g.comes ++ [[]]) := by
  unfold changeL
  rw [signed_split (by decide) _ h2]
  have := signed_split (c := 43) (by decide) [] h1
  rw [List.append_nil] at this
  rw [this]
  rfl
theorem factB_ok {a : GA} (h : factB a = true) : atomOkB a = true := by
  unfold factB at h
  simp only [Bool.and_eq_true] at h
  exact h.1

end Go.Proofs.YthndnkafckapnaaGreatDoor
