/- Plain: what a log's text is read as. No program in sight. -/
import Derived.Test.YthndnkafckapnaaGreatDoorLogPut
import Derived.Test.YthndnkafckapnaaGreatDoorReadX
import Derived.Lib.LastIndexByte
namespace Go.Proofs.YthndnkafckapnaaGreatDoor
open Go.RowKit

/-! ### Up to the last byte c -/
def upTo (c : UInt8) : List UInt8 → List UInt8
  | [] => []
  | x :: l => if x = c ∨ c ∈ l then x :: upTo c l else []
theorem upTo_none {c : UInt8} : ∀ {l : List UInt8}, c ∉ l → upTo c l = []
  | [], _ => rfl
  | x :: l, h => by
    unfold upTo
    rw [if_neg]
    rintro (h1 | h1)
    · exact h (by simp [h1])
    · exact h (List.mem_cons_of_mem _ h1)
theorem upTo_app {c : UInt8} : ∀ (p : List UInt8) {d : List UInt8}, c ∉ d → upTo c (p ++ c :: d) = p ++ [c]
  | [], d, h => by
    show (if c = c ∨ c ∈ d then c :: upTo c d else []) = _
    rw [if_pos (.inl rfl), upTo_none h]; rfl
  | x :: p, d, h => by
    show (if x = c ∨ c ∈ p ++ c :: d then x :: upTo c (p ++ c :: d) else []) = _
    rw [if_pos (.inr (by simp)), upTo_app p h]; rfl
/-- A text that is empty or ends in c, and one without c behind it. -/
def endsIn (c : UInt8) (l : List UInt8) : Prop := l = [] ∨ ∃ p, l = p ++ [c]
theorem upTo_end {c : UInt8} {l d : List UInt8} (hl : endsIn c l) (hd : c ∉ d) : upTo c (l ++ d) = l := by
  rcases hl with rfl | ⟨p, rfl⟩
  · exact upTo_none hd
  · rw [List.append_assoc, List.singleton_append, upTo_app p hd]
theorem upTo_snoc {c x : UInt8} (l : List UInt8) (h : x ≠ c) : upTo c (l ++ [x]) = upTo c l := by
  induction l with
  | nil => exact upTo_none (by simp; exact fun e => h e.symm)
  | cons y l ih =>
    show (if y = c ∨ c ∈ l ++ [x] then y :: upTo c (l ++ [x]) else []) = (if y = c ∨ c ∈ l then y :: upTo c l else [])
    have e : c ∈ l ++ [x] ↔ c ∈ l := by simp; exact fun e => absurd e.symm h
    rw [ih]
    by_cases hh : y = c ∨ c ∈ l
    · rw [if_pos hh, if_pos (hh.imp id e.2)]
    · rw [if_neg hh, if_neg (fun k => hh (k.imp id e.1))]
theorem upTo_len (c : UInt8) : ∀ l : List UInt8, (upTo c l).length ≤ l.length
  | [] => Nat.le_refl _
  | x :: l => by
    have := upTo_len c l
    unfold upTo; split <;> simp <;> omega
theorem last_of {c : UInt8} : ∀ {l : List UInt8}, c ∈ l → ∃ p d, l = p ++ c :: d ∧ c ∉ d
  | [], h => by cases h
  | x :: l, h => by
    by_cases hl : c ∈ l
    · obtain ⟨p, d, h1, h2⟩ := last_of hl
      exact ⟨x :: p, d, by rw [h1]; rfl, h2⟩
    · rcases List.mem_cons.1 h with h | h
      · exact ⟨[], l, by rw [h]; rfl, hl⟩
      · exact absurd h hl
theorem split_tail {c : UInt8} {d : List UInt8} (hd : c ∉ d) : ∀ p : List UInt8, ∃ a bs, splitL c (p ++ c :: d) = a :: bs ∧ bs.getLast? = some d
  | [] => ⟨[], [d], by rw [List.nil_append, ← List.nil_append (c :: d), splitL_app (p := []) (by simp), splitL_none hd], rfl⟩
  | x :: p => by
    obtain ⟨a, bs, h1, h2⟩ := split_tail hd p
    by_cases hx : x = c
    · subst hx
      refine ⟨[], a :: bs, ?_, ?_⟩
      · show (if x = x then [] :: splitL x (p ++ x :: d) else _) = _
        rw [if_pos rfl, h1]
      · rw [List.getLast?_cons, h2]; rfl
    · refine ⟨x :: a, bs, ?_, h2⟩
      show (if x = c then [] :: splitL c (p ++ c :: d) else match splitL c (p ++ c :: d) with | [] => [[x]] | p :: ps => (x :: p) :: ps) = _
      rw [if_neg hx, h1]
/-- The words of a text: all but the last make up what stands up to the last c. -/
theorem split_upTo (c : UInt8) (l : List UInt8) : ∃ z, (splitL c l).getLast? = some z ∧ c ∉ z ∧ l = upTo c l ++ z := by
  by_cases h : c ∈ l
  · obtain ⟨p, d, rfl, hd⟩ := last_of h
    obtain ⟨a, bs, h1, h2⟩ := split_tail hd p
    refine ⟨d, ?_, hd, ?_⟩
    · rw [h1, List.getLast?_cons, h2]; rfl
    · rw [upTo_app p hd]; simp
  · exact ⟨l, by rw [splitL_none h]; rfl, h, by rw [upTo_none h]; rfl⟩

/-! ### Records -/
theorem dec_digits (n : Nat) : ∀ c ∈ Lib.decDigits n, 48 ≤ c.toNat ∧ c.toNat ≤ 57 := by
  induction n using Nat.strongRecOn with
  | _ n ih =>
    intro c hc
    rw [Lib.decDigits] at hc
    split at hc
    · simp only [List.mem_singleton] at hc
      subst hc
      have : (UInt8.ofNat (48 + n)).toNat = 48 + n := UInt8.toNat_ofNat_of_lt' (by show _ < 256; omega)
      omega
    · rcases List.mem_append.1 hc with hc | hc
      · exact ih (n / 10) (by omega) c hc
      · simp only [List.mem_singleton] at hc
        subst hc
        have : (UInt8.ofNat (48 + n % 10)).toNat = 48 + n % 10 := UInt8.toNat_ofNat_of_lt' (by show _ < 256; omega)
        omega
theorem dec_not (n : Nat) {c : UInt8} (h : c.toNat < 48 ∨ 57 < c.toNat) : c ∉ Lib.decDigits n := fun hc => by have := dec_digits n c hc; omega
theorem dec_pos (n : Nat) : 1 ≤ (Lib.decDigits n).length := by
  rw [Lib.decDigits]; split <;> simp
theorem signed_ends (c : UInt8) : ∀ l : List GA, endsIn 32 (signedL c l)
  | [] => .inl rfl
  | a :: l => by
    have e : signedL c (a :: l) = ([c] ++ atomL a ++ [32]) ++ signedL c l := by simp [signedL]
    rcases signed_ends c l with h | ⟨p, h⟩
    · exact .inr ⟨[c] ++ atomL a, by rw [e, h, List.append_nil]⟩
    · exact .inr ⟨[c] ++ atomL a ++ [32] ++ p, by rw [e, h]; simp only [List.append_assoc]⟩
theorem change_ends (g : GC) : endsIn 32 (changeL g) := by
  unfold changeL
  rcases signed_ends 43 g.comes with h | ⟨p, h⟩
  · rw [h, List.append_nil]; exact signed_ends 45 _
  · exact .inr ⟨signedL 45 g.goes ++ p, by rw [h, List.append_assoc]⟩

/-- What stands behind a record's time. -/
def recTail (t : Int) (l : List UInt8) : List UInt8 := l ++ Lib.decDigits (sumI (logHead t l)).toNat
theorem logLine_tail (t : Int) (l : List UInt8) : logLine t l = (Lib.decDigits t.toNat ++ 58 :: recTail t l) ++ [10] := by
  unfold logLine recTail
  show (Lib.decDigits t.toNat ++ [58] ++ l) ++ _ ++ [10] = _
  simp
theorem recTail_upTo (t : Int) (g : GC) : upTo 32 (recTail t (changeL g)) = changeL g := upTo_end (change_ends g) (dec_not _ (by decide))
theorem line_inj {t : Int} {g h : GC} (hg : changeOkB g = true) (hh : changeOkB h = true) (e : logLine t (changeL g) = logLine t (changeL h)) : g = h := by
  rw [logLine_tail, logLine_tail] at e
  have e1 := List.append_cancel_right e
  have e2 := List.append_cancel_left e1
  injection e2 with _ e2
  have e3 := congrArg (upTo 32) e2
  rw [recTail_upTo, recTail_upTo] at e3
  have h1 := changeOf_some hg
  rw [e3, changeOf_some hh] at h1
  injection h1 with h1
  exact h1.symm

open Classical in
/-- The change whose record under a time a line is. -/
noncomputable def recOf (t : Nat) (l : List UInt8) : Option GC := if h : ∃ g, changeOkB g = true ∧ logLine t (changeL g) = l ++ [10] then some h.choose else none
theorem recOf_some {t : Nat} {g : GC} {l : List UInt8} (h : changeOkB g = true) (e : logLine t (changeL g) = l ++ [10]) : recOf t l = some g := by
  have hx : ∃ g, changeOkB g = true ∧ logLine t (changeL g) = l ++ [10] := ⟨g, h, e⟩
  unfold recOf
  rw [dif_pos hx]
  exact congrArg some (line_inj hx.choose_spec.1 h (hx.choose_spec.2.trans e.symm))
theorem recOf_is {t : Nat} {g : GC} {l : List UInt8} (h : recOf t l = some g) : changeOkB g = true ∧ logLine t (changeL g) = l ++ [10] := by
  unfold recOf at h
  split at h
  · rename_i hx
    injection h with h
    exact h ▸ hx.choose_spec
  · cases h
theorem recOf_none {t : Nat} {l : List UInt8} (h : ∀ g, changeOkB g = true → logLine t (changeL g) ≠ l ++ [10]) : recOf t l = none := by
  cases e : recOf t l with
  | none => rfl
  | some g => exact absurd (recOf_is e).2 (h g (recOf_is e).1)
theorem recOf_len {t : Nat} {g : GC} {l : List UInt8} (h : recOf t l = some g) : 3 ≤ l.length := by
  have h1 := congrArg List.length (recOf_is h).2
  rw [logLine_tail] at h1
  unfold recTail at h1
  have h2 := dec_pos (t : Int).toNat
  have h3 := dec_pos (sumI (logHead (t : Int) (changeL g))).toNat
  simp only [List.length_append, List.length_cons, List.length_nil] at h1
  omega

/-! #### as the reference reads a line -/
theorem specRec_head {t : Nat} {l : List UInt8} (h : l.take ((Lib.decDigits t).length + 1) ≠ Lib.decDigits t ++ [58]) : recOf t l = none := by
  apply recOf_none
  intro g _ e
  rw [logLine_tail] at e
  have e := List.append_cancel_right e
  apply h
  rw [← e, show Lib.decDigits (t : Int).toNat ++ 58 :: recTail t (changeL g) = (Lib.decDigits t ++ [58]) ++ recTail t (changeL g) from by simp]
  exact List.take_left' (by simp)
theorem specRec_text {t : Nat} {l r : List UInt8} (hl : l = Lib.decDigits t ++ 58 :: r) (h : changeOf (upTo 32 r) = none) : recOf t l = none := by
  apply recOf_none
  intro g hg e
  rw [logLine_tail, hl] at e
  have e := List.append_cancel_right e
  have e := List.append_cancel_left e
  injection e with _ e
  rw [← e, recTail_upTo, changeOf_some hg] at h
  cases h
theorem specRec_yes {t : Nat} {l r : List UInt8} {g : GC} (h : changeOf (upTo 32 r) = some g) (e : logLine t (upTo 32 r) = l ++ [10]) : recOf t l = some g := by
  obtain ⟨h1, h2⟩ := changeOf_is h
  exact recOf_some h1 (by rw [h2]; exact e)
theorem specRec_no {t : Nat} {l r : List UInt8} (hl : l = Lib.decDigits t ++ 58 :: r) (e : logLine t (upTo 32 r) ≠ l ++ [10]) : recOf t l = none := by
  apply recOf_none
  intro g hg e2
  apply e
  have e3 := e2
  rw [logLine_tail, hl] at e3
  have e3 := List.append_cancel_right e3
  have e3 := List.append_cancel_left e3
  injection e3 with _ e3
  rw [← e3, recTail_upTo]; exact e2

/-! #### as the program reads a line with its newline -/
theorem implRec_colon {t : Nat} {l : List UInt8} (h : (58 : UInt8) ∉ l ++ [10]) : recOf t l = none := by
  apply recOf_none
  intro g _ e
  rw [← e, logLine_tail] at h
  exact h (by simp)
theorem implRec_text {t : Nat} {l p r : List UInt8} (hl : l ++ [10] = p ++ 58 :: r) (hp : (58 : UInt8) ∉ p) {g : GC} (hg : changeOkB g = true) (e : logLine t (changeL g) = l ++ [10]) : upTo 32 r = changeL g := by
  rw [hl, logLine_tail, List.append_assoc, List.cons_append] at e
  have h1 := index_one 58 (Lib.decDigits (t : Int).toNat)
  have hd : (58 : UInt8) ∉ Lib.decDigits (t : Int).toNat := dec_not _ (by decide)
  have e1 := congrArg (splitL 58) e
  rw [splitL_app hd, splitL_app hp] at e1
  injection e1 with e1 e2
  rw [e1] at e
  have e3 := List.append_cancel_left e
  injection e3 with _ e3
  rw [← e3, upTo_snoc _ (by decide), recTail_upTo]
theorem implRec_yes {t : Nat} {l : List UInt8} {g : GC} (h : logPutL t g = l ++ [10]) : recOf t l = some g := by
  unfold logPutL at h
  split at h
  · rename_i hb
    simp only [Bool.and_eq_true] at hb
    exact recOf_some hb.1 h
  · simp at h
theorem implRec_none {t : Nat} {l p r : List UInt8} (hl : l ++ [10] = p ++ 58 :: r) (hp : (58 : UInt8) ∉ p) (h : changeOf (upTo 32 r) = none) : recOf t l = none := by
  apply recOf_none
  intro g hg e
  rw [implRec_text hl hp hg e, changeOf_some hg] at h
  cases h
theorem implRec_no {t : Nat} {l p r : List UInt8} (ht : t ≤ 100000) (hl : l ++ [10] = p ++ 58 :: r) (hp : (58 : UInt8) ∉ p) {g : GC} (h : changeOf (upTo 32 r) = some g) (hn : logPutL t g ≠ l ++ [10]) : recOf t l = none := by
  apply recOf_none
  intro g' hg e
  rw [implRec_text hl hp hg e, changeOf_some hg] at h
  injection h with h
  subst h
  apply hn
  unfold logPutL timeB
  rw [hg, inB_yes (by omega) (by omega)]
  exact e

/-! ### Logs -/
noncomputable def logRead : Nat → List (List UInt8) → List GC × Nat
  | _, [] => ([], 0)
  | t, w :: ws => match ws with
    | [] => ([], 0)
    | _ :: _ => match recOf t w with
      | none => ([], 0)
      | some g => (g :: (logRead (t + 1) ws).1, w.length + 1 + (logRead (t + 1) ws).2)
theorem logRead_one (t : Nat) (w : List UInt8) : logRead t [w] = ([], 0) := rfl
theorem logRead_none {t : Nat} {w : List UInt8} {ws : List (List UInt8)} (h : recOf t w = none) : logRead t (w :: ws) = ([], 0) := by
  cases ws with
  | nil => rfl
  | cons a b => show (match recOf t w with | none => _ | some g => _) = _; rw [h]
theorem logRead_some {t : Nat} {w : List UInt8} {ws : List (List UInt8)} {g : GC} (hw : ws ≠ []) (h : recOf t w = some g) : logRead t (w :: ws) = (g :: (logRead (t + 1) ws).1, w.length + 1 + (logRead (t + 1) ws).2) := by
  cases ws with
  | nil => exact absurd rfl hw
  | cons a b => show (match recOf t w with | none => _ | some g => _) = _; rw [h]
noncomputable def logGetL (l : List UInt8) : List GC × Nat := if l.length > 400000 then ([], 0) else logRead 0 (splitL 10 l)

def wsum (ws : List (List UInt8)) : Nat := (ws.map fun w => w.length + 1).sum
theorem wsum_split (c : UInt8) (l : List UInt8) : wsum (splitL c l) = l.length + 1 := by
  have h := split_weight c l
  have key : ∀ ws : List (List UInt8), wsum ws = (ws.map List.length).sum + ws.length := by
    intro ws
    induction ws with
    | nil => rfl
    | cons w ws ih => unfold wsum at ih ⊢; simp only [List.map_cons, List.sum_cons, List.length_cons]; omega
  rw [key]; exact h
theorem wsum_drop {ws : List (List UInt8)} {i : Nat} (h : i < ws.length) : wsum (ws.drop i) = ws[i].length + 1 + wsum (ws.drop (i + 1)) := by
  unfold wsum
  rw [List.drop_eq_getElem_cons h, List.map_cons, List.sum_cons]

end Go.Proofs.YthndnkafckapnaaGreatDoor
