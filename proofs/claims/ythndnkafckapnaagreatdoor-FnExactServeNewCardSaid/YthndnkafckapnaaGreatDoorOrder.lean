/- Plain: the order of atoms is total; ascending lists; what the merge of two ascending lists tells. -/
import Derived.Test.YthndnkafckapnaaGreatDoorCommon
import Derived.Test.YthndnkafckapnaaGreatDoorSpecD
namespace Go.Proofs.YthndnkafckapnaaGreatDoor
open Go.RowKit

/-- A comparison that is a total order. -/
structure Total {α : Type} (c : α → α → Int) : Prop where
  eq : ∀ a b, c a b = 0 ↔ a = b
  neg : ∀ a b, c b a = - c a b
  trans : ∀ a b d, c a b < 0 → c b d < 0 → c a d < 0

def lexC {α : Type} (c : α → α → Int) : List α → List α → Int
  | [], [] => 0
  | [], _ :: _ => -1
  | _ :: _, [] => 1
  | a :: x, b :: y => if c a b = 0 then lexC c x y else c a b

theorem lex_eq {α : Type} {c : α → α → Int} (h : Total c) : ∀ x y : List α, lexC c x y = 0 ↔ x = y
  | [], [] => by simp [lexC]
  | [], _ :: _ => by simp [lexC]
  | _ :: _, [] => by simp [lexC]
  | a :: x, b :: y => by
    have ih := lex_eq h x y
    unfold lexC
    by_cases hc : c a b = 0
    · rw [if_pos hc, ih]; have := (h.eq a b).1 hc; subst this; simp
    · rw [if_neg hc]
      have : a ≠ b := fun e => hc ((h.eq a b).2 e)
      simp [hc, this]
theorem lex_neg {α : Type} {c : α → α → Int} (h : Total c) : ∀ x y : List α, lexC c y x = - lexC c x y
  | [], [] => by simp [lexC]
  | [], _ :: _ => by simp [lexC]
  | _ :: _, [] => by simp [lexC]
  | a :: x, b :: y => by
    have ih := lex_neg h x y
    unfold lexC
    by_cases hc : c a b = 0
    · rw [if_pos hc, if_pos (by rw [h.neg a b]; omega), ih]
    · rw [if_neg hc, if_neg (by rw [h.neg a b]; omega), h.neg a b]
theorem lex_trans {α : Type} {c : α → α → Int} (h : Total c) : ∀ x y z : List α, lexC c x y < 0 → lexC c y z < 0 → lexC c x z < 0
  | [], [], z => by simp [lexC]
  | [], _ :: _, [] => by simp [lexC]
  | [], _ :: _, _ :: _ => by simp [lexC]
  | _ :: _, [], z => by simp [lexC]
  | _ :: _, _ :: _, [] => by simp [lexC]
  | a :: x, b :: y, d :: z => by
    have ih := lex_trans h x y z
    unfold lexC
    intro h1 h2
    by_cases e1 : c a b = 0
    · rw [if_pos e1] at h1
      have e1' := (h.eq a b).1 e1
      subst e1'
      by_cases e2 : c a d = 0
      · rw [if_pos e2] at h2 ⊢; exact ih h1 h2
      · rw [if_neg e2] at h2 ⊢; exact h2
    · rw [if_neg e1] at h1
      by_cases e2 : c b d = 0
      · have e2' := (h.eq b d).1 e2
        subst e2'
        rw [if_neg e1]; exact h1
      · rw [if_neg e2] at h2
        have h3 := h.trans a b d h1 h2
        rw [if_neg (by omega)]; exact h3
theorem lex_total {α : Type} {c : α → α → Int} (h : Total c) : Total (lexC c) := ⟨lex_eq h, fun a b => lex_neg h a b, lex_trans h⟩

def cByte (a b : UInt8) : Int := if a.toNat < b.toNat then -1 else if b.toNat < a.toNat then 1 else 0
theorem cByte_total : Total cByte where
  eq a b := by
    unfold cByte
    rw [← UInt8.toNat_inj]
    split
    · constructor <;> intro h <;> omega
    · split
      · constructor <;> intro h <;> omega
      · constructor <;> intro h <;> omega
  neg a b := by
    unfold cByte
    split <;> split <;> omega
  trans a b d := by
    unfold cByte
    intro h1 h2
    split at h1
    · split at h2
      · rw [if_pos (by omega)]; omega
      · split at h2 <;> omega
    · split at h1 <;> omega
theorem cByte_lt (a b : UInt8) : cByte a b = if a < b then -1 else if b < a then 1 else 0 := by
  unfold cByte
  by_cases h1 : a < b
  · rw [if_pos h1, if_pos (UInt8.lt_iff_toNat_lt.1 h1)]
  · rw [if_neg h1, if_neg (fun h => h1 (UInt8.lt_iff_toNat_lt.2 h))]
    by_cases h2 : b < a
    · rw [if_pos h2, if_pos (UInt8.lt_iff_toNat_lt.1 h2)]
    · rw [if_neg h2, if_neg (fun h => h2 (UInt8.lt_iff_toNat_lt.2 h))]
theorem compareBytes_lex : ∀ x y : List UInt8, Lib.compareBytes x y = lexC cByte x y
  | [], [] => rfl
  | [], _ :: _ => rfl
  | _ :: _, [] => rfl
  | a :: x, b :: y => by
    have ih := compareBytes_lex x y
    simp only [Lib.compareBytes, lexC, cByte_lt]
    by_cases h1 : a < b
    · simp [h1]
    · by_cases h2 : b < a
      · simp [h1, h2]
      · simp [h1, h2, ih]
theorem bytes_total : Total (Lib.compareBytes) := by
  have := lex_total cByte_total
  rw [show Lib.compareBytes = lexC cByte from funext fun x => funext fun y => compareBytes_lex x y]
  exact this

/-- What the order looks at. -/
def argKeys (l : List GT) : List (List UInt8) := l.map fun t => t.n.data.toList
def keyA (a : GA) : List (List UInt8) := a.n.data.toList :: argKeys a.args
theorem cmpArgs_lex : ∀ x y : List GT, cmpArgs x y = lexC Lib.compareBytes (argKeys x) (argKeys y)
  | [], [] => rfl
  | [], _ :: _ => rfl
  | _ :: _, [] => rfl
  | s :: x, t :: y => by
    have ih := cmpArgs_lex x y
    unfold cmpArgs
    simp only [argKeys, List.map_cons, lexC] at ih ⊢
    rw [ih]; rfl
theorem cmpA_lex (a b : GA) : cmpA a b = lexC Lib.compareBytes (keyA a) (keyA b) := by
  unfold cmpA keyA lexC
  rw [cmpArgs_lex]; rfl

theorem cmpA_eq (a b : GA) : cmpA a b = 0 ↔ keyA a = keyA b := by rw [cmpA_lex]; exact (lex_total bytes_total).eq _ _
theorem cmpA_neg (a b : GA) : cmpA b a = - cmpA a b := by rw [cmpA_lex, cmpA_lex]; exact (lex_total bytes_total).neg _ _
theorem cmpA_trans {a b d : GA} (h1 : cmpA a b < 0) (h2 : cmpA b d < 0) : cmpA a d < 0 := by
  rw [cmpA_lex] at *; exact (lex_total bytes_total).trans _ _ _ h1 h2

def Asc (l : List GA) : Prop := l.Pairwise fun a b => cmpA a b < 0

theorem asc_of : ∀ (l : List GA), ascB l = true → Asc l
  | [], _ => List.Pairwise.nil
  | [a], _ => List.pairwise_singleton _ _
  | a :: b :: l, h => by
    simp only [ascB, Bool.and_eq_true] at h
    have ih := asc_of (b :: l) h.2
    have hab : cmpA a b < 0 := of_decide_eq_true h.1
    refine List.Pairwise.cons ?_ ih
    intro z hz
    rcases List.mem_cons.1 hz with rfl | hz
    · exact hab
    · exact cmpA_trans hab ((List.pairwise_cons.1 ih).1 z hz)

theorem asc_to : ∀ (l : List GA), Asc l → ascB l = true
  | [], _ => rfl
  | [_], _ => rfl
  | a :: b :: l, h => by
    have h1 := List.pairwise_cons.1 h
    simp only [ascB, Bool.and_eq_true]
    exact ⟨decide_eq_true (h1.1 b (by simp)), asc_to (b :: l) h1.2⟩

theorem hasA_cons_lt {y : GA} {m : List GA} {x : GA} (h : cmpA y x < 0) : hasA (y :: m) x = hasA m x := by
  have hp : placeA (y :: m) x = placeA m x + 1 := by
    unfold placeA; rw [List.takeWhile_cons, if_pos (show ltA y x = true from decide_eq_true h)]; rfl
  unfold hasA; rw [hp]; unfold isAt; rw [List.getElem?_cons_succ]
theorem hasA_cons_ge {y : GA} {m : List GA} {x : GA} (h : ¬ cmpA y x < 0) : hasA (y :: m) x = decide (cmpA y x = 0) := by
  have hp : placeA (y :: m) x = 0 := by
    unfold placeA; rw [List.takeWhile_cons, if_neg (by unfold ltA; simp; omega)]; rfl
  unfold hasA; rw [hp]; rfl

theorem hasA_iff : ∀ (m : List GA) (x : GA), Asc m → (hasA m x = true ↔ ∃ y ∈ m, cmpA y x = 0)
  | [], x, _ => by simp [hasA, isAt]
  | y :: m, x, h => by
    have h1 := List.pairwise_cons.1 h
    have ih := hasA_iff m x h1.2
    by_cases hlt : cmpA y x < 0
    · rw [hasA_cons_lt hlt, ih]
      constructor
      · rintro ⟨z, hz, e⟩; exact ⟨z, List.mem_cons_of_mem _ hz, e⟩
      · rintro ⟨z, hz, e⟩
        rcases List.mem_cons.1 hz with rfl | hz
        · omega
        · exact ⟨z, hz, e⟩
    · rw [hasA_cons_ge hlt]
      constructor
      · intro e; exact ⟨y, by simp, of_decide_eq_true e⟩
      · rintro ⟨z, hz, e⟩
        rcases List.mem_cons.1 hz with rfl | hz
        · exact decide_eq_true e
        · have hyz := h1.1 z hz
          have hxz : cmpA y x < 0 := by
            have e1 := (cmpA_eq z x).1 e
            have : cmpA y x = cmpA y z := by rw [cmpA_lex, cmpA_lex, e1]
            omega
          exact absurd hxz hlt

theorem mergeP_left_all : ∀ (xs : List P2), mergeP xs [] = xs.map fun x => ⟨x.1, x.2, 0⟩
  | [] => rfl
  | x :: xs => by rw [mergeP_left, mergeP_left_all xs]; rfl
theorem mergeP_right_all : ∀ (ys : List P2), mergeP [] ys = ys.map fun y => ⟨y.1, y.2, 1⟩
  | [] => rfl
  | y :: ys => by rw [mergeP_right, mergeP_right_all ys]; rfl

theorem noBoth_iff : ∀ (n : Nat) (xs ys : List P2), xs.length + ys.length ≤ n → Asc (xs.map (·.1)) → Asc (ys.map (·.1)) →
    (noBoth (mergeP xs ys) = true ↔ ∀ x ∈ xs, ∀ y ∈ ys, ¬ cmpA x.1 y.1 = 0)
  | _, [], ys, _, _, _ => by
    rw [mergeP_right_all]; simp [noBoth]
  | _, x :: xs, [], _, _, _ => by
    rw [mergeP_left_all]; simp [noBoth]
  | 0, _ :: _, _ :: _, h, _, _ => by simp at h
  | n + 1, x :: xs, y :: ys, h, hx, hy => by
    have h1 := List.pairwise_cons.1 (show Asc (x.1 :: xs.map (·.1)) from hx)
    have h2 := List.pairwise_cons.1 (show Asc (y.1 :: ys.map (·.1)) from hy)
    have ltx : ∀ z ∈ xs, cmpA x.1 z.1 < 0 := fun z hz => h1.1 z.1 (List.mem_map_of_mem hz)
    have lty : ∀ z ∈ ys, cmpA y.1 z.1 < 0 := fun z hz => h2.1 z.1 (List.mem_map_of_mem hz)
    rcases Int.lt_trichotomy (cmpA x.1 y.1) 0 with hc | hc | hc
    · have ih := noBoth_iff n xs (y :: ys) (by simp at h ⊢; omega) h1.2 hy
      rw [mergeP_lt _ _ hc]
      have : noBoth (⟨x.1, x.2, 0⟩ :: mergeP xs (y :: ys)) = noBoth (mergeP xs (y :: ys)) := by simp [noBoth]
      rw [this, ih]
      constructor
      · intro hh z hz w hw
        rcases List.mem_cons.1 hz with rfl | hz
        · rcases List.mem_cons.1 hw with rfl | hw
          · omega
          · have := cmpA_trans hc (lty w hw); omega
        · exact hh z hz w hw
      · intro hh z hz w hw; exact hh z (List.mem_cons_of_mem _ hz) w hw
    · rw [mergeP_eq _ _ hc]
      have : noBoth (⟨x.1, x.2, 2⟩ :: mergeP xs ys) = false := by simp [noBoth]
      rw [this]
      constructor
      · intro hh; cases hh
      · intro hh; exact absurd hc (hh x (by simp) y (by simp))
    · have ih := noBoth_iff n (x :: xs) ys (by simp at h ⊢; omega) hx h2.2
      rw [mergeP_gt _ _ hc]
      have : noBoth (⟨y.1, y.2, 1⟩ :: mergeP (x :: xs) ys) = noBoth (mergeP (x :: xs) ys) := by simp [noBoth]
      rw [this, ih]
      have hc' : cmpA y.1 x.1 < 0 := by rw [cmpA_neg]; omega
      constructor
      · intro hh z hz w hw
        rcases List.mem_cons.1 hw with rfl | hw
        · rcases List.mem_cons.1 hz with rfl | hz
          · omega
          · have h3 := cmpA_trans hc' (ltx z hz)
            rw [cmpA_neg] at h3; omega
        · exact hh z hz w hw
      · intro hh z hz w hw; exact hh z hz w (List.mem_cons_of_mem _ hw)

theorem noBoth_common {ps qs : List P2} (hx : Asc (ps.map (·.1))) (hy : Asc (qs.map (·.1))) : (!noBoth (mergeP ps qs)) = commonB (ps.map (·.1)) (qs.map (·.1)) := by
  have h := noBoth_iff _ ps qs (Nat.le_refl _) hx hy
  have hc : commonB (ps.map (·.1)) (qs.map (·.1)) = true ↔ ∃ x ∈ ps, ∃ y ∈ qs, cmpA x.1 y.1 = 0 := by
    unfold commonB
    rw [List.any_eq_true]
    constructor
    · rintro ⟨a, ha, hh⟩
      obtain ⟨x, hx1, rfl⟩ := List.mem_map.1 ha
      obtain ⟨b, hb, e⟩ := (hasA_iff _ _ hy).1 hh
      obtain ⟨y, hy1, rfl⟩ := List.mem_map.1 hb
      exact ⟨x, hx1, y, hy1, by rw [cmpA_neg] at e; omega⟩
    · rintro ⟨x, hx1, y, hy1, e⟩
      exact ⟨x.1, List.mem_map_of_mem hx1, (hasA_iff _ _ hy).2 ⟨y.1, List.mem_map_of_mem hy1, by rw [cmpA_neg]; omega⟩⟩
  cases hn : noBoth (mergeP ps qs)
  · symm
    show commonB _ _ = true
    rw [hc]
    rw [hn] at h
    apply Classical.byContradiction
    intro hne
    have : false = true := h.2 (fun x hx1 y hy1 e => hne ⟨x, hx1, y, hy1, e⟩)
    cases this
  · symm
    show commonB _ _ = false
    rw [Bool.eq_false_iff]
    intro ht
    obtain ⟨x, hx1, y, hy1, e⟩ := hc.1 ht
    exact h.1 hn x hx1 y hy1 e

theorem factsB_asc {l : List GA} {n : Nat} (h : factsB l n = true) : Asc l := by
  unfold factsB at h
  simp only [Bool.and_eq_true] at h
  exact asc_of l h.1.2

end Go.Proofs.YthndnkafckapnaaGreatDoor
