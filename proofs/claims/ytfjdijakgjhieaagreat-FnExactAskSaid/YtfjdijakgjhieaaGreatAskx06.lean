/- Texts of the proof: SpecD, Order, RlP. -/
import Derived.Test.YtfjdijakgjhieaaGreatAskx04
import Derived.Test.YtfjdijakgjhieaaGreatAskx05
namespace Go.Proofs.YtfjdijakgjhieaaGreat
open Go.RowKit

/-- The place of a fact, or where it would come. -/
def placeA (l : List GA) (a : GA) : Nat := (l.takeWhile fun x => ltA x a).length
def isAt (l : List GA) (k : Nat) (a : GA) : Bool := match l[k]? with | some x => decide (cmpA x a = 0) | none => false
def hasA (l : List GA) (a : GA) : Bool := isAt l (placeA l a) a

theorem place_eq : ∀ (l : List GA) (a : GA) (k : Nat), ((l.take k).all fun x => ltA x a) = true → k ≤ l.length → (∀ x, l[k]? = some x → ltA x a = false) → placeA l a = k
  | [], a, k, _, hk, _ => by have : k = 0 := by simpa using hk
                             subst this; rfl
  | x :: l, a, 0, _, _, hx => by
    have := hx x rfl
    unfold placeA; rw [List.takeWhile_cons, if_neg (by simp [this])]; rfl
  | x :: l, a, k + 1, h, hk, hx => by
    simp only [List.take_succ_cons, List.all_cons, Bool.and_eq_true] at h
    have ih := place_eq l a k h.2 (by simpa using hk) (fun y hy => hx y (by simpa using hy))
    unfold placeA at ih ⊢
    rw [List.takeWhile_cons, if_pos h.1, List.length_cons, ih]

set_option maxRecDepth 100000 in
set_option maxHeartbeats 2000000 in
theorem l3At_any (v u : Value) (xs : List GA) (a : GA) (w : World) {S T : Nat → Prop} (hv : AtomsR S w v xs) (hu : TermsR T w u a.args) :
    Calls Tryz.prog 78 #[v, .agg #[.string a.n, u]] w fun e w' => e = .returned (.tuple #[.int .i64 (placeA xs a), .bool (hasA xs a)]) ∧ Ext w w' := by
  obtain ⟨A, c, rfl, hc1, hc2⟩ := SliceR.form hv
  obtain ⟨B, d, rfl, hd1, hd2⟩ := SliceR.form hu
  have HV := Lib.hid (hv.ext ((Ext.refl w).alloc (.cells #[.string a.n, .slice B a.args.length d] 26)))
  have HU := Lib.hid (hu.ext ((Ext.refl w).alloc (.cells #[.string a.n, .slice B a.args.length d] 26)))
  clear hv hu
  go_enter Tryz.func78, Tryz.ntmps78
  go_wp2
  go_loopw [6] (fun i wr => ∃ k : Nat, k ≤ xs.length ∧ i = .int .i64 k ∧ Hid (((xs.take k).all fun x => ltA x a) = true) ∧ Ext (w.alloc (.cells #[.string a.n, .slice B a.args.length d] 26)) wr) (fun i _ => xs.length - (intOf i).toNat)
  case atStart => exact ⟨0, Nat.zero_le _, rfl, rfl, Ext.refl _⟩
  case round =>
    obtain ⟨k, hk, rfl, hp, hx⟩ := hrel
    obtain ⟨hcc, hcf⟩ := hx.cells
    have hz1 := hx.size
    simp only [World.size_alloc] at hz1
    have hz2 : w.heap.size < wr.heap.size := by omega
    have hk0 : (0 : Int) ≤ (k : Int) := Int.natCast_nonneg _
    by_cases hlt : k < xs.length
    · obtain ⟨b, off, x, v1, rfl, hb, hxk, hxs, ht, hc0, hc1⟩ := AtomsR.at_ (HV.out.ext hx) hlt
      have hk1 : (k : Int) < (xs.length : Int) := by omega
      have HK := Lib.hid hxk
      have HC := Lib.hid (fun (W : World) (h : Ext wr W) => l1Cmp_any x a v1 _ W (ht.ext h) (HU.out.ext (hx.trans' h)))
      have hg : decide (k < xs.length) = true := decide_eq_true hlt
      clear hxk ht hz1
      by_cases hcmp : cmpA x a < 0
      · have HA := Lib.hid (show ((xs.take (k + 1)).all fun x => ltA x a) = true from by rw [all_snoc _ _ k x HK.out, hp.out]; unfold ltA; simp [hcmp])
        go_wp2_with fail
        refine calm_region (by kernel_rfl) (by kernel_rfl) ?_
        repeat (go_big_quiet_step ((go_at_call 79; exact calm_call (HC.out _ (Later.ext _)))))
        refine wpQuiet_nil ?_
        rintro w1 ⟨⟨_, hx1⟩, rfl⟩
        go_wp2
        go_roundw
        case rel => exact ⟨k + 1, by omega, by go_num, HA, hx.trans' hx1⟩
        case measure => simp [intOf]; omega
      · have HA := Lib.hid (place_eq xs a k hp.out hk (fun y hy => by rw [HK.out] at hy; injection hy with hy; subst hy; unfold ltA; simp [hcmp]))
        have HI := Lib.hid (show hasA xs a = decide (cmpA x a = 0) from by unfold hasA; rw [HA.out]; unfold isAt; rw [HK.out])
        go_wp2_with fail
        refine calm_region (by kernel_rfl) (by kernel_rfl) ?_
        repeat (go_big_quiet_step ((go_at_call 79; exact calm_call (HC.out _ (Later.ext _)))))
        refine wpQuiet_nil ?_
        rintro w1 ⟨⟨_, hx1⟩, rfl⟩
        have HC1 := Lib.hid (fun (W : World) (h : Ext w1 W) => HC.out W (hx1.trans' h))
        obtain ⟨hcc1, hcf1⟩ := hx1.cells
        have hz3 := hx1.size
        have hz4 : w.heap.size < w1.heap.size := by omega
        have hb1 : b < w1.heap.size := by omega
        clear HC hz3
        go_wp2_with fail
        refine calm_region (by kernel_rfl) (by kernel_rfl) ?_
        repeat (go_big_quiet_step ((go_at_call 79; exact calm_call (HC1.out _ (Later.ext _)))))
        refine wpQuiet_nil ?_
        rintro w2 ⟨⟨_, hx2⟩, rfl⟩
        go_wp2
        go_ret2
        exact ⟨by rw [HA.out, HI.out]; simp; rw [Bool.eq_iff_iff]; simp, (((Ext.refl _).alloc _).trans' (hx.trans' hx1)).trans' hx2⟩
    · have HA := Lib.hid (place_eq xs a k hp.out hk (fun y hy => by rw [List.getElem?_eq_none (by omega)] at hy; cases hy))
      have HI := Lib.hid (show hasA xs a = false from by unfold hasA; rw [HA.out]; unfold isAt; rw [List.getElem?_eq_none (by omega)])
      have hg : decide (k < xs.length) = false := decide_eq_false hlt
      clear hz1
      go_wp2_with fail
      refine calm_region (by kernel_rfl) (by kernel_rfl) ?_
      repeat (go_big_quiet_step (fail))
      refine wpQuiet_nil ?_
      rintro w1 ⟨⟨_, hx1⟩, rfl⟩
      obtain ⟨hcc1, hcf1⟩ := hx1.cells
      go_wp2_with fail
      refine calm_region (by kernel_rfl) (by kernel_rfl) ?_
      repeat (go_big_quiet_step (fail))
      refine wpQuiet_nil ?_
      rintro w2 ⟨⟨_, hx2⟩, rfl⟩
      go_wp2
      go_ret2
      exact ⟨by rw [HA.out, HI.out]; rfl, (((Ext.refl _).alloc _).trans' (hx.trans' hx1)).trans' hx2⟩

set_option maxHeartbeats 1000000 in
theorem l3Has_any (v u : Value) (xs : List GA) (a : GA) (w : World) {S T : Nat → Prop} (hv : AtomsR S w v xs) (hu : TermsR T w u a.args) :
    Calls Tryz.prog 40 #[v, .agg #[.string a.n, u]] w fun e w' => e = .returned (.bool (hasA xs a)) ∧ Ext w w' := by
  obtain ⟨A, c, rfl, hc1, hc2⟩ := SliceR.form hv
  obtain ⟨B, d, rfl, hd1, hd2⟩ := SliceR.form hu
  have HV := Lib.hid (hv.ext ((Ext.refl w).alloc (.cells #[.string a.n, .slice B a.args.length d] 26)))
  have HU := Lib.hid (hu.ext ((Ext.refl w).alloc (.cells #[.string a.n, .slice B a.args.length d] 26)))
  clear hv hu
  go_enter Tryz.func40, Tryz.ntmps40
  go_wp2_with (go_at_call 78; refine (l3At_any _ _ xs a _ HV.out HU.out).mono ?_; rintro e w1 ⟨rfl, hx1⟩)
  go_ret
  exact ⟨rfl, ((Ext.refl _).alloc _).trans' hx1⟩

def commonB (l m : List GA) : Bool := l.any fun x => hasA m x
def changeOkB (c : GC) : Bool := factsB c.comes 300 && factsB c.goes 300 && !commonB c.comes c.goes

end Go.Proofs.YtfjdijakgjhieaaGreat

namespace Go.Proofs.YtfjdijakgjhieaaGreat
open Go.RowKit

/-- A comparison that is a total order. -/
structure Total {α : Type} (c : α → α → Int) : Prop where
  eq : ∀ a b, c a b = 0 ↔ a = b
  neg : ∀ a b, c b a = - c a b
  trans : ∀ a b d, c a b < 0 → c b d < 0 → c a d < 0

def lexC {α : Type} (c : α → α → Int) : List α → List α → Int
  | [], [] => 0
  | [], _ :: _ => -1
  | _ :: _, [] => 1
  | a :: x, b :: y => if c a b = 0 then lexC c x y else c a b

theorem lex_eq {α : Type} {c : α → α → Int} (h : Total c) : ∀ x y : List α, lexC c x y = 0 ↔ x = y
  | [], [] => by simp [lexC]
  | [], _ :: _ => by simp [lexC]
  | _ :: _, [] => by simp [lexC]
  | a :: x, b :: y => by
    have ih := lex_eq h x y
    unfold lexC
    by_cases hc : c a b = 0
    · rw [if_pos hc, ih]; have := (h.eq a b).1 hc; subst this; simp
    · rw [if_neg hc]
      have : a ≠ b := fun e => hc ((h.eq a b).2 e)
      simp [hc, this]
theorem lex_neg {α : Type} {c : α → α → Int} (h : Total c) : ∀ x y : List α, lexC c y x = - lexC c x y
  | [], [] => by simp [lexC]
  | [], _ :: _ => by simp [lexC]
  | _ :: _, [] => by simp [lexC]
  | a :: x, b :: y => by
    have ih := lex_neg h x y
    unfold lexC
    by_cases hc : c a b = 0
    · rw [if_pos hc, if_pos (by rw [h.neg a b]; omega), ih]
    · rw [if_neg hc, if_neg (by rw [h.neg a b]; omega), h.neg a b]
theorem lex_trans {α : Type} {c : α → α → Int} (h : Total c) : ∀ x y z : List α, lexC c x y < 0 → lexC c y z < 0 → lexC c x z < 0
  | [], [], z => by simp [lexC]
  | [], _ :: _, [] => by simp [lexC]
  | [], _ :: _, _ :: _ => by simp [lexC]
  | _ :: _, [], z => by simp [lexC]
  | _ :: _, _ :: _, [] => by simp [lexC]
  | a :: x, b :: y, d :: z => by
    have ih := lex_trans h x y z
    unfold lexC
    intro h1 h2
    by_cases e1 : c a b = 0
    · rw [if_pos e1] at h1
      have e1' := (h.eq a b).1 e1
      subst e1'
      by_cases e2 : c a d = 0
      · rw [if_pos e2] at h2 ⊢; exact ih h1 h2
      · rw [if_neg e2] at h2 ⊢; exact h2
    · rw [if_neg e1] at h1
      by_cases e2 : c b d = 0
      · have e2' := (h.eq b d).1 e2
        subst e2'
        rw [if_neg e1]; exact h1
      · rw [if_neg e2] at h2
        have h3 := h.trans a b d h1 h2
        rw [if_neg (by omega)]; exact h3
theorem lex_total {α : Type} {c : α → α → Int} (h : Total c) : Total (lexC c) := ⟨lex_eq h, fun a b => lex_neg h a b, lex_trans h⟩

def cByte (a b : UInt8) : Int := if a.toNat < b.toNat then -1 else if b.toNat < a.toNat then 1 else 0
theorem cByte_total : Total cByte where
  eq a b := by
    unfold cByte
    rw [← UInt8.toNat_inj]
    split
    · constructor <;> intro h <;> omega
    · split
      · constructor <;> intro h <;> omega
      · constructor <;> intro h <;> omega
  neg a b := by
    unfold cByte
    split <;> split <;> omega
  trans a b d := by
    unfold cByte
    intro h1 h2
    split at h1
    · split at h2
      · rw [if_pos (by omega)]; omega
      · split at h2 <;> omega
    · split at h1 <;> omega
theorem cByte_lt (a b : UInt8) : cByte a b = if a < b then -1 else if b < a then 1 else 0 := by
  unfold cByte
  by_cases h1 : a < b
  · rw [if_pos h1, if_pos (UInt8.lt_iff_toNat_lt.1 h1)]
  · rw [if_neg h1, if_neg (fun h => h1 (UInt8.lt_iff_toNat_lt.2 h))]
    by_cases h2 : b < a
    · rw [if_pos h2, if_pos (UInt8.lt_iff_toNat_lt.1 h2)]
    · rw [if_neg h2, if_neg (fun h => h2 (UInt8.lt_iff_toNat_lt.2 h))]
theorem compareBytes_lex : ∀ x y : List UInt8, Lib.compareBytes x y = lexC cByte x y
  | [], [] => rfl
  | [], _ :: _ => rfl
  | _ :: _, [] => rfl
  | a :: x, b :: y => by
    have ih := compareBytes_lex x y
    simp only [Lib.compareBytes, lexC, cByte_lt]
    by_cases h1 : a < b
    · simp [h1]
    · by_cases h2 : b < a
      · simp [h1, h2]
      · simp [h1, h2, ih]
theorem bytes_total : Total (Lib.compareBytes) := by
  have := lex_total cByte_total
  rw [show Lib.compareBytes = lexC cByte from funext fun x => funext fun y => compareBytes_lex x y]
  exact this

/-- What the order looks at. -/
def argKeys (l : List GT) : List (List UInt8) := l.map fun t => t.n.data.toList
def keyA (a : GA) : List (List UInt8) := a.n.data.toList :: argKeys a.args
theorem cmpArgs_lex : ∀ x y : List GT, cmpArgs x y = lexC Lib.compareBytes (argKeys x) (argKeys y)
  | [], [] => rfl
  | [], _ :: _ => rfl
  | _ :: _, [] => rfl
  | s :: x, t :: y => by
    have ih := cmpArgs_lex x y
    unfold cmpArgs
    simp only [argKeys, List.map_cons, lexC] at ih ⊢
    rw [ih]; rfl
theorem cmpA_lex (a b : GA) : cmpA a b = lexC Lib.compareBytes (keyA a) (keyA b) := by
  unfold cmpA keyA lexC
  rw [cmpArgs_lex]; rfl

theorem cmpA_eq (a b : GA) : cmpA a b = 0 ↔ keyA a = keyA b := by rw [cmpA_lex]; exact (lex_total bytes_total).eq _ _
theorem cmpA_neg (a b : GA) : cmpA b a = - cmpA a b := by rw [cmpA_lex, cmpA_lex]; exact (lex_total bytes_total).neg _ _
theorem cmpA_trans {a b d : GA} (h1 : cmpA a b < 0) (h2 : cmpA b d < 0) : cmpA a d < 0 := by
  rw [cmpA_lex] at *; exact (lex_total bytes_total).trans _ _ _ h1 h2

def Asc (l : List GA) : Prop := l.Pairwise fun a b => cmpA a b < 0

theorem asc_of : ∀ (l : List GA), ascB l = true → Asc l
  | [], _ => List.Pairwise.nil
  | [a], _ => List.pairwise_singleton _ _
  | a :: b :: l, h => by
    simp only [ascB, Bool.and_eq_true] at h
    have ih := asc_of (b :: l) h.2
    have hab : cmpA a b < 0 := of_decide_eq_true h.1
    refine List.Pairwise.cons ?_ ih
    intro z hz
    rcases List.mem_cons.1 hz with rfl | hz
    · exact hab
    · exact cmpA_trans hab ((List.pairwise_cons.1 ih).1 z hz)

theorem asc_to : ∀ (l : List GA), Asc l → ascB l = true
  | [], _ => rfl
  | [_], _ => rfl
  | a :: b :: l, h => by
    have h1 := List.pairwise_cons.1 h
    simp only [ascB, Bool.and_eq_true]
    exact ⟨decide_eq_true (h1.1 b (by simp)), asc_to (b :: l) h1.2⟩

theorem hasA_cons_lt {y : GA} {m : List GA} {x : GA} (h : cmpA y x < 0) : hasA (y :: m) x = hasA m x := by
  have hp : placeA (y :: m) x = placeA m x + 1 := by
    unfold placeA; rw [List.takeWhile_cons, if_pos (show ltA y x = true from decide_eq_true h)]; rfl
  unfold hasA; rw [hp]; unfold isAt; rw [List.getElem?_cons_succ]
theorem hasA_cons_ge {y : GA} {m : List GA} {x : GA} (h : ¬ cmpA y x < 0) : hasA (y :: m) x = decide (cmpA y x = 0) := by
  have hp : placeA (y :: m) x = 0 := by
    unfold placeA; rw [List.takeWhile_cons, if_neg (by unfold ltA; simp; omega)]; rfl
  unfold hasA; rw [hp]; rfl

theorem hasA_iff : ∀ (m : List GA) (x : GA), Asc m → (hasA m x = true ↔ ∃ y ∈ m, cmpA y x = 0)
  | [], x, _ => by simp [hasA, isAt]
  | y :: m, x, h => by
    have h1 := List.pairwise_cons.1 h
    have ih := hasA_iff m x h1.2
    by_cases hlt : cmpA y x < 0
    · rw [hasA_cons_lt hlt, ih]
      constructor
      · rintro ⟨z, hz, e⟩; exact ⟨z, List.mem_cons_of_mem _ hz, e⟩
      · rintro ⟨z, hz, e⟩
        rcases List.mem_cons.1 hz with rfl | hz
        · omega
        · exact ⟨z, hz, e⟩
    · rw [hasA_cons_ge hlt]
      constructor
      · intro e; exact ⟨y, by simp, of_decide_eq_true e⟩
      · rintro ⟨z, hz, e⟩
        rcases List.mem_cons.1 hz with rfl | hz
        · exact decide_eq_true e
        · have hyz := h1.1 z hz
          have hxz : cmpA y x < 0 := by
            have e1 := (cmpA_eq z x).1 e
            have : cmpA y x = cmpA y z := by rw [cmpA_lex, cmpA_lex, e1]
            omega
          exact absurd hxz hlt

theorem mergeP_left_all : ∀ (xs : List P2), mergeP xs [] = xs.map fun x => ⟨x.1, x.2, 0⟩
  | [] => rfl
  | x :: xs => by rw [mergeP_left, mergeP_left_all xs]; rfl
theorem mergeP_right_all : ∀ (ys : List P2), mergeP [] ys = ys.map fun y => ⟨y.1, y.2, 1⟩
  | [] => rfl
  | y :: ys => by rw [mergeP_right, mergeP_right_all ys]; rfl

theorem noBoth_iff : ∀ (n : Nat) (xs ys : List P2), xs.length + ys.length ≤ n → Asc (xs.map (·.1)) → Asc (ys.map (·.1)) →
    (noBoth (mergeP xs ys) = true ↔ ∀ x ∈ xs, ∀ y ∈ ys, ¬ cmpA x.1 y.1 = 0)
  | _, [], ys, _, _, _ => by
    rw [mergeP_right_all]; simp [noBoth]
  | _, x :: xs, [], _, _, _ => by
    rw [mergeP_left_all]; simp [noBoth]
  | 0, _ :: _, _ :: _, h, _, _ => by simp at h
  | n + 1, x :: xs, y :: ys, h, hx, hy => by
    have h1 := List.pairwise_cons.1 (show Asc (x.1 :: xs.map (·.1)) from hx)
    have h2 := List.pairwise_cons.1 (show Asc (y.1 :: ys.map (·.1)) from hy)
    have ltx : ∀ z ∈ xs, cmpA x.1 z.1 < 0 := fun z hz => h1.1 z.1 (List.mem_map_of_mem hz)
    have lty : ∀ z ∈ ys, cmpA y.1 z.1 < 0 := fun z hz => h2.1 z.1 (List.mem_map_of_mem hz)
    rcases Int.lt_trichotomy (cmpA x.1 y.1) 0 with hc | hc | hc
    · have ih := noBoth_iff n xs (y :: ys) (by simp at h ⊢; omega) h1.2 hy
      rw [mergeP_lt _ _ hc]
      have : noBoth (⟨x.1, x.2, 0⟩ :: mergeP xs (y :: ys)) = noBoth (mergeP xs (y :: ys)) := by simp [noBoth]
      rw [this, ih]
      constructor
      · intro hh z hz w hw
        rcases List.mem_cons.1 hz with rfl | hz
        · rcases List.mem_cons.1 hw with rfl | hw
          · omega
          · have := cmpA_trans hc (lty w hw); omega
        · exact hh z hz w hw
      · intro hh z hz w hw; exact hh z (List.mem_cons_of_mem _ hz) w hw
    · rw [mergeP_eq _ _ hc]
      have : noBoth (⟨x.1, x.2, 2⟩ :: mergeP xs ys) = false := by simp [noBoth]
      rw [this]
      constructor
      · intro hh; cases hh
      · intro hh; exact absurd hc (hh x (by simp) y (by simp))
    · have ih := noBoth_iff n (x :: xs) ys (by simp at h ⊢; omega) hx h2.2
      rw [mergeP_gt _ _ hc]
      have : noBoth (⟨y.1, y.2, 1⟩ :: mergeP (x :: xs) ys) = noBoth (mergeP (x :: xs) ys) := by simp [noBoth]
      rw [this, ih]
      have hc' : cmpA y.1 x.1 < 0 := by rw [cmpA_neg]; omega
      constructor
      · intro hh z hz w hw
        rcases List.mem_cons.1 hw with rfl | hw
        · rcases List.mem_cons.1 hz with rfl | hz
          · omega
          · have h3 := cmpA_trans hc' (ltx z hz)
            rw [cmpA_neg] at h3; omega
        · exact hh z hz w hw
      · intro hh z hz w hw; exact hh z hz w (List.mem_cons_of_mem _ hw)

theorem noBoth_common {ps qs : List P2} (hx : Asc (ps.map (·.1))) (hy : Asc (qs.map (·.1))) : (!noBoth (mergeP ps qs)) = commonB (ps.map (·.1)) (qs.map (·.1)) := by
  have h := noBoth_iff _ ps qs (Nat.le_refl _) hx hy
  have hc : commonB (ps.map (·.1)) (qs.map (·.1)) = true ↔ ∃ x ∈ ps, ∃ y ∈ qs, cmpA x.1 y.1 = 0 := by
    unfold commonB
    rw [List.any_eq_true]
    constructor
    · rintro ⟨a, ha, hh⟩
      obtain ⟨x, hx1, rfl⟩ := List.mem_map.1 ha
      obtain ⟨b, hb, e⟩ := (hasA_iff _ _ hy).1 hh
      obtain ⟨y, hy1, rfl⟩ := List.mem_map.1 hb
      exact ⟨x, hx1, y, hy1, by rw [cmpA_neg] at e; omega⟩
    · rintro ⟨x, hx1, y, hy1, e⟩
      exact ⟨x.1, List.mem_map_of_mem hx1, (hasA_iff _ _ hy).2 ⟨y.1, List.mem_map_of_mem hy1, by rw [cmpA_neg]; omega⟩⟩
  cases hn : noBoth (mergeP ps qs)
  · symm
    show commonB _ _ = true
    rw [hc]
    rw [hn] at h
    apply Classical.byContradiction
    intro hne
    have : false = true := h.2 (fun x hx1 y hy1 e => hne ⟨x, hx1, y, hy1, e⟩)
    cases this
  · symm
    show commonB _ _ = false
    rw [Bool.eq_false_iff]
    intro ht
    obtain ⟨x, hx1, y, hy1, e⟩ := hc.1 ht
    exact h.1 hn x hx1 y hy1 e

theorem factsB_asc {l : List GA} {n : Nat} (h : factsB l n = true) : Asc l := by
  unfold factsB at h
  simp only [Bool.and_eq_true] at h
  exact asc_of l h.1.2

end Go.Proofs.YtfjdijakgjhieaaGreat

namespace Go.Proofs.YtfjdijakgjhieaaGreat
open Go.RowKit

/-! ### Lists -/
theorem nodup_len {α : Type} [DecidableEq α] : ∀ (a b : List α), a.Nodup → (∀ x ∈ a, x ∈ b) → a.length ≤ b.length
  | [], _, _, _ => Nat.zero_le _
  | x :: a, b, h, hs => by
    have hx := hs x (by simp)
    obtain ⟨h1, h2⟩ := List.nodup_cons.1 h
    have ih := nodup_len a (b.erase x) h2 (fun y hy => (List.mem_erase_of_ne (fun (e : y = x) => h1 (by rw [← e]; exact hy))).2 (hs y (List.mem_cons_of_mem _ hy)))
    have hl := List.length_erase_of_mem hx
    have hp : 0 < b.length := List.length_pos_of_mem hx
    simp only [List.length_cons]
    omega

/-! ### Atoms of rules, and how many terms a name has -/
def ruleAtoms (r : GR) : List GA := r.head :: r.body.map (·.atom)
def atomsOf (l : List GR) : List GA := (l.map ruleAtoms).flatten
def ruleOkB (r : GR) : Bool := (r.body.all fun p => atomOkB p.atom) && (atomOkB r.head && decide (r.body.length ≤ 4))
def firstLen : List GA → ByteArray → Option Nat
  | [], _ => none
  | a :: l, x => if a.n = x then some a.args.length else firstLen l x
def argsB (l : List GA) : Bool := l.all fun a => decide (firstLen l a.n = some a.args.length)
theorem firstLen_snoc : ∀ (l : List GA) (a : GA) (x : ByteArray), firstLen (l ++ [a]) x = match firstLen l x with | some n => some n | none => if a.n = x then some a.args.length else none
  | [], a, x => rfl
  | b :: l, a, x => by
    simp only [List.cons_append, firstLen, firstLen_snoc l a x]
    by_cases h : b.n = x
    · simp [h]
    · simp [h]
theorem firstLen_some : ∀ {l : List GA} {x : ByteArray} {n : Nat}, firstLen l x = some n → ∃ a ∈ l, a.n = x ∧ a.args.length = n
  | b :: l, x, n, h => by
    simp only [firstLen] at h
    split at h
    · injection h with h
      exact ⟨b, by simp, by assumption, h⟩
    · obtain ⟨a, h1, h2⟩ := firstLen_some h
      exact ⟨a, List.mem_cons_of_mem _ h1, h2⟩
theorem firstLen_mem : ∀ {l : List GA} {a : GA}, a ∈ l → ∃ n, firstLen l a.n = some n
  | b :: l, a, h => by
    simp only [firstLen]
    by_cases e : b.n = a.n
    · exact ⟨_, if_pos e⟩
    · rw [if_neg e]
      rcases List.mem_cons.1 h with rfl | h
      · exact absurd rfl e
      · exact firstLen_mem h
theorem argsB_snoc (l : List GA) (a : GA) : argsB (l ++ [a]) = (argsB l && match firstLen l a.n with | some n => n == a.args.length | none => true) := by
  have key : ∀ b ∈ l, firstLen (l ++ [a]) b.n = firstLen l b.n := fun b hb => by
    obtain ⟨n, hn⟩ := firstLen_mem hb
    rw [firstLen_snoc, hn]
  have h1 : (l.all fun b => decide (firstLen (l ++ [a]) b.n = some b.args.length)) = argsB l := by
    unfold argsB
    rw [Bool.eq_iff_iff, List.all_eq_true, List.all_eq_true]
    exact ⟨fun h b hb => by rw [← key b hb]; exact h b hb, fun h b hb => by rw [key b hb]; exact h b hb⟩
  unfold argsB at h1 ⊢
  rw [List.all_append, h1]
  congr 1
  simp only [List.all_cons, List.all_nil, Bool.and_true]
  rw [firstLen_snoc]
  cases firstLen l a.n with
  | none => rw [if_pos rfl]; exact decide_eq_true rfl
  | some n =>
    show decide (some n = some a.args.length) = (n == a.args.length)
    rw [Bool.eq_iff_iff, decide_eq_true_eq, beq_iff_eq, Option.some.injEq]
/-- As the reference says it: pair by pair. -/
theorem argsB_pairs (l : List GA) : argsB l = true ↔ ∀ (i k : Nat) (a b : GA), l[i]? = some a → l[k]? = some b → k < i → a.n = b.n → a.args.length = b.args.length := by
  have hall : argsB l = true ↔ ∀ a ∈ l, ∀ b ∈ l, a.n = b.n → a.args.length = b.args.length := by
    unfold argsB
    rw [List.all_eq_true]
    constructor
    · intro h a ha b hb e
      have h1 := of_decide_eq_true (h a ha)
      have h2 := of_decide_eq_true (h b hb)
      rw [e, h2] at h1
      injection h1 with h1
      exact h1.symm
    · intro h a ha
      obtain ⟨n, hn⟩ := firstLen_mem ha
      obtain ⟨b, hb, e1, e2⟩ := firstLen_some hn
      exact decide_eq_true (by rw [hn, ← e2, h b hb a ha e1])
  rw [hall]
  constructor
  · intro h i k a b ha hb _ e
    exact h a (List.mem_of_getElem? ha) b (List.mem_of_getElem? hb) e
  · intro h a ha b hb e
    obtain ⟨i, hi, rfl⟩ := List.mem_iff_getElem.1 ha
    obtain ⟨k, hk, rfl⟩ := List.mem_iff_getElem.1 hb
    rcases Nat.lt_trichotomy k i with hlt | rfl | hlt
    · exact h i k _ _ (List.getElem?_eq_getElem hi) (List.getElem?_eq_getElem hk) hlt e
    · rfl
    · exact (h k i _ _ (List.getElem?_eq_getElem hk) (List.getElem?_eq_getElem hi) hlt e.symm).symm

/-! ### Loose variables -/
def varsOf (a : GA) : List ByteArray := (a.args.filter (·.v)).map (·.n)
def memS (x : ByteArray) (l : List ByteArray) : Bool := l.any fun y => decide (y = x)
theorem memS_iff {x : ByteArray} {l : List ByteArray} : memS x l = true ↔ x ∈ l := by
  unfold memS
  rw [List.any_eq_true]
  constructor
  · rintro ⟨y, hy, h⟩
    exact of_decide_eq_true h ▸ hy
  · intro h
    exact ⟨x, h, decide_eq_true rfl⟩
def boundIn (body : List GP) (x : ByteArray) : Bool := body.any fun p => !p.no && memS x (varsOf p.atom)
def tightB (r : GR) : Bool := (ruleAtoms r).all fun a => (varsOf a).all (boundIn r.body)

def ltS (a b : ByteArray) : Bool := decide (Lib.compareBytes a.data.toList b.data.toList < 0)
theorem ltS_irr (a : ByteArray) : ltS a a = false := by
  unfold ltS
  rw [(bytes_total.eq _ _).2 rfl]; rfl
theorem ltS_trans {a b c : ByteArray} (h : ltS a b = true) (k : ltS b c = true) : ltS a c = true := decide_eq_true (bytes_total.trans _ _ _ (of_decide_eq_true h) (of_decide_eq_true k))
theorem ltS_other {a b : ByteArray} (h : ltS a b = false) (hn : a ≠ b) : ltS b a = true := by
  have h1 : ¬ Lib.compareBytes a.data.toList b.data.toList < 0 := of_decide_eq_false h
  have h2 : Lib.compareBytes a.data.toList b.data.toList ≠ 0 := fun e => by
    have e2 := (bytes_total.eq _ _).1 e
    have e3 : a.data = b.data := by
      rw [← Array.toList_inj]; exact e2
    exact hn (by cases a; cases b; simp at e3; rw [e3])
  have h3 := bytes_total.neg b.data.toList a.data.toList
  exact decide_eq_true (by omega)
def putS : List ByteArray → ByteArray → List ByteArray
  | [], s => [s]
  | x :: l, s => if ltS x s = true then x :: putS l s else if x = s then x :: l else s :: x :: l
def whileS : List ByteArray → ByteArray → Nat
  | [], _ => 0
  | x :: l, s => if ltS x s = true then whileS l s + 1 else 0
theorem whileS_le : ∀ (l : List ByteArray) (s : ByteArray), whileS l s ≤ l.length
  | [], _ => Nat.le_refl _
  | x :: l, s => by
    have := whileS_le l s
    unfold whileS; split <;> simp <;> omega
theorem whileS_at : ∀ {l : List ByteArray} {s : ByteArray} {i : Nat} {x : ByteArray}, i < whileS l s → l[i]? = some x → ltS x s = true
  | y :: l, s, i, x, h, hx => by
    unfold whileS at h
    split at h
    · cases i with
      | zero => simp at hx; subst hx; assumption
      | succ i => exact whileS_at (l := l) (s := s) (i := i) (by omega) (by simpa using hx)
    · omega
theorem whileS_end : ∀ {l : List ByteArray} {s : ByteArray} {x : ByteArray}, l[whileS l s]? = some x → ltS x s = false
  | y :: l, s, x, hx => by
    unfold whileS at hx
    split at hx
    · exact whileS_end (by simpa using hx)
    · rename_i h
      simp at hx; subst hx
      exact Bool.not_eq_true _ ▸ h
theorem whileS_is {l : List ByteArray} {s : ByteArray} {k : Nat} (hk : k ≤ l.length) (h1 : ∀ i x, i < k → l[i]? = some x → ltS x s = true) (h2 : ∀ x, l[k]? = some x → ltS x s = false) : whileS l s = k := by
  rcases Nat.lt_trichotomy (whileS l s) k with h | h | h
  · have hl : whileS l s < l.length := by omega
    have e1 := h1 _ _ h (List.getElem?_eq_getElem hl)
    rw [whileS_end (List.getElem?_eq_getElem hl)] at e1
    cases e1
  · exact h
  · have hl : k < l.length := by have := whileS_le l s; omega
    have e1 := h2 _ (List.getElem?_eq_getElem hl)
    rw [whileS_at h (List.getElem?_eq_getElem hl)] at e1
    cases e1
theorem putS_eq : ∀ (l : List ByteArray) (s : ByteArray), putS l s = if l[whileS l s]? = some s then l else l.take (whileS l s) ++ [s] ++ l.drop (whileS l s)
  | [], s => rfl
  | x :: l, s => by
    have ih := putS_eq l s
    unfold putS whileS
    by_cases h : ltS x s = true
    · rw [if_pos h, if_pos h, ih]
      simp only [List.getElem?_cons_succ, List.take_succ_cons, List.drop_succ_cons]
      split <;> simp
    · rw [if_neg h, if_neg h]
      simp only [List.getElem?_cons_zero, Option.some.injEq, List.take_zero, List.drop_zero, List.nil_append]
      rfl
theorem putS_mem : ∀ {l : List ByteArray} {s x : ByteArray}, x ∈ putS l s ↔ x ∈ l ∨ x = s
  | [], s, x => by simp [putS]
  | y :: l, s, x => by
    have ih := putS_mem (l := l) (s := s) (x := x)
    unfold putS
    split
    · simp only [List.mem_cons, ih, or_assoc]
    · split
      · rename_i h; subst h; simp only [List.mem_cons]
        constructor
        · exact fun h => .inl h
        · rintro (h | h)
          · exact h
          · exact .inl h
      · simp only [List.mem_cons]
        constructor
        · rintro (h | h | h)
          · exact .inr h
          · exact .inl (.inl h)
          · exact .inl (.inr h)
        · rintro ((h | h) | h)
          · exact .inr (.inl h)
          · exact .inr (.inr h)
          · exact .inl h
def AscS (l : List ByteArray) : Prop := l.Pairwise fun a b => ltS a b = true
theorem AscS.put : ∀ {l : List ByteArray} {s : ByteArray}, AscS l → AscS (putS l s)
  | [], s, _ => by unfold putS; exact List.pairwise_singleton _ _
  | y :: l, s, h => by
    obtain ⟨h1, h2⟩ := List.pairwise_cons.1 h
    unfold putS
    split
    · rename_i hlt
      refine List.pairwise_cons.2 ⟨fun z hz => ?_, AscS.put h2⟩
      rcases putS_mem.1 hz with hz | rfl
      · exact h1 z hz
      · exact hlt
    · rename_i hlt
      split
      · exact h
      · rename_i hne
        have hsy := ltS_other (Bool.not_eq_true _ ▸ hlt) hne
        refine List.pairwise_cons.2 ⟨fun z hz => ?_, h⟩
        rcases List.mem_cons.1 hz with rfl | hz
        · exact hsy
        · exact ltS_trans hsy (h1 z hz)
theorem AscS.nodup {l : List ByteArray} (h : AscS l) : l.Nodup := by
  refine List.Pairwise.imp (fun {a b} hab => ?_) h
  intro e
  rw [e, ltS_irr] at hab
  cases hab
def varsPut (out : List ByteArray) (a : GA) : List ByteArray := (varsOf a).foldl putS out
theorem foldS_mem : ∀ {vs out : List ByteArray} {x : ByteArray}, x ∈ vs.foldl putS out ↔ x ∈ out ∨ x ∈ vs
  | [], out, x => by simp
  | v :: vs, out, x => by rw [List.foldl_cons, foldS_mem, putS_mem, List.mem_cons, or_assoc]
theorem foldS_asc : ∀ {vs out : List ByteArray}, AscS out → AscS (vs.foldl putS out)
  | [], _, h => h
  | v :: vs, out, h => by rw [List.foldl_cons]; exact foldS_asc h.put
def allVars (r : GR) : List ByteArray := r.body.foldl (fun o p => varsPut o p.atom) (varsPut [] r.head)
def boundVars (r : GR) : List ByteArray := r.body.foldl (fun o p => if p.no then o else varsPut o p.atom) []
theorem all_fold : ∀ (ps : List GP) (o : List ByteArray), AscS o → AscS (ps.foldl (fun o p => varsPut o p.atom) o) ∧ ∀ x, x ∈ ps.foldl (fun o p => varsPut o p.atom) o ↔ x ∈ o ∨ ∃ p ∈ ps, x ∈ varsOf p.atom
  | [], o, h => ⟨h, fun x => by simp⟩
  | p :: ps, o, h => by
    obtain ⟨h1, h2⟩ := all_fold ps (varsPut o p.atom) (foldS_asc h)
    refine ⟨h1, fun x => ?_⟩
    rw [List.foldl_cons, h2, varsPut, foldS_mem, or_assoc]
    simp [or_and_right, exists_or]
theorem bound_fold : ∀ (ps : List GP) (o : List ByteArray), AscS o → AscS (ps.foldl (fun o p => if p.no then o else varsPut o p.atom) o) ∧ ∀ x, x ∈ ps.foldl (fun o p => if p.no then o else varsPut o p.atom) o ↔ x ∈ o ∨ boundIn ps x = true
  | [], o, h => ⟨h, fun x => by simp [boundIn]⟩
  | p :: ps, o, h => by
    have e : ∀ x, boundIn (p :: ps) x = ((!p.no && memS x (varsOf p.atom)) || boundIn ps x) := fun x => rfl
    by_cases hn : p.no = true
    · obtain ⟨h1, h2⟩ := bound_fold ps o h
      rw [List.foldl_cons, if_pos hn]
      exact ⟨h1, fun x => by rw [h2, e, hn]; simp⟩
    · obtain ⟨h1, h2⟩ := bound_fold ps (varsPut o p.atom) (foldS_asc h)
      rw [List.foldl_cons, if_neg hn]
      refine ⟨h1, fun x => ?_⟩
      have hn' : p.no = false := Bool.not_eq_true _ ▸ hn
      rw [h2, e, hn', varsPut, foldS_mem, or_assoc, Bool.or_eq_true, Bool.not_false, Bool.true_and, memS_iff]
theorem tight_len (r : GR) : tightB r = ((allVars r).length == (boundVars r).length) := by
  obtain ⟨a1, a2⟩ := all_fold r.body (varsPut [] r.head) (foldS_asc List.Pairwise.nil)
  obtain ⟨b1, b2⟩ := bound_fold r.body [] List.Pairwise.nil
  have ha : ∀ x, x ∈ allVars r ↔ ∃ a ∈ ruleAtoms r, x ∈ varsOf a := fun x => by
    unfold allVars
    rw [a2, varsPut, foldS_mem]
    constructor
    · rintro ((h | h) | ⟨p, hp, h⟩)
      · cases h
      · exact ⟨r.head, by unfold ruleAtoms; simp, h⟩
      · exact ⟨p.atom, List.mem_cons_of_mem _ (List.mem_map_of_mem hp), h⟩
    · rintro ⟨a, ha, h⟩
      rcases List.mem_cons.1 ha with rfl | ha
      · exact .inl (.inr h)
      · obtain ⟨p, hp, rfl⟩ := List.mem_map.1 ha
        exact .inr ⟨p, hp, h⟩
  have hb : ∀ x, x ∈ boundVars r ↔ boundIn r.body x = true := fun x => by unfold boundVars; rw [b2]; simp
  have hsub : ∀ x ∈ boundVars r, x ∈ allVars r := fun x hx => by
    have h := (hb x).1 hx
    unfold boundIn at h
    rw [List.any_eq_true] at h
    obtain ⟨p, hp, h⟩ := h
    simp only [Bool.and_eq_true, memS_iff] at h
    exact (ha x).2 ⟨p.atom, List.mem_cons_of_mem _ (List.mem_map_of_mem hp), h.2⟩
  have hN : (allVars r).Nodup := AscS.nodup a1
  have hM : (boundVars r).Nodup := AscS.nodup b1
  have hle := nodup_len _ _ hM hsub
  rw [Bool.eq_iff_iff, beq_iff_eq]
  unfold tightB
  rw [List.all_eq_true]
  constructor
  · intro h
    have := nodup_len _ _ hN (fun x hx => (hb x).2 (by
      obtain ⟨a, h1, h2⟩ := (ha x).1 hx
      exact List.all_eq_true.1 (h a h1) x h2))
    omega
  · intro h a haa
    rw [List.all_eq_true]
    intro x hx
    have hxa := (ha x).2 ⟨a, haa, hx⟩
    by_cases hxb : x ∈ boundVars r
    · exact (hb x).1 hxb
    · have := nodup_len (x :: boundVars r) (allVars r) (List.nodup_cons.2 ⟨hxb, hM⟩) (fun y hy => by
        rcases List.mem_cons.1 hy with rfl | hy
        · exact hxa
        · exact hsub y hy)
      simp only [List.length_cons] at this
      omega

/-! ### Strata -/
def one (b : Bool) : Nat := if b then 1 else 0
def dep (l : List GR) (f : ByteArray → Nat) : Prop := ∀ r ∈ l, ∀ p ∈ r.body, (∃ r' ∈ l, r'.head.n = p.atom.n) → f p.atom.n + one p.no ≤ f r.head.n
def Strat (l : List GR) : Prop := ∃ f, dep l f
def rankIn (hs : List ByteArray) (f : ByteArray → Nat) (x : ByteArray) : Nat := ((List.range (f x)).filter fun v => decide (v ∈ hs.map f)).length
theorem rank_mono {hs : List ByteArray} {f : ByteArray → Nat} {x y : ByteArray} (h : f x ≤ f y) : rankIn hs f x ≤ rankIn hs f y :=
  ((List.range_sublist.2 h).filter _).length_le
theorem rank_lt {hs : List ByteArray} {f : ByteArray → Nat} {x y : ByteArray} (hx : x ∈ hs) (h : f x < f y) : rankIn hs f x + 1 ≤ rankIn hs f y := by
  have h1 := ((List.range_sublist.2 (show f x + 1 ≤ f y from h)).filter (fun v => decide (v ∈ hs.map f))).length_le
  rw [List.range_succ, List.filter_append, List.length_append] at h1
  have h2 : ([f x].filter fun v => decide (v ∈ hs.map f)).length = 1 := by
    rw [List.filter_cons_of_pos (by simpa using ⟨x, hx, rfl⟩)]; rfl
  unfold rankIn
  omega
theorem rank_bound {hs : List ByteArray} {f : ByteArray → Nat} {x : ByteArray} (hx : x ∈ hs) : rankIn hs f x < hs.length := by
  have h := nodup_len (f x :: (List.range (f x)).filter fun v => decide (v ∈ hs.map f)) (hs.map f) (List.nodup_cons.2 ⟨fun hm => by
      have := (List.mem_filter.1 hm).1
      rw [List.mem_range] at this; omega, List.nodup_range.filter _⟩) (fun y hy => by
      rcases List.mem_cons.1 hy with rfl | hy
      · exact List.mem_map_of_mem hx
      · exact of_decide_eq_true (List.mem_filter.1 hy).2)
  simp only [List.length_cons, List.length_map] at h
  unfold rankIn
  omega
/-- Strata that are as few as there are names. -/
theorem strat_few {l : List GR} {hs : List ByteArray} (hh : ∀ r ∈ l, r.head.n ∈ hs) (h : Strat l) : ∃ f, dep l f ∧ ∀ x ∈ hs, f x < hs.length := by
  obtain ⟨f, hf⟩ := h
  refine ⟨rankIn hs f, fun r hr p hp he => ?_, fun x hx => rank_bound hx⟩
  have h1 := hf r hr p hp he
  obtain ⟨r', hr', e⟩ := he
  have hm : p.atom.n ∈ hs := e ▸ hh r' hr'
  unfold one at h1 ⊢
  cases hn : p.no with
  | true =>
    rw [hn] at h1
    have h2 : f p.atom.n + 1 ≤ f r.head.n := h1
    exact rank_lt hm h2
  | false =>
    rw [hn] at h1
    exact rank_mono (by simpa using h1)

/-! #### as the reference works them out -/
def at0 (o : List Nat) (i : Nat) : Nat := o.getD i 0
def stepH (a b : GR) (i k : Nat) (o : List Nat) : List Nat := if b.head.n = a.head.n ∧ at0 o i < at0 o k then o.set i (at0 o k) else o
def stepJ (n : Nat) (b : GR) (i k : Nat) (o : List Nat) (p : GP) : List Nat := if p.atom.n = b.head.n ∧ at0 o i < at0 o k + one p.no ∧ at0 o i ≤ n then o.set i (at0 o k + one p.no) else o
def stepK (l : List GR) (a : GR) (i : Nat) (o : List Nat) (k : Nat) : List Nat := match l[k]? with
  | none => o
  | some b => a.body.foldl (stepJ l.length b i k) (stepH a b i k o)
def stepI (l : List GR) (o : List Nat) (i : Nat) : List Nat := match l[i]? with
  | none => o
  | some a => (List.range l.length).foldl (stepK l a i) o
def passL (l : List GR) (o : List Nat) : List Nat := (List.range l.length).foldl (stepI l) o
def levelsN (l : List GR) : Nat → List Nat
  | 0 => List.replicate l.length 0
  | n + 1 => passL l (levelsN l n)
def levelsL (l : List GR) : List Nat := levelsN l ((l.length + 1) * (l.length + 2))

/-- Nothing falls. -/
def Up (o o' : List Nat) : Prop := o'.length = o.length ∧ ∀ i, at0 o i ≤ at0 o' i
theorem Up.refl (o : List Nat) : Up o o := ⟨rfl, fun _ => Nat.le_refl _⟩
theorem Up.trans {a b c : List Nat} (h : Up a b) (k : Up b c) : Up a c := ⟨k.1.trans h.1, fun i => Nat.le_trans (h.2 i) (k.2 i)⟩
theorem at0_some {o : List Nat} {i : Nat} (h : i < o.length) : o[i]? = some (at0 o i) := by
  unfold at0; rw [List.getD_eq_getElem?_getD, List.getElem?_eq_getElem h]; rfl
theorem Up.antisymm {a b : List Nat} (h : Up a b) (k : Up b a) : a = b := by
  apply List.ext_getElem?
  intro i
  by_cases hi : i < a.length
  · rw [at0_some hi, at0_some (by have := h.1; omega)]
    have h1 := h.2 i
    have h2 := k.2 i
    rw [show at0 a i = at0 b i from by omega]
  · rw [List.getElem?_eq_none (by omega), List.getElem?_eq_none (by have := h.1; omega)]
theorem at0_set {o : List Nat} {i j v : Nat} (h : i < o.length) : at0 (o.set i v) j = if i = j then v else at0 o j := by
  unfold at0
  rw [List.getD_eq_getElem?_getD, List.getD_eq_getElem?_getD, List.getElem?_set]
  by_cases e : i = j
  · subst e; simp [h]
  · simp [e]
theorem Up.set {o : List Nat} {i v : Nat} (h : at0 o i ≤ v) : Up o (o.set i v) := by
  refine ⟨List.length_set, fun j => ?_⟩
  by_cases hi : i < o.length
  · rw [at0_set hi]
    split
    · rename_i e; subst e; exact h
    · exact Nat.le_refl _
  · rw [List.set_eq_of_length_le (by omega)]; exact Nat.le_refl _
theorem stepH_up (a b : GR) (i k : Nat) (o : List Nat) : Up o (stepH a b i k o) := by
  unfold stepH; split
  · rename_i h; exact Up.set (by omega)
  · exact Up.refl _
theorem stepJ_up (n : Nat) (b : GR) (i k : Nat) (o : List Nat) (p : GP) : Up o (stepJ n b i k o p) := by
  unfold stepJ; split
  · rename_i h; exact Up.set (by omega)
  · exact Up.refl _
theorem fold_up {β : Type} {f : List Nat → β → List Nat} (hf : ∀ o x, Up o (f o x)) : ∀ (xs : List β) (o : List Nat), Up o (xs.foldl f o)
  | [], o => Up.refl _
  | x :: xs, o => by rw [List.foldl_cons]; exact (hf o x).trans (fold_up hf xs _)
theorem fold_stuck {β : Type} {f : List Nat → β → List Nat} (hf : ∀ o x, Up o (f o x)) : ∀ (xs : List β) (o : List Nat), xs.foldl f o = o → ∀ x ∈ xs, f o x = o
  | x :: xs, o, h, y, hy => by
    rw [List.foldl_cons] at h
    have h1 := hf o x
    have h2 := fold_up hf xs (f o x)
    rw [h] at h2
    have e : f o x = o := h2.antisymm h1
    rcases List.mem_cons.1 hy with rfl | hy
    · exact e
    · rw [e] at h
      exact fold_stuck hf xs o h y hy
theorem stepK_up (l : List GR) (a : GR) (i : Nat) (o : List Nat) (k : Nat) : Up o (stepK l a i o k) := by
  unfold stepK; split
  · exact Up.refl _
  · exact (stepH_up _ _ _ _ _).trans (fold_up (stepJ_up _ _ _ _) _ _)
theorem stepI_up (l : List GR) (o : List Nat) (i : Nat) : Up o (stepI l o i) := by
  unfold stepI; split
  · exact Up.refl _
  · exact fold_up (stepK_up _ _ _) _ _
theorem passL_up (l : List GR) (o : List Nat) : Up o (passL l o) := fold_up (stepI_up l) _ _
theorem levelsN_up (l : List GR) : ∀ {m n : Nat}, m ≤ n → Up (levelsN l m) (levelsN l n)
  | m, 0, h => by rw [show m = 0 from by omega]; exact Up.refl _
  | m, n + 1, h => by
    rcases Nat.lt_or_ge m (n + 1) with h1 | h1
    · exact (levelsN_up l (show m ≤ n from by omega)).trans (passL_up l _)
    · rw [show m = n + 1 from by omega]; exact Up.refl _
theorem levelsN_len (l : List GR) (n : Nat) : (levelsN l n).length = l.length := by
  have := (levelsN_up l (Nat.zero_le n)).1
  rw [this]; exact List.length_replicate

/-- No more than strata allow. -/
def Under (l : List GR) (f : ByteArray → Nat) (o : List Nat) : Prop := o.length = l.length ∧ ∀ i a, l[i]? = some a → at0 o i ≤ f a.head.n
theorem Under.set {l : List GR} {f : ByteArray → Nat} {o : List Nat} {i v : Nat} {a : GR} (h : Under l f o) (ha : l[i]? = some a) (hv : v ≤ f a.head.n) : Under l f (o.set i v) := by
  refine ⟨List.length_set.trans h.1, fun j b hb => ?_⟩
  have hi := (List.getElem?_eq_some_iff.1 ha).1
  rw [at0_set (by rw [h.1]; exact hi)]
  split
  · rename_i e; subst e
    rw [ha] at hb; injection hb with hb; subst hb; exact hv
  · exact h.2 j b hb
theorem fold_inv {β : Type} {f : List Nat → β → List Nat} {I : List Nat → Prop} : ∀ (xs : List β) (o : List Nat), (∀ o x, x ∈ xs → I o → I (f o x)) → I o → I (xs.foldl f o)
  | [], o, _, h => h
  | x :: xs, o, hf, h => by rw [List.foldl_cons]; exact fold_inv xs _ (fun o y hy => hf o y (List.mem_cons_of_mem _ hy)) (hf o x (by simp) h)
theorem Under.pass {l : List GR} {f : ByteArray → Nat} (hd : dep l f) {o : List Nat} (h : Under l f o) : Under l f (passL l o) := by
  refine fold_inv _ _ (fun o i _ h => ?_) h
  unfold stepI
  split
  · exact h
  · rename_i a ha
    refine fold_inv _ _ (fun o k _ h => ?_) h
    unfold stepK
    split
    · exact h
    · rename_i b hb
      refine fold_inv _ _ (fun o p hp h => ?_) ?_
      · unfold stepJ
        split
        · rename_i hc
          refine h.set ha ?_
          have h1 := hd a (List.mem_of_getElem? ha) p hp ⟨b, List.mem_of_getElem? hb, hc.1.symm⟩
          have h2 := h.2 k b hb
          rw [hc.1] at h1
          omega
        · exact h
      · unfold stepH
        split
        · rename_i hc
          refine h.set ha ?_
          have h2 := h.2 k b hb
          rw [hc.1] at h2
          exact h2
        · exact h
theorem under_levels {l : List GR} {f : ByteArray → Nat} (hd : dep l f) : ∀ n, Under l f (levelsN l n)
  | 0 => ⟨List.length_replicate, fun i a _ => by
      show at0 (List.replicate l.length 0) i ≤ _
      unfold at0
      rw [List.getD_eq_getElem?_getD, List.getElem?_replicate]
      split <;> simp⟩
  | n + 1 => (under_levels hd n).pass hd
/-- What does not move any more, and is not too high, makes strata. -/
theorem stuck_strat {l : List GR} {o : List Nat} (hl : o.length = l.length) (hs : passL l o = o) (hlow : ∀ i, i < l.length → at0 o i < l.length) : Strat l := by
  have hi := fold_stuck (stepI_up l) _ o hs
  have key : ∀ (i : Nat) (a : GR) (k : Nat) (b : GR), l[i]? = some a → l[k]? = some b → stepH a b i k o = o ∧ ∀ p ∈ a.body, stepJ l.length b i k o p = o := by
    intro i a k b ha hb
    have hil := (List.getElem?_eq_some_iff.1 ha).1
    have hkl := (List.getElem?_eq_some_iff.1 hb).1
    have h1 := hi i (by simpa using hil)
    unfold stepI at h1
    rw [ha] at h1
    have h2 := fold_stuck (stepK_up l a i) _ o h1 k (by simpa using hkl)
    unfold stepK at h2
    rw [hb] at h2
    have h3 : Up o (stepH a b i k o) := stepH_up _ _ _ _ _
    have h4 := fold_up (stepJ_up l.length b i k) a.body (stepH a b i k o)
    have h2' : a.body.foldl (stepJ l.length b i k) (stepH a b i k o) = o := h2
    rw [h2'] at h4
    have e := h4.antisymm h3
    rw [e] at h2'
    exact ⟨e, fold_stuck (stepJ_up l.length b i k) _ o h2'⟩
  have hH : ∀ (i : Nat) (a : GR) (k : Nat) (b : GR), l[i]? = some a → l[k]? = some b → b.head.n = a.head.n → at0 o k ≤ at0 o i := by
    intro i a k b ha hb e
    have hil := (List.getElem?_eq_some_iff.1 ha).1
    have h1 := (key i a k b ha hb).1
    unfold stepH at h1
    split at h1
    · have h2 := congrArg (fun x => at0 x i) h1
      simp only [at0_set (show i < o.length from by omega), if_pos] at h2
      omega
    · rename_i h; 
      have : ¬ at0 o i < at0 o k := fun hc => h ⟨e, hc⟩
      omega
  have hf : ∀ (i : Nat) (a : GR), l[i]? = some a → ∃ k b, l.findIdx? (fun r => decide (r.head.n = a.head.n)) = some k ∧ l[k]? = some b ∧ b.head.n = a.head.n := by
    intro i a ha
    cases hfi : l.findIdx? (fun r => decide (r.head.n = a.head.n)) with
    | none =>
      rw [List.findIdx?_eq_none_iff] at hfi
      have := hfi a (List.mem_of_getElem? ha)
      simp at this
    | some k =>
      rw [List.findIdx?_eq_some_iff_getElem] at hfi
      obtain ⟨hk, h1, _⟩ := hfi
      exact ⟨k, l[k], rfl, List.getElem?_eq_getElem hk, of_decide_eq_true h1⟩
  let f : ByteArray → Nat := fun x => match l.findIdx? (fun r => decide (r.head.n = x)) with | some k => at0 o k | none => 0
  have hfa : ∀ (i : Nat) (a : GR), l[i]? = some a → f a.head.n = at0 o i := by
    intro i a ha
    obtain ⟨k, b, h1, h2, h3⟩ := hf i a ha
    show (match l.findIdx? (fun r => decide (r.head.n = a.head.n)) with | some k => at0 o k | none => 0) = _
    rw [h1]
    have h4 := hH i a k b ha h2 h3
    have h5 := hH k b i a h2 ha h3.symm
    show at0 o k = at0 o i
    omega
  refine ⟨f, fun r hr p hp ⟨r', hr', e⟩ => ?_⟩
  obtain ⟨i, hil, rfl⟩ := List.mem_iff_getElem.1 hr
  obtain ⟨k, hkl, rfl⟩ := List.mem_iff_getElem.1 hr'
  have ha := List.getElem?_eq_getElem hil
  have hb := List.getElem?_eq_getElem hkl
  rw [← e, hfa k _ hb, hfa i _ ha]
  have h1 := (key i _ k _ ha hb).2 p hp
  unfold stepJ at h1
  split at h1
  · have h2 := congrArg (fun x => at0 x i) h1
    simp only [at0_set (show i < o.length from by omega), if_pos] at h2
    omega
  · rename_i h
    have h2 := hlow i hil
    have : ¬ at0 o i < at0 o k + one p.no := fun hc => h ⟨e.symm, hc, by omega⟩
    omega
theorem up_sum {o o' : List Nat} (h : Up o o') : o.sum ≤ o'.sum ∧ (o.sum = o'.sum → o' = o) := by
  induction o generalizing o' with
  | nil =>
    have : o' = [] := List.eq_nil_of_length_eq_zero h.1
    subst this; exact ⟨Nat.le_refl _, fun _ => rfl⟩
  | cons x o ih =>
    cases o' with
    | nil => exact absurd h.1 (by simp)
    | cons y o' =>
      have h0 : x ≤ y := h.2 0
      have hr : Up o o' := ⟨by have := h.1; simpa using this, fun i => by have := h.2 (i + 1); simpa [at0] using this⟩
      obtain ⟨h1, h2⟩ := ih hr
      simp only [List.sum_cons]
      refine ⟨by omega, fun e => ?_⟩
      rw [h2 (by omega), show y = x from by omega]
theorem sum_low {n : Nat} : ∀ {o : List Nat}, (∀ x ∈ o, x < n) → o.sum ≤ o.length * n
  | [], _ => by simp
  | x :: o, h => by
    have h1 := sum_low (o := o) (fun y hy => h y (List.mem_cons_of_mem _ hy))
    have h2 := h x (by simp)
    simp only [List.sum_cons, List.length_cons, Nat.add_mul]
    omega
theorem levels_cycle (l : List GR) : ((levelsL l).any fun x => decide (l.length ≤ x)) = true ↔ ¬ Strat l := by
  constructor
  · intro h hs
    obtain ⟨f, hd, hb⟩ := strat_few (hs := l.map (·.head.n)) (fun r hr => List.mem_map_of_mem hr) hs
    rw [List.any_eq_true] at h
    obtain ⟨x, hx, hge⟩ := h
    obtain ⟨i, hi, rfl⟩ := List.mem_iff_getElem.1 hx
    have hil : i < l.length := by have := levelsN_len l ((l.length + 1) * (l.length + 2)); unfold levelsL at hi; omega
    have h1 := (under_levels hd ((l.length + 1) * (l.length + 2))).2 i _ (List.getElem?_eq_getElem hil)
    have h2 := hb l[i].head.n (List.mem_map_of_mem (List.getElem_mem hil))
    rw [List.length_map] at h2
    have h3 := at0_some hi
    rw [List.getElem?_eq_getElem hi] at h3
    injection h3 with h3
    have h4 := of_decide_eq_true hge
    unfold levelsL at h3 h4
    omega
  · intro hs
    by_cases h : ((levelsL l).any fun x => decide (l.length ≤ x)) = true
    · exact h
    · exfalso
      apply hs
      have hlow : ∀ x ∈ levelsL l, x < l.length := fun x hx => by
        rcases Nat.lt_or_ge x l.length with h1 | h1
        · exact h1
        · exact absurd (List.any_eq_true.2 ⟨x, hx, decide_eq_true h1⟩) h
      have hlowN : ∀ n, n ≤ (l.length + 1) * (l.length + 2) → ∀ i, i < l.length → at0 (levelsN l n) i < l.length := fun n hn i hi => by
        have h1 := (levelsN_up l hn).2 i
        have h2 : at0 (levelsL l) i < l.length := hlow _ (List.mem_of_getElem? (at0_some (by unfold levelsL; rw [levelsN_len]; exact hi)))
        unfold levelsL at h2
        omega
      -- some pass leaves all as it is
      have hex : ∃ n, n < (l.length + 1) * (l.length + 2) ∧ passL l (levelsN l n) = levelsN l n := by
        apply Classical.byContradiction
        intro hno
        have hgrow : ∀ n, n ≤ (l.length + 1) * (l.length + 2) → n ≤ (levelsN l n).sum := by
          intro n
          induction n with
          | zero => intro _; exact Nat.zero_le _
          | succ n ih =>
            intro hn
            have h1 := ih (by omega)
            obtain ⟨h2, h3⟩ := up_sum (passL_up l (levelsN l n))
            have h4 : (levelsN l n).sum ≠ (passL l (levelsN l n)).sum := fun e => hno ⟨n, by omega, h3 e⟩
            show n + 1 ≤ (passL l (levelsN l n)).sum
            omega
        have h1 := hgrow _ (Nat.le_refl _)
        have h2 : (levelsL l).sum ≤ (levelsL l).length * l.length := sum_low hlow
        unfold levelsL at h2
        rw [levelsN_len] at h2
        have h3 : (l.length + 1) * (l.length + 2) = l.length * l.length + 3 * l.length + 2 := by
          rw [Nat.add_mul, Nat.mul_add]; omega
        omega
      obtain ⟨n, hn, he⟩ := hex
      exact stuck_strat (levelsN_len l n) he (hlowN n (by omega))

open Classical in
noncomputable def cycleB (l : List GR) : Bool := decide (¬ Strat l)
theorem levels_cycleB (l : List GR) : ((levelsL l).any fun x => decide (l.length ≤ x)) = cycleB l := by
  rw [Bool.eq_iff_iff, levels_cycle]
  unfold cycleB
  simp
/-- What is wrong with rules first. -/
noncomputable def progCheckN (l : List GR) : Nat :=
  if l.all ruleOkB = false then 1 else if 8 < l.length then 2 else if argsB (atomsOf l) = false then 3 else if l.all tightB = false then 4 else if cycleB l = true then 5 else 0

end Go.Proofs.YtfjdijakgjhieaaGreat
