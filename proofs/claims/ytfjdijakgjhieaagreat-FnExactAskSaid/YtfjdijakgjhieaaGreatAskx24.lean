/- Texts of the proof: Eq, MarkC, RowO, AskYS. -/
import Derived.Test.YtfjdijakgjhieaaGreatRows
import Derived.Test.YtfjdijakgjhieaaGreatAskx01
import Derived.StillTailTactics
import Derived.Test.YtfjdijakgjhieaaGreatAskx23
import Derived.Test.YtfjdijakgjhieaaGreatAskx02
import Derived.Test.YtfjdijakgjhieaaGreatAskx10
import Derived.Laws.CopyOwn
namespace Go.Proofs.YtfjdijakgjhieaaGreat
open Go.RowKit

set_option maxHeartbeats 400000 in
theorem eqTerm_same (t : GT) (w : World) :
    Calls Tryz.prog 123 #[.agg #[.bool t.v, .string t.n], .agg #[.bool t.v, .string t.n]] w fun e w' => e = .returned (.bool true) ∧ Ext w w' := by
  go_enter Tryz.func123, Tryz.ntmps123
  go_wp2
  go_ret
  exact ⟨rfl, ((Ext.refl _).alloc _).alloc _⟩

set_option maxRecDepth 100000 in
set_option maxHeartbeats 1000000 in
theorem eqTermS_same (v u : Value) (xs : List GT) (w : World) {S T : Nat → Prop} (hv : TermsR S w v xs) (hu : TermsR T w u xs) :
    Calls Tryz.prog 92 #[v, u] w fun e w' => e = .returned (.bool true) ∧ Ext w w' := by
  obtain ⟨A, c, rfl, hc1, hc2⟩ := SliceR.form hv
  obtain ⟨B, d, rfl, hd1, hd2⟩ := SliceR.form hu
  have HV := Lib.hid hv
  have HU := Lib.hid hu
  clear hv hu
  go_enter Tryz.func92, Tryz.ntmps92
  go_wp2
  go_loopw [5] (fun i wr => ∃ k : Nat, k ≤ xs.length ∧ i = .int .i64 k ∧ Ext w wr) (fun i _ => xs.length - (intOf i).toNat)
  case atStart => exact ⟨0, Nat.zero_le _, rfl, Ext.refl _⟩
  case round =>
    obtain ⟨k, hk, rfl, hx⟩ := hrel
    by_cases hlt : k < xs.length
    · obtain ⟨b, off, x, rfl, hb, hxk, hxs, hc0, hc1⟩ := TermsR.at_ (HV.out.ext hx) hlt
      obtain ⟨b', off', x', rfl, hb', hxk', hxs', hc0', hc1'⟩ := TermsR.at_ (HU.out.ext hx) hlt
      obtain rfl : x = x' := Option.some.inj (hxk.symm.trans hxk')
      clear hxk hxk'
      have hk0 : (0 : Int) ≤ (k : Int) := Int.natCast_nonneg _
      have hk1 : (k : Int) < (xs.length : Int) := by omega
      go_wp2_with fail
      go_still_tail 8, (by kernel_rfl)
      change wpList _ _ _ _ _ wr.drew
      clear hb hb' hc0 hc1 hc0' hc1'
      go_wp2_with (go_at_call 123; refine (eqTerm_same x _).mono ?_; rintro e w1 ⟨rfl, hx1⟩)
      go_roundw
      case rel => exact ⟨k + 1, by omega, by go_num, hx.drew.trans' hx1⟩
      case measure => simp [intOf]; omega
    · go_wp2
      go_ret
      exact ⟨rfl, hx⟩

set_option maxHeartbeats 1000000 in
theorem eqAtom_same (a : GA) (v u : Value) (w : World) {S T : Nat → Prop} (hv : TermsR S w v a.args) (hu : TermsR T w u a.args) :
    Calls Tryz.prog 52 #[.agg #[.string a.n, v], .agg #[.string a.n, u]] w fun e w' => e = .returned (.bool true) ∧ Ext w w' := by
  obtain ⟨A, c, rfl, hc1, hc2⟩ := SliceR.form hv
  obtain ⟨B, d, rfl, hd1, hd2⟩ := SliceR.form hu
  have HV := Lib.hid hv
  have HU := Lib.hid hu
  clear hv hu
  go_enter Tryz.func52, Tryz.ntmps52
  go_wp2_with (go_at_call 92; refine (eqTermS_same _ _ a.args _ (HV.out.ext (((Ext.refl _).alloc _).alloc _)) (HU.out.ext (((Ext.refl _).alloc _).alloc _))).mono ?_; rintro e w1 ⟨rfl, hx1⟩)
  go_ret
  exact ⟨rfl, (((Ext.refl _).alloc _).alloc _).trans' hx1⟩

set_option maxRecDepth 100000 in
set_option maxHeartbeats 1000000 in
theorem eqAtomS_same (v u : Value) (xs : List GA) (w : World) {S T : Nat → Prop} (hv : AtomsR S w v xs) (hu : AtomsR T w u xs) :
    Calls Tryz.prog 21 #[v, u] w fun e w' => e = .returned (.bool true) ∧ Ext w w' := by
  obtain ⟨A, c, rfl, hc1, hc2⟩ := SliceR.form hv
  obtain ⟨B, d, rfl, hd1, hd2⟩ := SliceR.form hu
  have HV := Lib.hid hv
  have HU := Lib.hid hu
  clear hv hu
  go_enter Tryz.func21, Tryz.ntmps21
  go_wp2
  go_loopw [5] (fun i wr => ∃ k : Nat, k ≤ xs.length ∧ i = .int .i64 k ∧ Ext w wr) (fun i _ => xs.length - (intOf i).toNat)
  case atStart => exact ⟨0, Nat.zero_le _, rfl, Ext.refl _⟩
  case round =>
    obtain ⟨k, hk, rfl, hx⟩ := hrel
    by_cases hlt : k < xs.length
    · obtain ⟨b, off, x, v1, rfl, hb, hxk, hxs, ht1, hc0, hc1⟩ := AtomsR.at_ (HV.out.ext hx) hlt
      obtain ⟨b', off', x', v2, rfl, hb', hxk', hxs', ht2, hc0', hc1'⟩ := AtomsR.at_ (HU.out.ext hx) hlt
      obtain rfl : x = x' := Option.some.inj (hxk.symm.trans hxk')
      clear hxk hxk'
      have hk0 : (0 : Int) ≤ (k : Int) := Int.natCast_nonneg _
      have hk1 : (k : Int) < (xs.length : Int) := by omega
      go_wp2_with fail
      go_still_tail 8, (by kernel_rfl)
      change wpList _ _ _ _ _ wr.drew
      clear hb hb' hc0 hc1 hc0' hc1'
      go_wp2_with (go_at_call 52; refine (eqAtom_same x _ _ _ ht1.drew_ ht2.drew_).mono ?_; rintro e w1 ⟨rfl, hx1⟩)
      go_roundw
      case rel => exact ⟨k + 1, by omega, by go_num, hx.drew.trans' hx1⟩
      case measure => simp [intOf]; omega
    · go_wp2
      go_ret
      exact ⟨rfl, hx⟩

end Go.Proofs.YtfjdijakgjhieaaGreat

namespace Go.Proofs.YtfjdijakgjhieaaGreat
open Go.RowKit

section
variable {α : Type} (m : Nat → α → α) (c : α → Nat)
def costL (l : List α) : Nat := (l.map c).sum
def mList : Nat → List α → List α
  | _, [] => []
  | k, a :: l => m k a :: mList (k + c a) l
theorem mList_len : ∀ (k : Nat) (l : List α), (mList m c k l).length = l.length
  | _, [] => rfl
  | k, a :: l => by simp [mList, mList_len (k + c a) l]
theorem mList_snoc : ∀ (k : Nat) (l : List α) (a : α), mList m c k (l ++ [a]) = mList m c k l ++ [m (k + costL c l) a]
  | k, [], a => by simp [mList, costL]
  | k, b :: l, a => by
    have ih := mList_snoc (k + c b) l a
    simp only [List.cons_append, mList, ih, costL, List.map_cons, List.sum_cons]
    rw [Nat.add_assoc]
theorem costL_snoc (l : List α) (a : α) : costL c (l ++ [a]) = costL c l + c a := by simp [costL]
theorem mList_step {xs : List α} {k i : Nat} {x : α} (h : xs[i]? = some x) : (mList m c k (xs.take i) ++ xs.drop i).set i (m (k + costL c (xs.take i)) x) = mList m c k (xs.take (i + 1)) ++ xs.drop (i + 1) := by
  obtain ⟨hi, rfl⟩ := List.getElem?_eq_some_iff.1 h
  have hl : (mList m c k (xs.take i)).length = i := by rw [mList_len, List.length_take]; omega
  rw [List.set_append_right _ _ (by omega), hl, Nat.sub_self, List.drop_eq_getElem_cons hi, List.set_cons_zero, List.take_succ_eq_append_getElem hi, mList_snoc, List.append_assoc]
  rfl
theorem mList_at : ∀ (k : Nat) (l : List α) (i : Nat) (x : α), l[i]? = some x → (mList m c k l)[i]? = some (m (k + costL c (l.take i)) x)
  | _, [], i, x, h => by simp at h
  | k, a :: l, 0, x, h => by simp at h; subst h; simp [mList, costL]
  | k, a :: l, i + 1, x, h => by
    have ih := mList_at (k + c a) l i x (by simpa using h)
    simp only [mList, List.getElem?_cons_succ, ih, List.take_succ_cons, costL, List.map_cons, List.sum_cons]
    rw [Nat.add_assoc]
theorem costL_take {xs : List α} {i : Nat} {x : α} (h : xs[i]? = some x) : costL c (xs.take (i + 1)) = costL c (xs.take i) + c x := by
  obtain ⟨hi, rfl⟩ := List.getElem?_eq_some_iff.1 h
  rw [List.take_succ_eq_append_getElem hi, costL_snoc]
theorem costL_take_le (xs : List α) (i : Nat) : costL c (xs.take i) ≤ costL c xs := by
  have h : costL c xs = costL c (xs.take i) + costL c (xs.drop i) := by
    unfold costL
    rw [← List.sum_append, ← List.map_append, List.take_append_drop]
  omega
/-- The element that is marked next. -/
theorem mList_next {xs : List α} {k i : Nat} {x : α} (hi : i ≤ xs.length) (h : (mList m c k (xs.take i) ++ xs.drop i)[i]? = some x) : xs[i]? = some x := by
  rw [List.getElem?_append_right (by rw [mList_len, List.length_take]; omega), mList_len, List.length_take, Nat.min_eq_left hi, Nat.sub_self, List.getElem?_drop, Nat.add_zero] at h
  exact h
end

def costC (g : GC) : Nat := costAs g.comes + costAs g.goes
def mChange (k : Nat) (g : GC) : GC := ⟨mAtoms k g.comes, mAtoms (k + costAs g.comes) g.goes⟩

theorem ChangesO.upd {S : Nat → Prop} {w : World} {A : Option Addr} {n c : Nat} {xs : List GC} (h : ChangesO S w (.slice A n c) xs) {i : Nat} (hi : i < n) :
    ∃ (b off : Nat) (S1 S2 : Nat → Prop) (g : GC) (v u : Value), A = some ⟨b, off, none⟩ ∧ b < w.heap.size ∧ S b ∧ xs[i]? = some g ∧ (∀ m, S1 m ∨ S2 m → S m ∧ m ≠ b ∧ m < w.heap.size) ∧ (∀ m, S1 m → ¬ S2 m) ∧
      w.cell? ⟨b, off + i * 2, none⟩ = some v ∧ w.cell? ⟨b, off + i * 2 + 1, none⟩ = some u ∧ AtomsO S1 w v g.comes ∧ AtomsO S2 w u g.goes ∧
      ∀ (w2 : World) (y : GC), Inside (fun m => S1 m ∨ S2 m) w w2 → AtomsO S1 w2 v y.comes → AtomsO S2 w2 u y.goes → ChangesO S w2 (.slice A n c) (xs.set i y) := by
  obtain ⟨b, off, F, x, cs, rfl, hb, hs, hx, hfr, hF, hl, hcs, hE, hup⟩ := SliceO.update h hi
  obtain ⟨v, u, S1, S2, rfl, h3, h4, h5, h6, h7⟩ := hE
  have c0 := hcs 0 _ rfl
  have c1 := hcs 1 _ rfl
  refine ⟨b, off, S1, S2, x, v, u, rfl, hb, hs, hx, fun m hm => hF m (hm.elim (h5 m) (h6 m)), h7, c0, c1, h3, h4, fun w2 y hin k1 k2 => ?_⟩
  have hnb : ¬ (S1 b ∨ S2 b) := fun h => (hF b (h.elim (h5 b) (h6 b))).2.1 rfl
  have hbk : w2.heap[b]? = w.heap[b]? := hin.block b hb hnb
  refine hup w2 [v, u] y hin.size (fun m hm hn hlt => hin.block m hlt (fun h => hn (h.elim (h5 m) (h6 m)))) (fun o _ => World.cell?_of_block (w := w) (a := ⟨b, o, none⟩) hbk) (fun o => World.frozen?_of_block (w := w) (a := ⟨b, o, none⟩) hbk) rfl (fun j z hz => ?_) ⟨v, u, S1, S2, rfl, k1, k2, h5, h6, h7⟩
  exact (World.cell?_of_block (w := w) (a := ⟨b, _, none⟩) hbk).trans (hcs j z hz)

end Go.Proofs.YtfjdijakgjhieaaGreat

namespace Go.Proofs.YtfjdijakgjhieaaGreat
set_option linter.unusedSimpArgs false
set_option linter.unusedVariables false
open Go.RowKit

def StrsO (S : Nat → Prop) : World → Value → List ByteArray → Prop := SliceO kStr S
theorem StrsO.imp {S S' : Nat → Prop} {w w' : World} {v : Value} {xs : List ByteArray} (h : StrsO S w v xs) (hS : ∀ b, S b → b < w.heap.size → S' b) (he : Agree S w w') (hsz : w.heap.size ≤ w'.heap.size) : StrsO S' w' v xs := SliceO.imp h hS he hsz
theorem StrsO.read {S : Nat → Prop} {w : World} {v : Value} {xs : List ByteArray} (h : StrsO S w v xs) : StrsR S w v xs := SliceO.read (E' := fun _ => StrE) h (fun _ _ _ h _ => h)
def RowEO (S : Nat → Prop) (w : World) (cs : List Value) (x : List ByteArray) : Prop := ∃ v, cs = [v] ∧ StrsO S w v x
def kRowO : Kind (List ByteArray) := ⟨1, RowEO, by decide, fun h hS he hsz => by obtain ⟨v, h1, h2⟩ := h; exact ⟨v, h1, h2.imp hS he hsz⟩,
  fun {_ _ l x} h => by
    obtain ⟨v, rfl, ht⟩ := h
    obtain ⟨A, c, rfl, _⟩ := SliceO.form ht
    intro u hu; simp at hu; subst hu; rfl, fun h => by obtain ⟨v, rfl, _⟩ := h; rfl⟩
def RowsO (S : Nat → Prop) : World → Value → List (List ByteArray) → Prop := SliceO kRowO S
theorem RowEO.read {S T : Nat → Prop} {w : World} {l : List Value} {a : List ByteArray} (h : RowEO T w l a) (hS : ∀ b, T b → S b) : kRow.E S w l a := by
  obtain ⟨v, h1, h3⟩ := h
  exact ⟨v, h1, StrsR.impL h3.read (fun b hb _ => hS b hb) (.refl _ _) (Nat.le_refl _)⟩
theorem RowsO.read {S : Nat → Prop} {w : World} {v : Value} {xs : List (List ByteArray)} (h : RowsO S w v xs) : RowsR S w v xs := SliceO.read (k := kRowO) (E' := kRow.E) h (fun _ _ _ h hS => RowEO.read h hS)
theorem StrsO.upd {S : Nat → Prop} {w : World} {A : Option Addr} {n c : Nat} {xs : List ByteArray} (h : StrsO S w (.slice A n c) xs) {i : Nat} (hi : i < n) :
    ∃ (b off : Nat) (x : ByteArray), A = some ⟨b, off, none⟩ ∧ b < w.heap.size ∧ S b ∧ xs[i]? = some x ∧
      w.frozen? ⟨b, off + i, none⟩ = false ∧ w.cell? ⟨b, off + i, none⟩ = some (.string x) ∧
      ∀ (w1 : World) (y : ByteArray), Ext w w1 → y.size ≤ maxLen → StrsO S (w1.setCell ⟨b, off + i, none⟩ (.string y)) (.slice A n c) (xs.set i y) := by
  obtain ⟨b, off, F, x, cs, rfl, hb, hs, hx, hfr, hF, hl, hcs, hE, hup⟩ := SliceO.update h hi
  obtain ⟨rfl, hxs⟩ := hE
  have c0 : w.cell? ⟨b, off + (i * 1 + 0), none⟩ = some (.string x) := hcs 0 _ rfl
  have f0 : w.frozen? ⟨b, off + (i * 1 + 0), none⟩ = false := hfr 0 (by decide)
  rw [Nat.mul_one, Nat.add_zero] at c0 f0
  refine ⟨b, off, x, rfl, hb, hs, hx, f0, c0, fun w1 y he hy => ?_⟩
  have hsz := he.size
  have d0 : w1.cell? ⟨b, off + i, none⟩ = some (.string x) := (he.cells.1 b _ hb).trans c0
  refine hup _ [.string y] y (by simp [World.setCell]; omega) (fun m hm _ hlt => ?_) (fun o ho => ?_) (fun o => ?_) rfl (fun j u hu => ?_) ⟨rfl, hy⟩
  · rw [Below.heap_setCell _ _ _ _ hm, he.block m hlt]
  · have e1 : o ≠ off + i := by
      rcases ho with ho | ho
      · have : o < off + i * 1 := ho
        omega
      · have : off + (i + 1) * 1 ≤ o := ho
        omega
    rw [World.cell?_setCell_other _ _ _ _ (fun e => e1 (congrArg Addr.off e).symm), he.cells.1 b o hb]
  · rw [frozen_set, he.cells.2 b o hb]
  · match j, hu with
    | 0, hu =>
      simp at hu; subst hu
      show (w1.setCell _ _).cell? ⟨b, off + (i * 1 + 0), none⟩ = _
      rw [Nat.mul_one, Nat.add_zero]
      exact World.cell?_setCell_same _ _ _ d0
theorem RowsO.upd {S : Nat → Prop} {w : World} {A : Option Addr} {n c : Nat} {xs : List (List ByteArray)} (h : RowsO S w (.slice A n c) xs) {i : Nat} (hi : i < n) :
    ∃ (b off : Nat) (F : Nat → Prop) (x : List ByteArray) (u : Value), A = some ⟨b, off, none⟩ ∧ b < w.heap.size ∧ S b ∧ xs[i]? = some x ∧ (∀ m, F m → S m ∧ m ≠ b ∧ m < w.heap.size) ∧
      w.cell? ⟨b, off + i, none⟩ = some u ∧ StrsO F w u x ∧
      ∀ (w2 : World) (y : List ByteArray), Inside F w w2 → StrsO F w2 u y → RowsO S w2 (.slice A n c) (xs.set i y) := by
  obtain ⟨b, off, F, x, cs, rfl, hb, hs, hx, hfr, hF, hl, hcs, hE, hup⟩ := SliceO.update h hi
  obtain ⟨u, rfl, ht⟩ := hE
  have c0 : w.cell? ⟨b, off + (i * 1 + 0), none⟩ = some u := hcs 0 _ rfl
  rw [Nat.mul_one, Nat.add_zero] at c0
  refine ⟨b, off, F, x, u, rfl, hb, hs, hx, hF, c0, ht, fun w2 y hin k1 => ?_⟩
  have hnb : ¬ F b := fun h => (hF b h).2.1 rfl
  have hbk : w2.heap[b]? = w.heap[b]? := hin.block b hb hnb
  refine hup w2 [u] y hin.size (fun m hm hn hlt => hin.block m hlt hn) (fun o _ => World.cell?_of_block (w := w) (a := ⟨b, o, none⟩) hbk) (fun o => World.frozen?_of_block (w := w) (a := ⟨b, o, none⟩) hbk) rfl (fun j z hz => ?_) ⟨u, rfl, k1⟩
  exact (World.cell?_of_block (w := w) (a := ⟨b, _, none⟩) hbk).trans (hcs j z hz)

def mStrs (k n : Nat) : List ByteArray := (List.range n).map fun i => mtext (k + i)
theorem mStrs_len (k n : Nat) : (mStrs k n).length = n := by simp [mStrs]
theorem mStrs_at (k n i : Nat) (h : i < n) : (mStrs k n)[i]? = some (mtext (k + i)) := by simp [mStrs, h]
theorem mStrs_step {xs : List ByteArray} {k i : Nat} (h : i < xs.length) : (mStrs k i ++ xs.drop i).set i (mtext (k + i)) = mStrs k (i + 1) ++ xs.drop (i + 1) := by
  have hl : (mStrs k i).length = i := mStrs_len k i
  rw [List.set_append_right _ _ (by omega), hl, Nat.sub_self, List.drop_eq_getElem_cons h, List.set_cons_zero]
  rw [show mStrs k (i + 1) = mStrs k i ++ [mtext (k + i)] from by simp [mStrs, List.range_succ], List.append_assoc]; rfl
def mRow (k : Nat) (x : List ByteArray) : List ByteArray := mStrs k x.length
def costS (x : List ByteArray) : Nat := x.length

theorem dec_lenB (z : Nat) (h : z ≤ 20000000000000) : (Lib.decDigits z).length ≤ 15 := by
  rw [Lib.decDigits_length]
  have key : ∀ k u, u < 10 ^ k → 1 ≤ k → Lib.nDigits u ≤ k := by
    intro k
    induction k with
    | zero => intro u _ h; omega
    | succ k ih =>
      intro u hu _
      by_cases h1 : u < 10
      · rw [Lib.nDigits_small h1]; omega
      · rw [Lib.nDigits_big h1]
        have : u / 10 < 10 ^ k := by rw [Nat.pow_succ] at hu; omega
        have hk : 1 ≤ k := by
          cases k with
          | zero => rw [Nat.pow_zero] at this; omega
          | succ k => omega
        have := ih (u / 10) this hk
        omega
  exact key 15 z (by have : (20000000000000 : Nat) < 10 ^ 15 := by decide
                     omega) (by omega)
theorem mtext_maxB (k : Nat) (h : k ≤ 20000000000000) : (mtext k).size ≤ maxLen := by
  unfold mtext
  rw [strOf_size]
  have := dec_lenB k h
  exact maxOf (by simp; omega)
set_option maxRecDepth 100000 in
set_option maxHeartbeats 2000000 in
theorem markTextB_any (k : Nat) (w : World) (h1 : 1 ≤ k) (h2 : k ≤ 20000000000000) :
    Calls Tryz.prog 54 #[.int .i64 k] w fun e w' => e = .returned (.string (mtext k)) ∧ Ext w w' := by
  have g0 : decide ((k : Int) ≤ 0) = false := decide_eq_false (by omega)
  go_enter Tryz.func54, Tryz.ntmps54
  go_wp2
  go_loopw [0, 3] (fun i s wr => ∃ (n : Nat) (l : List UInt8), i = .int .i64 n ∧ s = .string (strOf l) ∧ n ≤ k ∧ Hid (decOf n ++ l = Lib.decDigits k) ∧ Ext w wr) (fun i _ _ => (intOf i).toNat)
  case atStart => exact ⟨k, [], rfl, rfl, Nat.le_refl _, by show _ = _; unfold decOf; rw [if_neg (by omega), List.append_nil], Ext.refl _⟩
  case round =>
    obtain ⟨n, l, rfl, rfl, hn, hp, hx⟩ := hrel
    have hl : l.length ≤ 15 := by
      have := congrArg List.length hp.out
      rw [List.length_append] at this
      have := dec_lenB k h2
      omega
    have hls : (strOf l).size ≤ 15 := by rw [strOf_size]; exact hl
    by_cases h0 : 0 < n
    · have hb := byte_string (w := wr.alloc (.cells #[.int .u8 ((48 + n % 10 : Nat) : Int)] 5)) (48 + n % 10) (by omega) (Blk.new _ _ _)
      rw [show ((48 + n % 10 : Nat) : Int) = 48 + (n : Int) % 10 from by omega] at hb
      obtain ⟨c, hc⟩ : ∃ c : ByteArray, c = ⟨#[UInt8.ofNat (48 + n % 10)]⟩ := ⟨_, rfl⟩
      have hcs : c.size ≤ 10 := by rw [hc]; simp [ByteArray.size]
      have HC := Lib.hid (show c ++ strOf l = strOf (UInt8.ofNat (48 + n % 10) :: l) from by rw [hc, show (⟨#[UInt8.ofNat (48 + n % 10)]⟩ : ByteArray) = strOf [UInt8.ofNat (48 + n % 10)] from rfl, strOf_append]; rfl)
      have HP := Lib.hid (show decOf (n / 10) ++ (UInt8.ofNat (48 + n % 10) :: l) = Lib.decDigits k from by rw [← hp.out, decOf_pos h0, List.append_assoc]; rfl)
      rw [← hc] at hb
      have hm0 : 0 ≤ (n : Int) % 10 := by omega
      have hm1 : (n : Int) % 10 < 10 := by omega
      have hw : IntKind.u8.wrap (48 + (n : Int) % 10) = 48 + (n : Int) % 10 := u8_wrap (by omega) (by omega)
      clear hc hp hl
      go_wp2
      go_roundw
      case rel => exact ⟨n / 10, _, by simp, by rw [HC.out], by omega, HP, hx.alloc _⟩
      case measure => simp [intOf]; omega
    · have HF := Lib.hid (show strOf (109 :: l) = mtext k from by
        have := hp.out
        rw [show n = 0 from by omega] at this
        unfold mtext
        rw [← this]; rfl)
      clear hp
      go_wp2
      go_ret
      refine ⟨?_, hx⟩
      refine Eq.trans ?_ (ret_str (a := ⟨#[109]⟩ ++ strOf l) ?_)
      · rfl
      · rw [← HF.out, show (⟨#[109]⟩ : ByteArray) = strOf [109] from rfl, strOf_append]; rfl

set_option maxRecDepth 100000 in
set_option maxHeartbeats 4000000 in
theorem markStringS_any (v : Value) (xs : List ByteArray) (k : Nat) (w : World) {S : Nat → Prop} (hv : StrsO S w v xs) (h1 : 1 ≤ k) (h2 : k + xs.length ≤ 20000000000000) :
    Calls Tryz.prog 56 #[v, .int .i64 k] w fun e w' => (∃ q : Nat, q = k + xs.length ∧ e = .returned (.int .i64 q)) ∧ StrsO S w' v (mStrs k xs.length) ∧ Inside S w w' := by
  obtain ⟨A, c, rfl, hc1, hc2⟩ := SliceO.form hv
  have HV := Lib.hid hv
  clear hv
  go_enter Tryz.func56, Tryz.ntmps56
  go_wp2
  go_loopw [1, 5] (fun kk i wr => ∃ (j q : Nat), j ≤ xs.length ∧ i = .int .i64 j ∧ kk = .int .i64 q ∧ q ≤ 20000000000000 ∧ 1 ≤ q ∧ Hid (q = k + j) ∧ Hid (StrsO S wr (.slice A xs.length c) (mStrs k j ++ xs.drop j)) ∧ Hid (Inside S w wr)) (fun _ i _ => xs.length - (intOf i).toNat)
  case atStart => exact ⟨0, k, Nat.zero_le _, rfl, rfl, by omega, h1, by show _ = _; omega, HV, Inside.refl _ _⟩
  case round =>
    obtain ⟨j, q, hj, rfl, rfl, hq1, hq2, hq, ht, hin⟩ := hrel
    by_cases hlt : j < xs.length
    · obtain ⟨b, off, x, rfl, hb, hs, hx, f0, c0, hup⟩ := StrsO.upd ht.out (i := j) hlt
      have HU := Lib.hid hup
      have HS := Lib.hid hs
      have hq3 : q + 1 ≤ 20000000000000 := by have := hq.out; omega
      have HN := Lib.hid (mStrs_step (k := k) hlt)
      have HM := Lib.hid (fun (W : World) => markTextB_any q W (by omega) (by omega))
      clear hup hs hx
      go_wp2_with (go_at_call 54; refine (HM.out _).mono ?_; rintro e w1 ⟨rfl, hx1⟩; have hz1 := hx1.size; have d1 := (hx1.cells.1 b (off + j) (by go_size)).trans c0; have e1 := (hx1.cells.2 b (off + j) (by go_size)).trans f0; have HX1 := Lib.hid hx1; clear hx1)
      go_roundw
      case rel =>
        have hT := HU.out w1 (mtext (k + j)) HX1.out (mtext_maxB _ (by have := hq.out; omega))
        rw [HN.out, ← hq.out] at hT
        refine ⟨j + 1, q + 1, by omega, by go_num, by go_num, by omega, by omega, by have := hq.out; show _ = _; omega, hT, ?_⟩
        exact (hin.out.trans' (Inside.of_ext HX1.out)).trans' (Inside.set _ _ _ HS.out)
      case measure => simp [intOf]; omega
    · have hjj : j = xs.length := by omega
      have HF := Lib.hid (show mStrs k j ++ xs.drop j = mStrs k xs.length from by rw [hjj, List.drop_length, List.append_nil])
      have HQ := Lib.hid (show q = k + xs.length from by rw [hq.out, hjj])
      clear hjj
      go_wp2
      go_ret
      exact ⟨⟨q, HQ.out, rfl⟩, by rw [← HF.out]; exact ht.out, hin.out⟩

set_option maxRecDepth 100000 in
set_option maxHeartbeats 4000000 in
theorem markStringSS_any (v : Value) (xs : List (List ByteArray)) (k : Nat) (w : World) {S : Nat → Prop} (hv : RowsO S w v xs) (h1 : 1 ≤ k) (h2 : k + costL costS xs ≤ 20000000000000) :
    Calls Tryz.prog 25 #[v, .int .i64 k] w fun e w' => (∃ q : Nat, q = k + costL costS xs ∧ e = .returned (.int .i64 q)) ∧ RowsO S w' v (mList mRow costS k xs) ∧ Inside S w w' := by
  obtain ⟨A, c, rfl, hc1, hc2⟩ := SliceO.form hv
  have HV := Lib.hid hv
  clear hv
  go_enter Tryz.func25, Tryz.ntmps25
  go_wp2
  go_loopw [1, 5] (fun kk i wr => ∃ (j q : Nat), j ≤ xs.length ∧ i = .int .i64 j ∧ kk = .int .i64 q ∧ q ≤ 20000000000000 ∧ 1 ≤ q ∧ Hid (q = k + costL costS (xs.take j)) ∧ Hid (RowsO S wr (.slice A xs.length c) (mList mRow costS k (xs.take j) ++ xs.drop j)) ∧ Hid (Inside S w wr)) (fun _ i _ => xs.length - (intOf i).toNat)
  case atStart => exact ⟨0, k, Nat.zero_le _, rfl, rfl, by omega, h1, by show _ = _; simp [costL], HV, Inside.refl _ _⟩
  case round =>
    obtain ⟨j, q, hj, rfl, rfl, hq1, hq2, hq, ht, hin⟩ := hrel
    have hk0 : (0 : Int) ≤ (j : Int) := by omega
    by_cases hlt : j < xs.length
    · obtain ⟨b, off, F, x, u, rfl, hb, hs, hx, hF, c0, htm, hup⟩ := RowsO.upd ht.out (i := j) hlt
      have hxj := mList_next mRow costS hj hx
      obtain ⟨B, d, rfl, hd1, hd2⟩ := SliceO.form htm
      have hk1 : (j : Int) < (xs.length : Int) := by omega
      have HU := Lib.hid hup
      have HF := Lib.hid hF
      have HT := Lib.hid htm
      have HK := Lib.hid (costL_take costS hxj)
      have hq3 : q + x.length ≤ 20000000000000 := by
        have h3 := hq.out
        have h4 := HK.out
        have h5 := costL_take_le costS xs (j + 1)
        have h9 : costS x = x.length := rfl
        omega
      have HN := Lib.hid (mList_step mRow costS (k := k) hxj)
      clear hup hx hF htm hxj
      go_wp2_with (first
        | (go_at_call 56; refine (markStringS_any (S := F) _ x q _ HT.out hq2 (by omega)).mono ?_; rintro e w1 ⟨⟨q2, hq2', rfl⟩, hv1, hi1⟩
           have HQ2 := Lib.hid hq2'
           have HV1 := Lib.hid hv1
           have HI1 := Lib.hid hi1
           have hq4 : q2 ≤ 20000000000000 := (by omega)
           have hq5 : 1 ≤ q2 := (by omega)
           clear hq2' hv1 hi1))
      go_roundw
      case rel =>
        have hT := HU.out w1 (mRow q x) HI1.out HV1.out
        rw [hq.out, HN.out] at hT
        refine ⟨j + 1, q2, by omega, by go_num, rfl, hq4, hq5, by have h3 := HQ2.out; have h4 := HK.out; have h5 := hq.out; have h9 : costS x = x.length := rfl; show _ = _; omega, hT, ?_⟩
        exact hin.out.trans' (HI1.out.sub (fun i hi _ => (HF.out i hi).1))
      case measure => simp [intOf]; omega
    · have hjj : j = xs.length := by omega
      have HF := Lib.hid (show mList mRow costS k (xs.take j) ++ xs.drop j = mList mRow costS k xs from by rw [hjj, List.drop_length, List.append_nil, List.take_length])
      have HQ := Lib.hid (show q = k + costL costS xs from by rw [hq.out, hjj, List.take_length])
      clear hjj
      go_wp2
      go_ret
      exact ⟨⟨q, HQ.out, rfl⟩, by rw [← HF.out]; exact ht.out, hin.out⟩

set_option maxRecDepth 100000 in
set_option maxHeartbeats 4000000 in
theorem heldStringS_any (v : Value) (n k : Nat) (w : World) {S : Nat → Prop} (hv : StrsR S w v (mStrs k n)) (h1 : 1 ≤ k) (h2 : k + n ≤ 20000000000000) :
    Calls Tryz.prog 57 #[v, .int .i64 k] w fun e w' => (∃ q : Nat, q = k + n ∧ e = .returned (.int .i64 q)) ∧ Ext w w' := by
  obtain ⟨A, c, rfl, hc1, hc2⟩ := SliceR.form hv
  rw [mStrs_len] at hc1 hv ⊢
  have HV := Lib.hid hv
  clear hv
  go_enter Tryz.func57, Tryz.ntmps57
  go_wp2
  go_loopw [1, 5] (fun kk i wr => ∃ (j q : Nat), j ≤ n ∧ i = .int .i64 j ∧ kk = .int .i64 q ∧ q ≤ 20000000000000 ∧ 1 ≤ q ∧ Hid (q = k + j) ∧ Ext w wr) (fun _ i _ => n - (intOf i).toNat)
  case atStart => exact ⟨0, k, Nat.zero_le _, rfl, rfl, by omega, h1, by show _ = _; omega, Ext.refl _⟩
  case round =>
    obtain ⟨j, q, hj, rfl, rfl, hq1, hq2, hq, hx⟩ := hrel
    have hk0 : (0 : Int) ≤ (j : Int) := by omega
    by_cases hlt : j < n
    · obtain ⟨b, off, x, rfl, hb, hxj, hxs, c0⟩ := StrsR.at_ (HV.out.ext hx) hlt
      rw [mStrs_at _ _ _ hlt] at hxj
      injection hxj with hxj
      rw [← hxj, ← hq.out] at c0
      have hk1 : (j : Int) < (n : Int) := by omega
      have hq3 : q + 1 ≤ 20000000000000 := by have := hq.out; omega
      obtain ⟨s, hs⟩ : ∃ s, s = mtext q := ⟨_, rfl⟩
      rw [← hs] at c0
      have HM := Lib.hid (fun (W : World) (_ : Ext wr W) => show Calls Tryz.prog 54 #[.int .i64 (q : Int)] W fun e w' => e = .returned (.string s) ∧ Ext W w' from hs ▸ markTextB_any q W (by omega) (by omega))
      clear hxj hxs hs
      go_wp2_with (fail)
      refine calm_region (by kernel_rfl) (by kernel_rfl) ?_
      repeat (go_big_quiet_step ((go_at_call 54; exact calm_call (HM.out _ (Later.ext _)))))
      refine wpQuiet_nil ?_
      rintro w3 ⟨⟨_, hx3⟩, rfl⟩
      go_wp2
      go_roundw
      case rel => exact ⟨j + 1, q + 1, by omega, by go_num, by go_num, by omega, by omega, by have := hq.out; show _ = _; omega, hx.trans' hx3⟩
      case measure => simp [intOf]; omega
    · have HQ := Lib.hid (show q = k + n from by rw [hq.out, show j = n from by omega])
      go_wp2
      go_ret
      exact ⟨⟨q, HQ.out, rfl⟩, hx⟩

set_option maxRecDepth 100000 in
set_option maxHeartbeats 4000000 in
theorem heldStringSS_any (v : Value) (xs : List (List ByteArray)) (k : Nat) (w : World) {S : Nat → Prop} (hv : RowsR S w v (mList mRow costS k xs)) (h1 : 1 ≤ k) (h2 : k + costL costS xs ≤ 20000000000000) :
    Calls Tryz.prog 26 #[v, .int .i64 k] w fun e w' => (∃ q : Nat, q = k + costL costS xs ∧ e = .returned (.int .i64 q)) ∧ Ext w w' := by
  obtain ⟨A, c, rfl, hc1, hc2⟩ := SliceR.form hv
  rw [mList_len] at hc1 hv ⊢
  have HV := Lib.hid hv
  clear hv
  go_enter Tryz.func26, Tryz.ntmps26
  go_wp2
  go_loopw [1, 5] (fun kk i wr => ∃ (j q : Nat), j ≤ xs.length ∧ i = .int .i64 j ∧ kk = .int .i64 q ∧ q ≤ 20000000000000 ∧ 1 ≤ q ∧ Hid (q = k + costL costS (xs.take j)) ∧ Ext w wr) (fun _ i _ => xs.length - (intOf i).toNat)
  case atStart => exact ⟨0, k, Nat.zero_le _, rfl, rfl, by omega, h1, by show _ = _; simp [costL], Ext.refl _⟩
  case round =>
    obtain ⟨j, q, hj, rfl, rfl, hq1, hq2, hq, hx⟩ := hrel
    have hk0 : (0 : Int) ≤ (j : Int) := by omega
    by_cases hlt : j < xs.length
    · obtain ⟨b, off, y, u, rfl, hb, hyj, ht, c0⟩ := RowsR.at_ (HV.out.ext hx) hlt
      obtain ⟨g, hgj⟩ : ∃ g, xs[j]? = some g := ⟨_, List.getElem?_eq_getElem hlt⟩
      rw [mList_at mRow costS _ _ _ _ hgj] at hyj
      injection hyj with hyj
      rw [← hq.out] at hyj
      subst hyj
      have HK := Lib.hid (costL_take costS hgj)
      have hk1 : (j : Int) < (xs.length : Int) := by omega
      have hq3 : q + g.length ≤ 20000000000000 := by
        have h3 := hq.out
        have h4 := HK.out
        have h5 := costL_take_le costS xs (j + 1)
        have h9 : costS g = g.length := rfl
        omega
      have ht' : StrsR S wr u (mStrs q g.length) := ht
      obtain ⟨B, d, rfl, hd1, hd2⟩ := SliceR.form ht'
      obtain ⟨n1, hn1⟩ : ∃ n1, n1 = (mStrs q g.length).length := ⟨_, rfl⟩
      rw [← hn1] at ht' c0 hd1
      have HT := Lib.hid ht'
      clear ht ht' hgj hn1
      go_wp2_with (first
        | (go_at_call 57; refine (heldStringS_any _ g.length q _ HT.out hq2 (by omega)).mono ?_; rintro e w1 ⟨⟨q2, hq2', rfl⟩, hx1⟩; have HX1 := Lib.hid hx1; have HQ2 := Lib.hid hq2'; have hq4 : q2 ≤ 20000000000000 := (by omega); have hq5 : 1 ≤ q2 := (by omega); clear hq2' hx1))
      go_roundw
      case rel => exact ⟨j + 1, q2, by omega, by go_num, rfl, hq4, hq5, by have h3 := HQ2.out; have h4 := HK.out; have h5 := hq.out; have h9 : costS g = g.length := rfl; show _ = _; omega, hx.trans' HX1.out⟩
      case measure => simp [intOf]; omega
    · have HQ := Lib.hid (show q = k + costL costS xs from by rw [hq.out, List.take_of_length_le (by omega)])
      go_wp2
      go_ret
      exact ⟨⟨q, HQ.out, rfl⟩, hx⟩

set_option maxRecDepth 100000 in
set_option maxHeartbeats 1000000 in
theorem eqStringS_same (v u : Value) (xs : List ByteArray) (w : World) {S T : Nat → Prop} (hv : StrsR S w v xs) (hu : StrsR T w u xs) :
    Calls Tryz.prog 51 #[v, u] w fun e w' => e = .returned (.bool true) ∧ Ext w w' := by
  obtain ⟨A, c, rfl, hc1, hc2⟩ := SliceR.form hv
  obtain ⟨B, d, rfl, hd1, hd2⟩ := SliceR.form hu
  have HV := Lib.hid hv
  have HU := Lib.hid hu
  clear hv hu
  go_enter Tryz.func51, Tryz.ntmps51
  go_wp2
  go_loopw [5] (fun i wr => ∃ k : Nat, k ≤ xs.length ∧ i = .int .i64 k ∧ Ext w wr) (fun i _ => xs.length - (intOf i).toNat)
  case atStart => exact ⟨0, Nat.zero_le _, rfl, Ext.refl _⟩
  case round =>
    obtain ⟨k, hk, rfl, hx⟩ := hrel
    by_cases hlt : k < xs.length
    · obtain ⟨b, off, x, rfl, hb, hxk, hxs, c0⟩ := StrsR.at_ (HV.out.ext hx) hlt
      obtain ⟨b2, off2, y, rfl, hb2, hyk, hys, d0⟩ := StrsR.at_ (HU.out.ext hx) hlt
      rw [hxk] at hyk; injection hyk with hyk; subst hyk
      have hk0 : (0 : Int) ≤ (k : Int) := Int.natCast_nonneg _
      have hk1 : (k : Int) < (xs.length : Int) := by omega
      have he : (!x.toList == x.toList) = false := by simp
      clear hxk
      go_wp2_with fail
      go_still_tail 8, (by kernel_rfl)
      change wpList _ _ _ _ _ wr.drew
      clear hb hb2 c0 d0
      go_wp2
      go_roundw
      case rel => exact ⟨k + 1, by omega, by go_num, hx.drew⟩
      case measure => simp [intOf]; omega
    · go_wp2
      go_ret
      exact ⟨rfl, hx⟩

set_option maxRecDepth 100000 in
set_option maxHeartbeats 1000000 in
theorem eqStringSS_same (v u : Value) (xs : List (List ByteArray)) (w : World) {S T : Nat → Prop} (hv : RowsR S w v xs) (hu : RowsR T w u xs) :
    Calls Tryz.prog 20 #[v, u] w fun e w' => e = .returned (.bool true) ∧ Ext w w' := by
  obtain ⟨A, c, rfl, hc1, hc2⟩ := SliceR.form hv
  obtain ⟨B, d, rfl, hd1, hd2⟩ := SliceR.form hu
  have HV := Lib.hid hv
  have HU := Lib.hid hu
  clear hv hu
  go_enter Tryz.func20, Tryz.ntmps20
  go_wp2
  go_loopw [5] (fun i wr => ∃ k : Nat, k ≤ xs.length ∧ i = .int .i64 k ∧ Ext w wr) (fun i _ => xs.length - (intOf i).toNat)
  case atStart => exact ⟨0, Nat.zero_le _, rfl, Ext.refl _⟩
  case round =>
    obtain ⟨k, hk, rfl, hx⟩ := hrel
    by_cases hlt : k < xs.length
    · obtain ⟨b, off, x, v1, rfl, hb, hxk, ht, c0⟩ := RowsR.at_ (HV.out.ext hx) hlt
      obtain ⟨b2, off2, y, v2, rfl, hb2, hyk, ht2, d0⟩ := RowsR.at_ (HU.out.ext hx) hlt
      rw [hxk] at hyk; injection hyk with hyk; subst hyk
      obtain ⟨E1, e1, rfl, he1, he2⟩ := SliceR.form ht
      obtain ⟨F1, f1, rfl, hf1, hf2⟩ := SliceR.form ht2
      have HT := Lib.hid (ht.ext (Ext.refl _).drew)
      have HT2 := Lib.hid (ht2.ext (Ext.refl _).drew)
      have hk0 : (0 : Int) ≤ (k : Int) := Int.natCast_nonneg _
      have hk1 : (k : Int) < (xs.length : Int) := by omega
      clear hxk ht ht2
      go_wp2_with fail
      go_still_tail 8, (by kernel_rfl)
      change wpList _ _ _ _ _ wr.drew
      clear hb hb2 c0 d0
      go_wp2_with (go_at_call 51; refine (eqStringS_same _ _ x _ HT.out HT2.out).mono ?_; rintro e w1 ⟨rfl, hx1⟩; have HX1 := Lib.hid hx1; clear hx1)
      go_roundw
      case rel => exact ⟨k + 1, by omega, by go_num, hx.drew.trans' HX1.out⟩
      case measure => simp [intOf]; omega
    · go_wp2
      go_ret
      exact ⟨rfl, hx⟩

end Go.Proofs.YtfjdijakgjhieaaGreat

namespace Go.Proofs.YtfjdijakgjhieaaGreat
set_option linter.unusedSimpArgs false
set_option linter.unusedVariables false
open Go.RowKit

theorem strsO_new {g : Nat} {t : TypeId} {w : World} {xs : List ByteArray} (hb : Blk w g t (xs.map Value.string).toArray) (hs : ∀ x ∈ xs, x.size ≤ maxLen) (hm : xs.length ≤ maxLen) : StrsO (fun b => b = g) w (.slice (some ⟨g, 0, none⟩) xs.length xs.length) xs := by
  refine ⟨_, _, rfl, Nat.le_refl _, hm, fun _ => ⟨g, 0, fun _ _ => False, rfl, hb.lt, rfl, fun j _ => hb.frozen _, fun _ _ h => h.elim, fun _ _ _ h => h.elim, fun i x hx => ⟨[.string x], rfl, fun j u hu => ?_, rfl, hs x (List.mem_of_getElem? hx)⟩⟩⟩
  match j, hu with
  | 0, hu =>
    simp only [List.getElem?_cons_zero, Option.some.injEq] at hu
    subst hu
    show w.cell? ⟨g, 0 + (i * 1 + 0), none⟩ = _
    rw [hb.cell, show 0 + (i * 1 + 0) = i by omega]
    simp [hx]
theorem splice_all {α : Type} (L cs : List α) (h : L.length = cs.length) : splice L 0 cs = cs := by unfold splice; simp [← h]
theorem below_inside {B : Nat} {w w' : World} (h : Below B w w') : Inside (fun b => B ≤ b) w w' := ⟨h.os, h.tape, h.output, h.size, fun k hk hn => h.block k (by omega)⟩
/-- ask's out, and the rows in it. -/
def AskR (ob base : Nat) (rows : List (List ByteArray)) (w : World) : Prop := ∃ v, Blk w ob 34 #[v] ∧ OwnO kRowO base 56 (fun b => base ≤ b) w v rows ∧ base ≤ w.heap.size ∧ ob < base
theorem enters_ask1 : ∀ args w, (callFunc 84 args).run Tryz.prog w = .ok (.enter 84 args) w := enters_of Tryz.func84 (by kernel_rfl) (by rfl)

set_option maxRecDepth 100000 in
set_option maxHeartbeats 2000000 in
theorem ask1_yields (H : Hunt) {n ob base N : Nat} (hn : n ≤ 12) (hob : ob < H.sb) (hsb : H.sb < base) (hM : H.M = fun b => b = ob ∨ base ≤ b) (hN : N ≤ 2430000000000) (hG : H.G = Gok) :
    Yields H n 84 #[.pointer (some ⟨ob, 0, none⟩)] (AskR ob base) (fun st r => st ++ [r]) List.length N := by
  refine ⟨enters_ask1, fun st r => by simp, fun st Q w hs hr hGQ hrk => ?_, fun st w w' hr hi => ?_⟩
  · obtain ⟨v, r1, r2, r3, r4⟩ := hr
    obtain ⟨A, m, c, rfl, hm, hm1, hm2⟩ := r2.form2
    obtain ⟨i1, hi1⟩ : ∃ i, Tryz.prog.info? 9 = some i := ⟨_, by rfl⟩
    have hz1 : i1.zero = some (.string ⟨#[]⟩) := by have := hi1; revert this; intro h; cases h; rfl
    have hs1 : i1.size = 1 := by have := hi1; revert this; intro h; cases h; rfl
    have hb1 : i1.bytes = 16 := by have := hi1; revert this; intro h; cases h; rfl
    obtain ⟨i0, hi0⟩ : ∃ i, Tryz.prog.info? 56 = some i := ⟨_, by rfl⟩
    have hz0 : i0.zero = some (.slice none 0 0) := by have := hi0; revert this; intro h; cases h; rfl
    have hs0 : i0.size = 1 := by have := hi0; revert this; intro h; cases h; rfl
    have hb0 : i0.bytes = 24 := by have := hi0; revert this; intro h; cases h; rfl
    obtain ⟨cs0, hcs0, hmk⟩ := made 56 9 i1 _ Tryz.underlying56 hi1 hz1 n (by rw [hb1]; omega) (by omega)
    rw [hs1, Nat.mul_one] at hcs0
    have hwl : (rowW n Q.W).length = n := by simp [rowW]
    have hwat : ∀ j, j < n → w.cell? ⟨H.sb, 18 + j, none⟩ = some (.string (Q.W.at_ j)) := fun j hj => hs.sea.word (by omega)
    have hsm : ∀ x ∈ rowW n Q.W, x.size ≤ maxLen := fun x hx => by
      obtain ⟨j, _, rfl⟩ := List.mem_map.1 hx
      exact word_small hs.sea j
    obtain ⟨row, hrow⟩ : ∃ row, row = rowW n Q.W := ⟨_, rfl⟩
    have HWC := Lib.hid (show ∀ j u, (row.map Value.string)[j]? = some u → w.cell? ⟨H.sb, 18 + j, none⟩ = some u from fun j u hu => by
      rw [hrow] at hu
      have hj : j < n := by
        have := (List.getElem?_eq_some_iff.1 hu).1
        simp [rowW] at this; exact this
      rw [hwat j hj]
      simp [rowW, hj] at hu
      rw [hu])
    rw [← hrow] at hwl hsm
    have HSM := Lib.hid hsm
    have HWL := Lib.hid hwl
    have HCS := Lib.hid hcs0
    have HR1 := Lib.hid r1
    have HR2 := Lib.hid (show OwnO kRowO base 56 (fun b => base ≤ b ∧ b < w.heap.size) w (.slice A m c) st from r2.sub (fun b hb hlt => ⟨hb, hlt⟩))
    have HRW := Lib.hid hrow
    have HMM := Lib.hid hM
    have sl := hs.sea.lt
    have hol := r1.lt
    clear hs hGQ hwat hsm hrow r1 r2 hwl hcs0
    show Calls _ _ #[.slice (some ⟨H.sb, 18, none⟩) n 12, .pointer (some ⟨ob, 0, none⟩)] _ _
    go_enter Tryz.func84, Tryz.ntmps84
    go_wp2_with (first
      | ((with_reducible show wpList _ _ _ (⟨some 9, _, _, _, _, _⟩ :: _) _ _); go_loud (refine wpList_copy_splice rfl (.tmp 7) (.tmp 8) 56 56 rfl 9 Tryz.underlying56 (by rfl) (some ⟨w.heap.size, 0, none⟩) (some ⟨H.sb, 18, none⟩) n n n 12 rfl rfl w.heap.size 0 cs0.toList 9 (by rw [Array.toArray_toList]; exact Blk.new w 9 cs0) (row.map Value.string) (by simp [HWL.out]) (fun _ => ⟨rfl, _, rfl, fun j u hu => by rw [addr_add]; exact (((Ext.refl w).alloc _).cells.1 H.sb (18 + j) sl).trans (HWC.out j u hu)⟩) (by simp [HWL.out, HCS.out]) (fun v hv => by obtain ⟨x, _, rfl⟩ := List.mem_map.1 hv; rfl) w.heap.size w ((Ext.refl w).alloc _) (Nat.le_refl _) ?_)
         intro w2 HG2 hB2
         have HX2 := Lib.hid (show Ext w w2 from hB2)
         have o2 := (HR1.out.ext HX2.out).cell 0
         have f2 := (HR1.out.ext HX2.out).frozen 0
         have l2 := (HR1.out.ext HX2.out).lt
         have HE2 := Lib.hid (show StrsO (fun b => b = w.heap.size) w2 (.slice (some ⟨w.heap.size, 0, none⟩) n n) row from by
           have h1 := HG2.out
           rw [splice_all _ _ (by simp [HWL.out, HCS.out])] at h1
           have h2 := strsO_new (w := w2) (g := w.heap.size) (t := 9) (xs := row) h1 HSM.out (by rw [HWL.out]; unfold maxLen; omega)
           rwa [HWL.out] at h2)
         clear hB2 hmk)
      | (at_builtin; go_loud (refine wpList_appO (k := kRowO) (S := fun b => base ≤ b ∧ b < w.heap.size) (S' := fun b => base ≤ b) (T := fun b => b = w.heap.size) (base := base) (xs := st) rfl (.tmp 10) (.tmp 12) 34 (by rfl) i0 _ 24 Tryz.underlying34 hi0 hz0 hs0 hb0 (by rfl) (by rfl) (HR2.out.ext (HX2.out.alloc _)) _ (by rfl) [.slice (some ⟨w.heap.size, 0, none⟩) n n] row 56 ⟨_, rfl, StrsO.imp HE2.out (fun _ h _ => h) (.of_ext ((Ext.refl _).alloc _)) ((Ext.refl _).alloc _).size⟩ (Blk.new _ _ _) (fun b hb _ => by subst hb; exact r3) (fun b hb => hb.1) (fun b hb h => by omega) (fun g hg hb => by have := (HR2.out.at_ g hg).2; omega) (Nat.le_trans (show st.length + 1 ≤ 2430000000001 from by omega) (by decide)) (by omega) (Nat.le_trans r3 (HX2.out.alloc _).size) ?_)
         intro v3 w3 hap
         obtain ⟨A3, n3, c3, rfl, hn3, h31, h32⟩ := hap.own.form2
         have o3 := (hap.blk ((HR1.out.ext (HX2.out.alloc _))) r4).cell 0
         have f3 := (hap.blk ((HR1.out.ext (HX2.out.alloc _))) r4).frozen 0
         have l3 := (hap.blk ((HR1.out.ext (HX2.out.alloc _))) r4).lt
         have HAP := Lib.hid hap
         clear hap))
    go_end0
    refine ⟨rfl, ⟨.slice A3 n3 c3, ?_, ?_, ?_, r4⟩, ?_⟩
    · have h := (HAP.out.blk ((HR1.out.ext (HX2.out.alloc _))) r4).set_ 0 (.slice A3 n3 c3)
      simpa using h
    · have h := HAP.out.own
      rw [HRW.out] at h
      exact h.agree (((Agree.refl _ _).setCell (fun (hb : base ≤ ob) => by omega) _)) (fun g hg => Below.heap_setCell _ _ _ _ (by have := (h.at_ g hg).1; show g ≠ ob; omega)) (by simp [World.setCell])
    · have h1 := HAP.out.below.size
      have h2 := (HX2.out.alloc (.cells #[.slice (some ⟨w.heap.size, 0, none⟩) n n] 56)).size
      exact Nat.le_trans r3 (Nat.le_trans h2 (Nat.le_trans h1 (by simp [World.setCell])))
    · rw [HMM.out]
      exact ((Inside.of_ext (HX2.out.alloc _)).trans' ((below_inside HAP.out.below).sub (fun _ h _ => .inr h))).trans' (Inside.set _ ⟨ob, 0, none⟩ _ (.inl rfl))
  · obtain ⟨v, r1, r2, r3, r4⟩ := hr
    have hob2 : ¬ (ob = H.sb) := by omega
    refine ⟨v, hi.blk r1 hob2, ?_, Nat.le_trans r3 hi.size, r4⟩
    exact r2.agree (fun b hb hlt => hi.block b hlt (fun e => by omega)) (fun g hg => hi.block g (r2.at_ g hg).2 (fun e => by have := (r2.at_ g hg).1; omega)) hi.size

end Go.Proofs.YtfjdijakgjhieaaGreat
