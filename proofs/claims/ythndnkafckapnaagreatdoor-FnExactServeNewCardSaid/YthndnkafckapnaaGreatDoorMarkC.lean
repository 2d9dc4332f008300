/- The walks of the laws' markChangeS, heldChangeS, eqChangeS. -/
import Derived.Test.YthndnkafckapnaaGreatDoorMark
import Derived.Test.YthndnkafckapnaaGreatDoorKinds
import Derived.Test.YthndnkafckapnaaGreatDoorEq
namespace Go.Proofs.YthndnkafckapnaaGreatDoor
open Go.RowKit

section
variable {α : Type} (m : Nat → α → α) (c : α → Nat)
def costL (l : List α) : Nat := (l.map c).sum
def mList : Nat → List α → List α
  | _, [] => []
  | k, a :: l => m k a :: mList (k + c a) l
theorem mList_len : ∀ (k : Nat) (l : List α), (mList m c k l).length = l.length
  | _, [] => rfl
  | k, a :: l => by simp [mList, mList_len (k + c a) l]
theorem mList_snoc : ∀ (k : Nat) (l : List α) (a : α), mList m c k (l ++ [a]) = mList m c k l ++ [m (k + costL c l) a]
  | k, [], a => by simp [mList, costL]
  | k, b :: l, a => by
    have ih := mList_snoc (k + c b) l a
    simp only [List.cons_append, mList, ih, costL, List.map_cons, List.sum_cons]
    rw [Nat.add_assoc]
theorem costL_snoc (l : List α) (a : α) : costL c (l ++ [a]) = costL c l + c a := by simp [costL]
theorem mList_step {xs : List α} {k i : Nat} {x : α} (h : xs[i]? = some x) : (mList m c k (xs.take i) ++ xs.drop i).set i (m (k + costL c (xs.take i)) x) = mList m c k (xs.take (i + 1)) ++ xs.drop (i + 1) := by
  obtain ⟨hi, rfl⟩ := List.getElem?_eq_some_iff.1 h
  have hl : (mList m c k (xs.take i)).length = i := by rw [mList_len, List.length_take]; omega
  rw [List.set_append_right _ _ (by omega), hl, Nat.sub_self, List.drop_eq_getElem_cons hi, List.set_cons_zero, List.take_succ_eq_append_getElem hi, mList_snoc, List.append_assoc]
  rfl
theorem mList_at : ∀ (k : Nat) (l : List α) (i : Nat) (x : α), l[i]? = some x → (mList m c k l)[i]? = some (m (k + costL c (l.take i)) x)
  | _, [], i, x, h => by simp at h
  | k, a :: l, 0, x, h => by simp at h; subst h; simp [mList, costL]
  | k, a :: l, i + 1, x, h => by
    have ih := mList_at (k + c a) l i x (by simpa using h)
    simp only [mList, List.getElem?_cons_succ, ih, List.take_succ_cons, costL, List.map_cons, List.sum_cons]
    rw [Nat.add_assoc]
theorem costL_take {xs : List α} {i : Nat} {x : α} (h : xs[i]? = some x) : costL c (xs.take (i + 1)) = costL c (xs.take i) + c x := by
  obtain ⟨hi, rfl⟩ := List.getElem?_eq_some_iff.1 h
  rw [List.take_succ_eq_append_getElem hi, costL_snoc]
theorem costL_take_le (xs : List α) (i : Nat) : costL c (xs.take i) ≤ costL c xs := by
  have h : costL c xs = costL c (xs.take i) + costL c (xs.drop i) := by
    unfold costL
    rw [← List.sum_append, ← List.map_append, List.take_append_drop]
  omega
/-- The element that is marked next. -/
theorem mList_next {xs : List α} {k i : Nat} {x : α} (hi : i ≤ xs.length) (h : (mList m c k (xs.take i) ++ xs.drop i)[i]? = some x) : xs[i]? = some x := by
  rw [List.getElem?_append_right (by rw [mList_len, List.length_take]; omega), mList_len, List.length_take, Nat.min_eq_left hi, Nat.sub_self, List.getElem?_drop, Nat.add_zero] at h
  exact h
end

def costC (g : GC) : Nat := costAs g.comes + costAs g.goes
def mChange (k : Nat) (g : GC) : GC := ⟨mAtoms k g.comes, mAtoms (k + costAs g.comes) g.goes⟩

theorem ChangesO.upd {S : Nat → Prop} {w : World} {A : Option Addr} {n c : Nat} {xs : List GC} (h : ChangesO S w (.slice A n c) xs) {i : Nat} (hi : i < n) :
    ∃ (b off : Nat) (S1 S2 : Nat → Prop) (g : GC) (v u : Value), A = some ⟨b, off, none⟩ ∧ b < w.heap.size ∧ S b ∧ xs[i]? = some g ∧ (∀ m, S1 m ∨ S2 m → S m ∧ m ≠ b ∧ m < w.heap.size) ∧ (∀ m, S1 m → ¬ S2 m) ∧
      w.cell? ⟨b, off + i * 2, none⟩ = some v ∧ w.cell? ⟨b, off + i * 2 + 1, none⟩ = some u ∧ AtomsO S1 w v g.comes ∧ AtomsO S2 w u g.goes ∧
      ∀ (w2 : World) (y : GC), Inside (fun m => S1 m ∨ S2 m) w w2 → AtomsO S1 w2 v y.comes → AtomsO S2 w2 u y.goes → ChangesO S w2 (.slice A n c) (xs.set i y) := by
  obtain ⟨b, off, F, x, cs, rfl, hb, hs, hx, hfr, hF, hl, hcs, hE, hup⟩ := SliceO.update h hi
  obtain ⟨v, u, S1, S2, rfl, h3, h4, h5, h6, h7⟩ := hE
  have c0 := hcs 0 _ rfl
  have c1 := hcs 1 _ rfl
  refine ⟨b, off, S1, S2, x, v, u, rfl, hb, hs, hx, fun m hm => hF m (hm.elim (h5 m) (h6 m)), h7, c0, c1, h3, h4, fun w2 y hin k1 k2 => ?_⟩
  have hnb : ¬ (S1 b ∨ S2 b) := fun h => (hF b (h.elim (h5 b) (h6 b))).2.1 rfl
  have hbk : w2.heap[b]? = w.heap[b]? := hin.block b hb hnb
  refine hup w2 [v, u] y hin.size (fun m hm hn hlt => hin.block m hlt (fun h => hn (h.elim (h5 m) (h6 m)))) (fun o _ => World.cell?_of_block (w := w) (a := ⟨b, o, none⟩) hbk) (fun o => World.frozen?_of_block (w := w) (a := ⟨b, o, none⟩) hbk) rfl (fun j z hz => ?_) ⟨v, u, S1, S2, rfl, k1, k2, h5, h6, h7⟩
  exact (World.cell?_of_block (w := w) (a := ⟨b, _, none⟩) hbk).trans (hcs j z hz)

set_option maxRecDepth 100000 in
set_option maxHeartbeats 4000000 in
theorem markChangeS_any (v : Value) (xs : List GC) (k : Nat) (w : World) {S : Nat → Prop} (hv : ChangesO S w v xs) (h1 : 1 ≤ k) (h2 : k + costL costC xs ≤ 100000000) :
    Calls Tryz.prog 32 #[v, .int .i64 k] w fun e w' => (∃ q : Nat, q = k + costL costC xs ∧ e = .returned (.int .i64 q)) ∧ ChangesO S w' v (mList mChange costC k xs) ∧ Inside S w w' := by
  obtain ⟨A, c, rfl, hc1, hc2⟩ := SliceO.form hv
  have HV := Lib.hid hv
  clear hv
  go_enter Tryz.func32, Tryz.ntmps32
  go_wp2
  go_loopw [1, 5] (fun kk i wr => ∃ (j q : Nat), j ≤ xs.length ∧ i = .int .i64 j ∧ kk = .int .i64 q ∧ q ≤ 100000000 ∧ 1 ≤ q ∧ Hid (q = k + costL costC (xs.take j)) ∧ Hid (ChangesO S wr (.slice A xs.length c) (mList mChange costC k (xs.take j) ++ xs.drop j)) ∧ Hid (Inside S w wr)) (fun _ i _ => xs.length - (intOf i).toNat)
  case atStart => exact ⟨0, k, Nat.zero_le _, rfl, rfl, by omega, h1, by show _ = _; simp [costL], HV, Inside.refl _ _⟩
  case round =>
    obtain ⟨j, q, hj, rfl, rfl, hq1, hq2, hq, ht, hin⟩ := hrel
    have hk0 : (0 : Int) ≤ (j : Int) := by omega
    by_cases hlt : j < xs.length
    · obtain ⟨b, off, S1, S2, g, v, u, rfl, hb, hs, hx, hF, hdis, c0, c1, ht1, ht2, hup⟩ := ChangesO.upd ht.out (i := j) hlt
      have hxj := mList_next mChange costC hj hx
      obtain ⟨B, d, rfl, hd1, hd2⟩ := SliceO.form ht1
      obtain ⟨D, d', rfl, hd3, hd4⟩ := SliceO.form ht2
      have hk1 : (j : Int) < (xs.length : Int) := by omega
      have HU := Lib.hid hup
      have HF := Lib.hid hF
      have HD := Lib.hid hdis
      have HT1 := Lib.hid ht1
      have HT2 := Lib.hid ht2
      have HK := Lib.hid (costL_take costC hxj)
      have hq3 : q + (costAs g.comes + costAs g.goes) ≤ 100000000 := by
        have h3 := hq.out
        have h4 := HK.out
        have h5 := costL_take_le costC xs (j + 1)
        have h9 : costC g = costAs g.comes + costAs g.goes := rfl
        omega
      have HN := Lib.hid (mList_step mChange costC (k := k) hxj)
      have tok : True := trivial
      clear hup hx hF ht1 ht2 hxj hdis
      go_wp2_with (first
        | (go_at_call 61; have _t := tok; refine (markAtomS_any (S := S1) _ g.comes q _ HT1.out hq2 (by omega)).mono ?_; clear tok _t; rintro e w1 ⟨⟨q2, hq2', rfl⟩, hv1, hi1⟩
           have hz1 := hi1.size
           have d1 := (World.cell?_of_block (w := wr) (a := ⟨b, off + j * 2 + 1, none⟩) (hi1.block b hb (fun h => (HF.out b (.inl h)).2.1 rfl))).trans c1
           have HQ2 := Lib.hid hq2'
           have HV1 := Lib.hid hv1
           have HI1 := Lib.hid hi1
           have hq4 : q2 + costAs g.goes ≤ 100000000 := (by omega)
           have hq5 : 1 ≤ q2 := (by omega)
           clear hq2' hv1 hi1)
        | (go_at_call 61; refine (markAtomS_any (S := S2) _ g.goes q2 _ (SliceO.imp HT2.out (fun _ h _ => h) (fun i hi hlt => HI1.out.block i hlt (fun h => HD.out i h hi)) HI1.out.size) hq5 hq4).mono ?_; rintro e w2 ⟨⟨q3, hq3', rfl⟩, hv2, hi2⟩
           have HQ3 := Lib.hid hq3'
           have HV2 := Lib.hid hv2
           have HI2 := Lib.hid hi2
           have hq6 : q3 ≤ 100000000 := (by omega)
           have hq7 : 1 ≤ q3 := (by omega)
           clear hq3' hv2 hi2))
      go_roundw
      case rel =>
        have hV2 := HV2.out
        rw [HQ2.out] at hV2
        have hI := (HI1.out.sub (T := fun m => S1 m ∨ S2 m) (fun i h _ => .inl h)).trans' (HI2.out.sub (fun i h _ => .inr h))
        have hT := HU.out w2 (mChange q g) hI (SliceO.imp HV1.out (fun _ h _ => h) (fun i hi hlt => HI2.out.block i hlt (fun h => HD.out i hi h)) HI2.out.size) hV2
        rw [hq.out, HN.out] at hT
        refine ⟨j + 1, q3, by omega, by go_num, rfl, hq6, hq7, by have h3 := HQ2.out; have h3' := HQ3.out; have h4 := HK.out; have h5 := hq.out; have h9 : costC g = costAs g.comes + costAs g.goes := rfl; show _ = _; omega, hT, ?_⟩
        exact hin.out.trans' (hI.sub (fun i hi _ => (HF.out i hi).1))
      case measure => simp [intOf]; omega
    · have hjj : j = xs.length := by omega
      have HF := Lib.hid (show mList mChange costC k (xs.take j) ++ xs.drop j = mList mChange costC k xs from by rw [hjj, List.drop_length, List.append_nil, List.take_length])
      have HQ := Lib.hid (show q = k + costL costC xs from by rw [hq.out, hjj, List.take_length])
      clear hjj
      go_wp2
      go_ret
      exact ⟨⟨q, HQ.out, rfl⟩, by rw [← HF.out]; exact ht.out, hin.out⟩

set_option maxRecDepth 100000 in
set_option maxHeartbeats 4000000 in
theorem heldChangeS_any (v : Value) (xs : List GC) (k : Nat) (w : World) {S : Nat → Prop} (hv : ChangesR S w v (mList mChange costC k xs)) (h1 : 1 ≤ k) (h2 : k + costL costC xs ≤ 100000000) :
    Calls Tryz.prog 33 #[v, .int .i64 k] w fun e w' => (∃ q : Nat, q = k + costL costC xs ∧ e = .returned (.int .i64 q)) ∧ Ext w w' := by
  obtain ⟨A, c, rfl, hc1, hc2⟩ := SliceR.form hv
  rw [mList_len] at hc1 hv ⊢
  have HV := Lib.hid hv
  clear hv
  go_enter Tryz.func33, Tryz.ntmps33
  go_wp2
  go_loopw [1, 5] (fun kk i wr => ∃ (j q : Nat), j ≤ xs.length ∧ i = .int .i64 j ∧ kk = .int .i64 q ∧ q ≤ 100000000 ∧ 1 ≤ q ∧ Hid (q = k + costL costC (xs.take j)) ∧ Ext w wr) (fun _ i _ => xs.length - (intOf i).toNat)
  case atStart => exact ⟨0, k, Nat.zero_le _, rfl, rfl, by omega, h1, by show _ = _; simp [costL], Ext.refl _⟩
  case round =>
    obtain ⟨j, q, hj, rfl, rfl, hq1, hq2, hq, hx⟩ := hrel
    have hk0 : (0 : Int) ≤ (j : Int) := by omega
    by_cases hlt : j < xs.length
    · obtain ⟨b, off, y, v1, u1, rfl, hb, hyj, ht1, ht2, c0, c1⟩ := ChangesR.at_ (HV.out.ext hx) hlt
      obtain ⟨g, hgj⟩ : ∃ g, xs[j]? = some g := ⟨_, List.getElem?_eq_getElem hlt⟩
      rw [mList_at mChange costC _ _ _ _ hgj] at hyj
      injection hyj with hyj
      rw [← hq.out] at hyj
      subst hyj
      have HK := Lib.hid (costL_take costC hgj)
      have hk1 : (j : Int) < (xs.length : Int) := by omega
      have hq3 : q + (costAs g.comes + costAs g.goes) ≤ 100000000 := by
        have h3 := hq.out
        have h4 := HK.out
        have h5 := costL_take_le costC xs (j + 1)
        have h9 : costC g = costAs g.comes + costAs g.goes := rfl
        omega
      have ht1' : AtomsR S wr v1 (mAtoms q g.comes) := ht1
      have ht2' : AtomsR S wr u1 (mAtoms (q + costAs g.comes) g.goes) := ht2
      obtain ⟨B, d, rfl, hd1, hd2⟩ := SliceR.form ht1'
      obtain ⟨D, d', rfl, hd3, hd4⟩ := SliceR.form ht2'
      obtain ⟨n1, hn1⟩ : ∃ n1, n1 = (mAtoms q g.comes).length := ⟨_, rfl⟩
      obtain ⟨n2, hn2⟩ : ∃ n2, n2 = (mAtoms (q + costAs g.comes) g.goes).length := ⟨_, rfl⟩
      rw [← hn1] at ht1' c0 hd1
      rw [← hn2] at ht2' c1 hd3
      have HT1 := Lib.hid ht1'
      have HT2 := Lib.hid ht2'
      have tok : True := trivial
      clear ht1 ht2 ht1' ht2' hgj hn1 hn2
      go_wp2_with (first
        | (go_at_call 63; have _t := tok; refine (heldAtomS_any _ g.comes q _ HT1.out hq2 (by omega)).mono ?_; clear tok _t; rintro e w1 ⟨⟨q2, hq2', rfl⟩, hx1⟩; have d1 := (hx1.cells.1 b (off + j * 2 + 1) hb).trans c1; have hz1 := hx1.size; have HX1 := Lib.hid hx1; have HQ2 := Lib.hid hq2'; have hq4 : q2 + costAs g.goes ≤ 100000000 := (by omega); have hq5 : 1 ≤ q2 := (by omega); clear hq2' hx1)
        | (go_at_call 63; refine (heldAtomS_any (S := S) _ g.goes q2 _ (by rw [HQ2.out]; exact HT2.out.ext HX1.out) hq5 hq4).mono ?_; rintro e w2 ⟨⟨q3, hq3', rfl⟩, hx2⟩; have HX2 := Lib.hid (HX1.out.trans' hx2); have HQ3 := Lib.hid hq3'; have hq6 : q3 ≤ 100000000 := (by omega); have hq7 : 1 ≤ q3 := (by omega); clear hq3' hx2))
      go_roundw
      case rel => exact ⟨j + 1, q3, by omega, by go_num, rfl, hq6, hq7, by have h3 := HQ2.out; have h3' := HQ3.out; have h4 := HK.out; have h5 := hq.out; have h9 : costC g = costAs g.comes + costAs g.goes := rfl; show _ = _; omega, hx.trans' HX2.out⟩
      case measure => simp [intOf]; omega
    · have HQ := Lib.hid (show q = k + costL costC xs from by rw [hq.out, List.take_of_length_le (by omega)])
      go_wp2
      go_ret
      exact ⟨⟨q, HQ.out, rfl⟩, hx⟩

set_option maxRecDepth 100000 in
set_option maxHeartbeats 1000000 in
theorem eqChangeS_same (v u : Value) (xs : List GC) (w : World) {S T : Nat → Prop} (hv : ChangesR S w v xs) (hu : ChangesR T w u xs) :
    Calls Tryz.prog 31 #[v, u] w fun e w' => e = .returned (.bool true) ∧ Ext w w' := by
  obtain ⟨A, c, rfl, hc1, hc2⟩ := SliceR.form hv
  obtain ⟨B, d, rfl, hd1, hd2⟩ := SliceR.form hu
  have HV := Lib.hid (hv.sub (S' := Any) (fun _ _ => trivial))
  have HU := Lib.hid (hu.sub (S' := Any) (fun _ _ => trivial))
  clear hv hu
  go_enter Tryz.func31, Tryz.ntmps31
  go_wp2
  go_loopw [5] (fun i wr => ∃ k : Nat, k ≤ xs.length ∧ i = .int .i64 k ∧ Ext w wr) (fun i _ => xs.length - (intOf i).toNat)
  case atStart => exact ⟨0, Nat.zero_le _, rfl, Ext.refl _⟩
  case round =>
    obtain ⟨k, hk, rfl, hx⟩ := hrel
    by_cases hlt : k < xs.length
    · obtain ⟨b, off, x, v1, u1, rfl, hb, hxk, ht1, ht2, hc0, hc1⟩ := ChangesR.at_ (HV.out.ext hx) hlt
      obtain ⟨b', off', x', v2, u2, rfl, hb', hxk', ht3, ht4, hc0', hc1'⟩ := ChangesR.at_ (HU.out.ext hx) hlt
      obtain rfl : x = x' := Option.some.inj (hxk.symm.trans hxk')
      clear hxk hxk'
      have hk0 : (0 : Int) ≤ (k : Int) := Int.natCast_nonneg _
      have hk1 : (k : Int) < (xs.length : Int) := by omega
      go_wp2_with fail
      go_still_tail 8, (by kernel_rfl)
      change wpList _ _ _ _ _ wr.drew
      clear hb hb' hc0 hc1 hc0' hc1'
      go_wp2_with (go_at_call 73; refine (eqChange_same x _ _ _ _ _ ht1.drew_ ht2.drew_ ht3.drew_ ht4.drew_).mono ?_; rintro e w1 ⟨rfl, hx1⟩)
      go_roundw
      case rel => exact ⟨k + 1, by omega, by go_num, hx.drew.trans' hx1⟩
      case measure => simp [intOf]; omega
    · go_wp2
      go_ret
      exact ⟨rfl, hx⟩

end Go.Proofs.YthndnkafckapnaaGreatDoor
