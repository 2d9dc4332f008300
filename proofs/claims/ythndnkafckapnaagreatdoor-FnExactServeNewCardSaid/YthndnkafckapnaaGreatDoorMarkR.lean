/- The walks of the laws' markPartS, heldPartS, markRuleS, heldRuleS. -/
import Derived.Test.YthndnkafckapnaaGreatDoorMarkC
import Derived.Test.YthndnkafckapnaaGreatDoorToO
namespace Go.Proofs.YthndnkafckapnaaGreatDoor
open Go.RowKit

def costP (p : GP) : Nat := 2 + 2 * p.atom.args.length
def mPart (k : Nat) (p : GP) : GP := ⟨((k : Int) % 3 == 0), ⟨mtext (k + 1), mTerms (k + 2) p.atom.args.length⟩⟩
def costR (r : GR) : Nat := 1 + 2 * r.head.args.length + costL costP r.body
def mRule (k : Nat) (r : GR) : GR := ⟨⟨mtext k, mTerms (k + 1) r.head.args.length⟩, mList mPart costP (k + 1 + 2 * r.head.args.length) r.body⟩

theorem size_set1 (w : World) (p : Addr) (u : Value) : (w.setCell p u).heap.size = w.heap.size := by simp [World.setCell]

theorem PartsO.upd {S : Nat → Prop} {w : World} {A : Option Addr} {n c : Nat} {xs : List GP} (h : PartsO S w (.slice A n c) xs) {i : Nat} (hi : i < n) :
    ∃ (b off : Nat) (F : Nat → Prop) (x : GP) (u : Value), A = some ⟨b, off, none⟩ ∧ b < w.heap.size ∧ S b ∧ xs[i]? = some x ∧ (∀ m, F m → S m ∧ m ≠ b ∧ m < w.heap.size) ∧
      w.frozen? ⟨b, off + i * 3, none⟩ = false ∧ w.frozen? ⟨b, off + i * 3 + 1, none⟩ = false ∧ w.cell? ⟨b, off + i * 3, none⟩ = some (.bool x.no) ∧ w.cell? ⟨b, off + i * 3 + 1, none⟩ = some (.string x.atom.n) ∧ w.cell? ⟨b, off + i * 3 + 2, none⟩ = some u ∧ TermsO F w u x.atom.args ∧
      ∀ (w1 w2 : World) (y : GP), Ext (w.setCell ⟨b, off + i * 3, none⟩ (.bool y.no)) w1 → Inside F (w1.setCell ⟨b, off + i * 3 + 1, none⟩ (.string y.atom.n)) w2 → y.atom.n.size ≤ maxLen → TermsO F w2 u y.atom.args → PartsO S w2 (.slice A n c) (xs.set i y) := by
  obtain ⟨b, off, F, x, cs, rfl, hb, hs, hx, hfr, hF, hl, hcs, hE, hup⟩ := SliceO.update h hi
  obtain ⟨u, rfl, hxs, ht⟩ := hE
  have c0 := hcs 0 _ rfl
  have c1 := hcs 1 _ rfl
  have c2 := hcs 2 _ rfl
  have f0 := hfr 0 (by decide)
  have f1 := hfr 1 (by decide)
  refine ⟨b, off, F, x, u, rfl, hb, hs, hx, hF, f0, f1, c0, c1, c2, ht, fun w1 w2 y he hin hy ht2 => ?_⟩
  have hsz := he.size
  have hsz2 := hin.size
  rw [size_set1] at hsz hsz2
  have hnF : ¬ F b := fun h => (hF b h).2.1 rfl
  have hb0 : b < (w.setCell ⟨b, off + i * 3, none⟩ (.bool y.no)).heap.size := by rw [size_set1]; exact hb
  have hb1 : b < w1.heap.size := by omega
  have g0 : w1.cell? ⟨b, off + i * 3, none⟩ = some (.bool y.no) := (he.cells.1 b _ hb0).trans (World.cell?_setCell_same _ _ _ c0)
  have gx : ∀ o, o ≠ off + i * 3 → w1.cell? ⟨b, o, none⟩ = w.cell? ⟨b, o, none⟩ := fun o ho => (he.cells.1 b o hb0).trans (World.cell?_setCell_other _ _ _ _ (fun e => ho (congrArg Addr.off e).symm))
  have g1 : w1.cell? ⟨b, off + i * 3 + 1, none⟩ = some (.string x.atom.n) := (gx _ (by omega)).trans c1
  have hblk : w2.heap[b]? = (w1.setCell ⟨b, off + i * 3 + 1, none⟩ (.string y.atom.n)).heap[b]? := hin.block b (by rw [size_set1]; exact hb1) hnF
  have hcell : ∀ o, w2.cell? ⟨b, o, none⟩ = (w1.setCell ⟨b, off + i * 3 + 1, none⟩ (.string y.atom.n)).cell? ⟨b, o, none⟩ := fun o => World.cell?_of_block hblk
  have hfroz : ∀ o, w2.frozen? ⟨b, o, none⟩ = (w1.setCell ⟨b, off + i * 3 + 1, none⟩ (.string y.atom.n)).frozen? ⟨b, o, none⟩ := fun o => World.frozen?_of_block hblk
  have hoth : ∀ o, o ≠ off + i * 3 + 1 → w2.cell? ⟨b, o, none⟩ = w1.cell? ⟨b, o, none⟩ := fun o ho => (hcell o).trans (World.cell?_setCell_other _ _ _ _ (fun e => ho (congrArg Addr.off e).symm))
  refine hup _ [.bool y.no, .string y.atom.n, u] y (by omega) (fun m hm hn hlt => ?_) (fun o ho => ?_) (fun o => ?_) rfl (fun j v hv => ?_) ⟨u, rfl, hy, ht2⟩
  · rw [hin.block m (by rw [size_set1]; omega) hn, Below.heap_setCell _ _ _ _ hm, he.block m (by rw [size_set1]; exact hlt), Below.heap_setCell _ _ _ _ hm]
  · have e1 : o ≠ off + i * 3 ∧ o ≠ off + i * 3 + 1 := by
      rcases ho with ho | ho
      · have : o < off + i * 3 := ho
        omega
      · have : off + (i + 1) * 3 ≤ o := ho
        omega
    rw [hoth o e1.2, gx o e1.1]
  · rw [hfroz, frozen_set, he.cells.2 b o hb0, frozen_set]
  · match j, hv with
    | 0, hv =>
      simp at hv; subst hv
      show w2.cell? ⟨b, off + (i * 3 + 0), none⟩ = _
      rw [Nat.add_zero, hoth _ (by omega)]
      exact g0
    | 1, hv =>
      simp at hv; subst hv
      show w2.cell? ⟨b, off + (i * 3 + 1), none⟩ = _
      rw [hcell]
      exact World.cell?_setCell_same _ _ _ g1
    | 2, hv =>
      simp at hv; subst hv
      show w2.cell? ⟨b, off + (i * 3 + 2), none⟩ = _
      rw [hoth _ (by omega), gx _ (by omega)]
      exact c2

theorem RulesO.upd {S : Nat → Prop} {w : World} {A : Option Addr} {n c : Nat} {xs : List GR} (h : RulesO S w (.slice A n c) xs) {i : Nat} (hi : i < n) :
    ∃ (b off : Nat) (S1 S2 : Nat → Prop) (x : GR) (v u : Value), A = some ⟨b, off, none⟩ ∧ b < w.heap.size ∧ S b ∧ xs[i]? = some x ∧ (∀ m, S1 m ∨ S2 m → S m ∧ m ≠ b ∧ m < w.heap.size) ∧ (∀ m, S1 m → ¬ S2 m) ∧
      w.frozen? ⟨b, off + i * 3, none⟩ = false ∧ w.cell? ⟨b, off + i * 3, none⟩ = some (.string x.head.n) ∧ w.cell? ⟨b, off + i * 3 + 1, none⟩ = some v ∧ w.cell? ⟨b, off + i * 3 + 2, none⟩ = some u ∧ TermsO S1 w v x.head.args ∧ PartsO S2 w u x.body ∧
      ∀ (w1 w2 : World) (y : GR), Ext w w1 → Inside (fun m => S1 m ∨ S2 m) (w1.setCell ⟨b, off + i * 3, none⟩ (.string y.head.n)) w2 → y.head.n.size ≤ maxLen → TermsO S1 w2 v y.head.args → PartsO S2 w2 u y.body → RulesO S w2 (.slice A n c) (xs.set i y) := by
  obtain ⟨b, off, F, x, cs, rfl, hb, hs, hx, hfr, hF, hl, hcs, hE, hup⟩ := SliceO.update h hi
  obtain ⟨v, u, S1, S2, rfl, hxs, h3, h4, h5, h6, h7⟩ := hE
  have c0 := hcs 0 _ rfl
  have c1 := hcs 1 _ rfl
  have c2 := hcs 2 _ rfl
  have f0 := hfr 0 (by decide)
  refine ⟨b, off, S1, S2, x, v, u, rfl, hb, hs, hx, fun m hm => hF m (hm.elim (h5 m) (h6 m)), h7, f0, c0, c1, c2, h3, h4, fun w1 w2 y he hin hy k1 k2 => ?_⟩
  have hsz := he.size
  have hsz2 := hin.size
  rw [size_set1] at hsz2
  have hnb : ¬ (S1 b ∨ S2 b) := fun h => (hF b (h.elim (h5 b) (h6 b))).2.1 rfl
  have hb1 : b < w1.heap.size := by omega
  have e0 : w1.cell? ⟨b, off + i * 3, none⟩ = some (.string x.head.n) := (he.cells.1 b _ hb).trans c0
  have hblk : w2.heap[b]? = (w1.setCell ⟨b, off + i * 3, none⟩ (.string y.head.n)).heap[b]? := hin.block b (by rw [size_set1]; exact hb1) hnb
  have hcell : ∀ o, w2.cell? ⟨b, o, none⟩ = (w1.setCell ⟨b, off + i * 3, none⟩ (.string y.head.n)).cell? ⟨b, o, none⟩ := fun o => World.cell?_of_block hblk
  have hfroz : ∀ o, w2.frozen? ⟨b, o, none⟩ = (w1.setCell ⟨b, off + i * 3, none⟩ (.string y.head.n)).frozen? ⟨b, o, none⟩ := fun o => World.frozen?_of_block hblk
  have hoth : ∀ o, o ≠ off + i * 3 → w2.cell? ⟨b, o, none⟩ = w.cell? ⟨b, o, none⟩ := fun o ho => (hcell o).trans ((World.cell?_setCell_other _ _ _ _ (fun e => ho (congrArg Addr.off e).symm)).trans (he.cells.1 b o hb))
  refine hup _ [.string y.head.n, v, u] y (by omega) (fun m hm hn hlt => ?_) (fun o ho => ?_) (fun o => ?_) rfl (fun j z hz => ?_) ⟨v, u, S1, S2, rfl, hy, k1, k2, h5, h6, h7⟩
  · rw [hin.block m (by rw [size_set1]; omega) (fun h => hn (h.elim (h5 m) (h6 m))), Below.heap_setCell _ _ _ _ hm, he.block m hlt]
  · have e1 : o ≠ off + i * 3 := by
      rcases ho with ho | ho
      · have : o < off + i * 3 := ho
        omega
      · have : off + (i + 1) * 3 ≤ o := ho
        omega
    exact hoth o e1
  · rw [hfroz, frozen_set, he.cells.2 b o hb]
  · match j, hz with
    | 0, hz =>
      simp at hz; subst hz
      show w2.cell? ⟨b, off + (i * 3 + 0), none⟩ = _
      rw [Nat.add_zero, hcell]
      exact World.cell?_setCell_same _ _ _ e0
    | 1, hz =>
      simp at hz; subst hz
      show w2.cell? ⟨b, off + (i * 3 + 1), none⟩ = _
      rw [hoth _ (by omega)]
      exact c1
    | 2, hz =>
      simp at hz; subst hz
      show w2.cell? ⟨b, off + (i * 3 + 2), none⟩ = _
      rw [hoth _ (by omega)]
      exact c2

set_option maxRecDepth 100000 in
set_option maxHeartbeats 4000000 in
theorem markPartS_any (v : Value) (xs : List GP) (k : Nat) (w : World) {S : Nat → Prop} (hv : PartsO S w v xs) (h1 : 1 ≤ k) (h2 : k + costL costP xs ≤ 100000000) :
    Calls Tryz.prog 60 #[v, .int .i64 k] w fun e w' => (∃ q : Nat, q = k + costL costP xs ∧ e = .returned (.int .i64 q)) ∧ PartsO S w' v (mList mPart costP k xs) ∧ Inside S w w' := by
  obtain ⟨A, c, rfl, hc1, hc2⟩ := SliceO.form hv
  have HV := Lib.hid hv
  clear hv
  go_enter Tryz.func60, Tryz.ntmps60
  go_wp2
  go_loopw [1, 5] (fun kk i wr => ∃ (j q : Nat), j ≤ xs.length ∧ i = .int .i64 j ∧ kk = .int .i64 q ∧ q ≤ 100000000 ∧ 1 ≤ q ∧ Hid (q = k + costL costP (xs.take j)) ∧ Hid (PartsO S wr (.slice A xs.length c) (mList mPart costP k (xs.take j) ++ xs.drop j)) ∧ Hid (Inside S w wr)) (fun _ i _ => xs.length - (intOf i).toNat)
  case atStart => exact ⟨0, k, Nat.zero_le _, rfl, rfl, by omega, h1, by show _ = _; simp [costL], HV, Inside.refl _ _⟩
  case round =>
    obtain ⟨j, q, hj, rfl, rfl, hq1, hq2, hq, ht, hin⟩ := hrel
    have hk0 : (0 : Int) ≤ (j : Int) := by omega
    by_cases hlt : j < xs.length
    · obtain ⟨b, off, F, x, u, rfl, hb, hs, hx, hF, f0, f1, c0, c1, c2, htm, hup⟩ := PartsO.upd ht.out (i := j) hlt
      have hxj := mList_next mPart costP hj hx
      obtain ⟨B, d, rfl, hd1, hd2⟩ := SliceO.form htm
      have hk1 : (j : Int) < (xs.length : Int) := by omega
      have HU := Lib.hid hup
      have HS := Lib.hid hs
      have HF := Lib.hid hF
      have HT := Lib.hid htm
      have HK := Lib.hid (costL_take costP hxj)
      have hq3 : q + 2 + 2 * x.atom.args.length ≤ 100000000 := by
        have h3 := hq.out
        have h4 := HK.out
        have h5 := costL_take_le costP xs (j + 1)
        have hcp : costP x = 2 + 2 * x.atom.args.length := rfl
        omega
      have HN := Lib.hid (mList_step mPart costP (k := k) hxj)
      have HM := Lib.hid (fun (W : World) => markText_any (q + 1) W (by omega) (by omega))
      clear hup hs hx hF htm hxj
      go_wp2_with (first
        | (go_at_call 58; refine (HM.out _).mono ?_; rintro e w1 ⟨rfl, hx1⟩; have hz1 := hx1.size
           have d1 := (hx1.cells.1 b (off + j * 3 + 1) (by go_size)).trans ((World.cell?_setCell_other _ _ _ _ (by simp)).trans c1)
           have d2 := (hx1.cells.1 b (off + j * 3 + 2) (by go_size)).trans ((World.cell?_setCell_other _ _ _ _ (by simp)).trans c2)
           have e1 := (hx1.cells.2 b (off + j * 3 + 1) (by go_size)).trans ((frozen_set _ _ _ _).trans f1)
           have HX1 := Lib.hid hx1; clear hx1)
        | (go_at_call 59; refine (markTermS_any (S := F) _ x.atom.args (q + 1 + 1) _ (SliceO.imp ((SliceO.imp HT.out (fun _ h _ => h) ((Agree.refl _ _).setCell (fun hb => (HF.out b hb).2.1 rfl) _) (by go_size)).ext HX1.out) (fun _ h _ => h) ((Agree.refl _ _).setCell (fun hb => (HF.out b hb).2.1 rfl) _) (by go_size)) (by omega) (by omega)).mono ?_; rintro e w2 ⟨⟨q2, hq2', rfl⟩, ht2, hin2⟩; have HQ2 := Lib.hid hq2'; have HT2 := Lib.hid ht2; have HI2 := Lib.hid hin2; have hq4 : q2 ≤ 100000000 := (by omega); have hq5 : 1 ≤ q2 := (by omega); clear hq2' ht2 hin2))
      go_roundw
      case rel =>
        have hT := HU.out w1 w2 (mPart q x) HX1.out HI2.out (mtext_max _ (by omega)) HT2.out
        rw [hq.out, HN.out] at hT
        refine ⟨j + 1, q2, by omega, by go_num, rfl, hq4, hq5, by have h3 := HQ2.out; have h4 := HK.out; have h5 := hq.out; have hcp : costP x = 2 + 2 * x.atom.args.length := rfl; show _ = _; omega, hT, ?_⟩
        exact ((hin.out.trans' (Inside.set _ _ _ HS.out)).trans' (Inside.of_ext HX1.out)).trans' ((Inside.set _ _ _ HS.out).trans' (HI2.out.sub (fun i hi _ => (HF.out i hi).1)))
      case measure => simp [intOf]; omega
    · have hjj : j = xs.length := by omega
      have HF := Lib.hid (show mList mPart costP k (xs.take j) ++ xs.drop j = mList mPart costP k xs from by rw [hjj, List.drop_length, List.append_nil, List.take_length])
      have HQ := Lib.hid (show q = k + costL costP xs from by rw [hq.out, hjj, List.take_length])
      clear hjj
      go_wp2
      go_ret
      exact ⟨⟨q, HQ.out, rfl⟩, by rw [← HF.out]; exact ht.out, hin.out⟩

set_option maxRecDepth 100000 in
set_option maxHeartbeats 4000000 in
theorem markRuleS_any (v : Value) (xs : List GR) (k : Nat) (w : World) {S : Nat → Prop} (hv : RulesO S w v xs) (h1 : 1 ≤ k) (h2 : k + costL costR xs ≤ 100000000) :
    Calls Tryz.prog 21 #[v, .int .i64 k] w fun e w' => (∃ q : Nat, q = k + costL costR xs ∧ e = .returned (.int .i64 q)) ∧ RulesO S w' v (mList mRule costR k xs) ∧ Inside S w w' := by
  obtain ⟨A, c, rfl, hc1, hc2⟩ := SliceO.form hv
  have HV := Lib.hid hv
  clear hv
  go_enter Tryz.func21, Tryz.ntmps21
  go_wp2
  go_loopw [1, 5] (fun kk i wr => ∃ (j q : Nat), j ≤ xs.length ∧ i = .int .i64 j ∧ kk = .int .i64 q ∧ q ≤ 100000000 ∧ 1 ≤ q ∧ Hid (q = k + costL costR (xs.take j)) ∧ Hid (RulesO S wr (.slice A xs.length c) (mList mRule costR k (xs.take j) ++ xs.drop j)) ∧ Hid (Inside S w wr)) (fun _ i _ => xs.length - (intOf i).toNat)
  case atStart => exact ⟨0, k, Nat.zero_le _, rfl, rfl, by omega, h1, by show _ = _; simp [costL], HV, Inside.refl _ _⟩
  case round =>
    obtain ⟨j, q, hj, rfl, rfl, hq1, hq2, hq, ht, hin⟩ := hrel
    have hk0 : (0 : Int) ≤ (j : Int) := by omega
    by_cases hlt : j < xs.length
    · obtain ⟨b, off, S1, S2, x, v, u, rfl, hb, hs, hx, hF, hdis, f0, c0, c1, c2, ht1, ht2, hup⟩ := RulesO.upd ht.out (i := j) hlt
      have hxj := mList_next mRule costR hj hx
      obtain ⟨B, d, rfl, hd1, hd2⟩ := SliceO.form ht1
      obtain ⟨D, d', rfl, hd3, hd4⟩ := SliceO.form ht2
      have hk1 : (j : Int) < (xs.length : Int) := by omega
      have HU := Lib.hid hup
      have HS := Lib.hid hs
      have HF := Lib.hid hF
      have HD := Lib.hid hdis
      have HT1 := Lib.hid ht1
      have HT2 := Lib.hid ht2
      have HK := Lib.hid (costL_take costR hxj)
      have hq3 : q + 1 + 2 * x.head.args.length + costL costP x.body ≤ 100000000 := by
        have h3 := hq.out
        have h4 := HK.out
        have h5 := costL_take_le costR xs (j + 1)
        have h9 : costR x = 1 + 2 * x.head.args.length + costL costP x.body := rfl
        omega
      have HN := Lib.hid (mList_step mRule costR (k := k) hxj)
      have HM := Lib.hid (fun (W : World) => markText_any q W hq2 (by omega))
      clear hup hs hx hF ht1 ht2 hxj hdis
      go_wp2_with (first
        | (go_at_call 58; refine (HM.out _).mono ?_; rintro e w1 ⟨rfl, hx1⟩; have hz1 := hx1.size
           have d0 := (hx1.cells.1 b (off + j * 3) hb).trans c0
           have d1 := (hx1.cells.1 b (off + j * 3 + 1) hb).trans c1
           have d2 := (hx1.cells.1 b (off + j * 3 + 2) hb).trans c2
           have e0 := (hx1.cells.2 b (off + j * 3) hb).trans f0
           have HX1 := Lib.hid hx1; clear hx1)
        | (go_at_call 59; refine (markTermS_any (S := S1) _ x.head.args (q + 1) _ (SliceO.imp (SliceO.ext HT1.out HX1.out) (fun _ h _ => h) ((Agree.refl _ _).setCell (fun h => (HF.out b (.inl h)).2.1 rfl) _) (by go_size)) (by omega) (by omega)).mono ?_; rintro e w2 ⟨⟨q2, hq2', rfl⟩, ht2, hin2⟩
           have hz2 := hin2.size
           rw [size_set1] at hz2
           have p2 := (World.cell?_of_block (w := w1.setCell ⟨b, off + j * 3, none⟩ (.string (mtext q))) (a := ⟨b, off + j * 3 + 2, none⟩) (hin2.block b (by rw [size_set1]; omega) (fun h => (HF.out b (.inl h)).2.1 rfl))).trans ((World.cell?_setCell_other _ _ _ _ (by simp)).trans d2)
           have HQ2 := Lib.hid hq2'; have HV1 := Lib.hid ht2; have HI1 := Lib.hid hin2; have hq4 : q2 + costL costP x.body ≤ 100000000 := (by omega); have hq5 : 1 ≤ q2 := (by omega); clear hq2' ht2 hin2)
        | (go_at_call 60; refine (markPartS_any (S := S2) _ x.body q2 _ (SliceO.imp (SliceO.imp (SliceO.ext HT2.out HX1.out) (fun _ h _ => h) ((Agree.refl _ _).setCell (fun h => (HF.out b (.inr h)).2.1 rfl) _) (by go_size)) (fun _ h _ => h) (fun i hi hlt => HI1.out.block i hlt (fun h => HD.out i h hi)) HI1.out.size) hq5 hq4).mono ?_; rintro e w3 ⟨⟨q3, hq3', rfl⟩, hv2, hi2⟩
           have HQ3 := Lib.hid hq3'
           have HV2 := Lib.hid hv2
           have HI2 := Lib.hid hi2
           have hq6 : q3 ≤ 100000000 := (by omega)
           have hq7 : 1 ≤ q3 := (by omega)
           clear hq3' hv2 hi2))
      go_roundw
      case rel =>
        have hV2 := HV2.out
        rw [HQ2.out] at hV2
        have hI := (HI1.out.sub (T := fun m => S1 m ∨ S2 m) (fun i h _ => .inl h)).trans' (HI2.out.sub (fun i h _ => .inr h))
        have hT := HU.out w1 w3 (mRule q x) HX1.out hI (mtext_max _ (by omega)) (SliceO.imp HV1.out (fun _ h _ => h) (fun i hi hlt => HI2.out.block i hlt (fun h => HD.out i hi h)) HI2.out.size) hV2
        rw [hq.out, HN.out] at hT
        refine ⟨j + 1, q3, by omega, by go_num, rfl, hq6, hq7, by have h3 := HQ2.out; have h3' := HQ3.out; have h4 := HK.out; have h5 := hq.out; have h9 : costR x = 1 + 2 * x.head.args.length + costL costP x.body := rfl; show _ = _; omega, hT, ?_⟩
        exact ((hin.out.trans' (Inside.of_ext HX1.out)).trans' (Inside.set _ _ _ HS.out)).trans' (hI.sub (fun i hi _ => (HF.out i hi).1))
      case measure => simp [intOf]; omega
    · have hjj : j = xs.length := by omega
      have HF := Lib.hid (show mList mRule costR k (xs.take j) ++ xs.drop j = mList mRule costR k xs from by rw [hjj, List.drop_length, List.append_nil, List.take_length])
      have HQ := Lib.hid (show q = k + costL costR xs from by rw [hq.out, hjj, List.take_length])
      clear hjj
      go_wp2
      go_ret
      exact ⟨⟨q, HQ.out, rfl⟩, by rw [← HF.out]; exact ht.out, hin.out⟩

set_option maxRecDepth 100000 in
set_option maxHeartbeats 4000000 in
theorem heldPartS_any (v : Value) (xs : List GP) (k : Nat) (w : World) {S : Nat → Prop} (hv : PartsR S w v (mList mPart costP k xs)) (h1 : 1 ≤ k) (h2 : k + costL costP xs ≤ 100000000) :
    Calls Tryz.prog 110 #[v, .int .i64 k] w fun e w' => (∃ q : Nat, q = k + costL costP xs ∧ e = .returned (.int .i64 q)) ∧ Ext w w' := by
  obtain ⟨A, c, rfl, hc1, hc2⟩ := SliceR.form hv
  rw [mList_len] at hc1 hv ⊢
  have HV := Lib.hid hv
  clear hv
  go_enter Tryz.func110, Tryz.ntmps110
  go_wp2
  go_loopw [1, 5] (fun kk i wr => ∃ (j q : Nat), j ≤ xs.length ∧ i = .int .i64 j ∧ kk = .int .i64 q ∧ q ≤ 100000000 ∧ 1 ≤ q ∧ Hid (q = k + costL costP (xs.take j)) ∧ Ext w wr) (fun _ i _ => xs.length - (intOf i).toNat)
  case atStart => exact ⟨0, k, Nat.zero_le _, rfl, rfl, by omega, h1, by show _ = _; simp [costL], Ext.refl _⟩
  case round =>
    obtain ⟨j, q, hj, rfl, rfl, hq1, hq2, hq, hx⟩ := hrel
    have hk0 : (0 : Int) ≤ (j : Int) := by omega
    by_cases hlt : j < xs.length
    · obtain ⟨b, off, y, u, rfl, hb, hyj, hys, ht, c0, c1, c2⟩ := PartsR.at_ (HV.out.ext hx) hlt
      obtain ⟨x, hxj⟩ : ∃ x, xs[j]? = some x := ⟨_, List.getElem?_eq_getElem hlt⟩
      rw [mList_at mPart costP _ _ _ _ hxj] at hyj
      injection hyj with hyj
      rw [← hq.out] at hyj
      subst hyj
      have HK := Lib.hid (costL_take costP hxj)
      have hk1 : (j : Int) < (xs.length : Int) := by omega
      have hq3 : q + 2 + 2 * x.atom.args.length ≤ 100000000 := by
        have h3 := hq.out
        have h4 := HK.out
        have h5 := costL_take_le costP xs (j + 1)
        have hcp : costP x = 2 + 2 * x.atom.args.length := rfl
        omega
      have ht' : TermsR S wr u (mTerms (q + 2) x.atom.args.length) := ht
      obtain ⟨B, d, rfl, hd1, hd2⟩ := SliceR.form ht'
      obtain ⟨nn, hnn⟩ : ∃ nn, nn = (mTerms (q + 2) x.atom.args.length).length := ⟨_, rfl⟩
      rw [← hnn] at ht' c2 hd1
      have HT := Lib.hid ht'
      have hc0 : wr.cell? ⟨b, off + j * 3, none⟩ = some (.bool ((q : Int) % 3 == 0)) := c0
      have hc1 : wr.cell? ⟨b, off + j * 3 + 1, none⟩ = some (.string (mtext (q + 1))) := c1
      have hc2' : wr.cell? ⟨b, off + j * 3 + 2, none⟩ = some (.slice B nn d) := c2
      obtain ⟨bb, hbb⟩ : ∃ bb : Bool, bb = ((q : Int) % 3 == 0) := ⟨_, rfl⟩
      obtain ⟨s, hs⟩ : ∃ s, s = mtext (q + 1) := ⟨_, rfl⟩
      rw [← hs] at hc1
      have HM := Lib.hid (fun (W : World) (_ : Ext wr W) => show Calls Tryz.prog 58 #[.int .i64 ((q : Int) + 1)] W fun e w' => e = .returned (.string s) ∧ Ext W w' from hs ▸ markText_any (q + 1) W (by omega) (by omega))
      clear c0 c1 c2 hs hys ht ht' hxj hnn hbb
      go_wp2_with (fail)
      refine calm_region (by kernel_rfl) (by kernel_rfl) ?_
      repeat (go_big_quiet_step ((go_at_call 58; exact calm_call (HM.out _ (Later.ext _)))))
      refine wpQuiet_nil ?_
      rintro w3 ⟨⟨_, hx3⟩, rfl⟩
      have p2 := (hx3.cells.1 b (off + j * 3 + 2) hb).trans hc2'
      go_wp2_with (go_at_call 109; refine (heldTermS_any _ x.atom.args.length (q + 2) _ (HT.out.ext hx3) (by omega) (by omega)).mono ?_; rintro e w4 ⟨⟨q2, hq2', rfl⟩, hx4⟩; have HQ2 := Lib.hid hq2'; have hq4 : q2 ≤ 100000000 := (by omega); have hq5 : 1 ≤ q2 := (by omega); clear hq2')
      go_roundw
      case rel => exact ⟨j + 1, q2, by omega, by go_num, rfl, hq4, hq5, by have h3 := HQ2.out; have h4 := HK.out; have h5 := hq.out; have hcp : costP x = 2 + 2 * x.atom.args.length := rfl; show _ = _; omega, (hx.trans' hx3).trans' hx4⟩
      case measure => simp [intOf]; omega
    · have HQ := Lib.hid (show q = k + costL costP xs from by rw [hq.out, List.take_of_length_le (by omega)])
      go_wp2
      go_ret
      exact ⟨⟨q, HQ.out, rfl⟩, hx⟩

set_option maxRecDepth 100000 in
set_option maxHeartbeats 4000000 in
theorem heldRuleS_any (v : Value) (xs : List GR) (k : Nat) (w : World) {S : Nat → Prop} (hv : RulesR S w v (mList mRule costR k xs)) (h1 : 1 ≤ k) (h2 : k + costL costR xs ≤ 100000000) :
    Calls Tryz.prog 62 #[v, .int .i64 k] w fun e w' => (∃ q : Nat, q = k + costL costR xs ∧ e = .returned (.int .i64 q)) ∧ Ext w w' := by
  obtain ⟨A, c, rfl, hc1, hc2⟩ := SliceR.form hv
  rw [mList_len] at hc1 hv ⊢
  have HV := Lib.hid hv
  clear hv
  go_enter Tryz.func62, Tryz.ntmps62
  go_wp2
  go_loopw [1, 5] (fun kk i wr => ∃ (j q : Nat), j ≤ xs.length ∧ i = .int .i64 j ∧ kk = .int .i64 q ∧ q ≤ 100000000 ∧ 1 ≤ q ∧ Hid (q = k + costL costR (xs.take j)) ∧ Ext w wr) (fun _ i _ => xs.length - (intOf i).toNat)
  case atStart => exact ⟨0, k, Nat.zero_le _, rfl, rfl, by omega, h1, by show _ = _; simp [costL], Ext.refl _⟩
  case round =>
    obtain ⟨j, q, hj, rfl, rfl, hq1, hq2, hq, hx⟩ := hrel
    have hk0 : (0 : Int) ≤ (j : Int) := by omega
    by_cases hlt : j < xs.length
    · obtain ⟨b, off, y, v1, u1, rfl, hb, hyj, hys, ht1, ht2, c0, c1, c2⟩ := RulesR.at_ (HV.out.ext hx) hlt
      obtain ⟨x, hxj⟩ : ∃ x, xs[j]? = some x := ⟨_, List.getElem?_eq_getElem hlt⟩
      rw [mList_at mRule costR _ _ _ _ hxj] at hyj
      injection hyj with hyj
      rw [← hq.out] at hyj
      subst hyj
      have HK := Lib.hid (costL_take costR hxj)
      have hk1 : (j : Int) < (xs.length : Int) := by omega
      have hq3 : q + 1 + 2 * x.head.args.length + costL costP x.body ≤ 100000000 := by
        have h3 := hq.out
        have h4 := HK.out
        have h5 := costL_take_le costR xs (j + 1)
        have h9 : costR x = 1 + 2 * x.head.args.length + costL costP x.body := rfl
        omega
      have ht1' : TermsR S wr v1 (mTerms (q + 1) x.head.args.length) := ht1
      have ht2' : PartsR S wr u1 (mList mPart costP (q + 1 + 2 * x.head.args.length) x.body) := ht2
      obtain ⟨B, d, rfl, hd1, hd2⟩ := SliceR.form ht1'
      obtain ⟨D, d', rfl, hd3, hd4⟩ := SliceR.form ht2'
      obtain ⟨n1, hn1⟩ : ∃ n1, n1 = (mTerms (q + 1) x.head.args.length).length := ⟨_, rfl⟩
      obtain ⟨n2, hn2⟩ : ∃ n2, n2 = (mList mPart costP (q + 1 + 2 * x.head.args.length) x.body).length := ⟨_, rfl⟩
      rw [← hn1] at ht1' c1 hd1
      rw [← hn2] at ht2' c2 hd3
      have HT1 := Lib.hid ht1'
      have HT2 := Lib.hid ht2'
      have hc0 : wr.cell? ⟨b, off + j * 3, none⟩ = some (.string (mtext q)) := c0
      obtain ⟨s, hs⟩ : ∃ s, s = mtext q := ⟨_, rfl⟩
      rw [← hs] at hc0
      have HM := Lib.hid (fun (W : World) (_ : Ext wr W) => show Calls Tryz.prog 58 #[.int .i64 q] W fun e w' => e = .returned (.string s) ∧ Ext W w' from hs ▸ markText_any q W hq2 (by omega))
      clear c0 hs hys ht1 ht2 ht1' ht2' hxj hn1 hn2
      go_wp2_with (fail)
      refine calm_region (by kernel_rfl) (by kernel_rfl) ?_
      repeat (go_big_quiet_step ((go_at_call 58; exact calm_call (HM.out _ (Later.ext _)))))
      refine wpQuiet_nil ?_
      rintro w3 ⟨⟨_, hx3⟩, rfl⟩
      have p1 := (hx3.cells.1 b (off + j * 3 + 1) hb).trans c1
      have p2 := (hx3.cells.1 b (off + j * 3 + 2) hb).trans c2
      have hz3 := hx3.size
      go_wp2_with (first
        | (go_at_call 109; refine (heldTermS_any _ x.head.args.length (q + 1) _ (HT1.out.ext hx3) (by omega) (by omega)).mono ?_; rintro e w4 ⟨⟨q2, hq2', rfl⟩, hx4⟩; have r2 := (hx4.cells.1 b (off + j * 3 + 2) (by omega)).trans p2; have HX4 := Lib.hid hx4; have HQ2 := Lib.hid hq2'; have hq4 : q2 + costL costP x.body ≤ 100000000 := (by omega); have hq5 : 1 ≤ q2 := (by omega); clear hq2' hx4)
        | (go_at_call 110; refine (heldPartS_any (S := S) _ x.body q2 _ (by rw [HQ2.out]; exact (HT2.out.ext hx3).ext HX4.out) hq5 hq4).mono ?_; rintro e w5 ⟨⟨q3, hq3', rfl⟩, hx5⟩; have HX5 := Lib.hid (HX4.out.trans' hx5); have HQ3 := Lib.hid hq3'; have hq6 : q3 ≤ 100000000 := (by omega); have hq7 : 1 ≤ q3 := (by omega); clear hq3' hx5))
      go_roundw
      case rel => exact ⟨j + 1, q3, by omega, by go_num, rfl, hq6, hq7, by have h3 := HQ2.out; have h3' := HQ3.out; have h4 := HK.out; have h5 := hq.out; have h9 : costR x = 1 + 2 * x.head.args.length + costL costP x.body := rfl; show _ = _; omega, (hx.trans' hx3).trans' HX5.out⟩
      case measure => simp [intOf]; omega
    · have HQ := Lib.hid (show q = k + costL costR xs from by rw [hq.out, List.take_of_length_le (by omega)])
      go_wp2
      go_ret
      exact ⟨⟨q, HQ.out, rfl⟩, hx⟩

end Go.Proofs.YthndnkafckapnaaGreatDoor
