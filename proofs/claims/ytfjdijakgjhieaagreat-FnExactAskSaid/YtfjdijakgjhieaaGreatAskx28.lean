/- Texts of the proof: AskLaw, Law, Draw, ReadB, ReadR. -/
import Derived.Test.YtfjdijakgjhieaaGreatAskx26
import Derived.Test.YtfjdijakgjhieaaGreatAskx24
import Derived.Test.YtfjdijakgjhieaaGreatAskx27
import Derived.Test.YtfjdijakgjhieaaGreatRows
import Derived.Test.YtfjdijakgjhieaaGreatAskx01
import Derived.ProofKit
import Derived.ChangeSame
import Derived.WideKeyArgs
import Derived.Test.YtfjdijakgjhieaaGreatAskx04
import Derived.Laws.BitsAllLaws
import Derived.Laws.BitsLemmas
import Derived.ChangeSlices
namespace Go.Proofs.YtfjdijakgjhieaaGreat
set_option linter.unusedSimpArgs false
set_option linter.unusedVariables false
open Go.RowKit

theorem costL_le3 {α : Type} {c f : α → Nat} : ∀ {l : List α}, (∀ x ∈ l, c x ≤ 2 * (1 + f x)) → costL c l ≤ 2 * (l.length + (l.map f).sum)
  | [], _ => Nat.zero_le _
  | x :: l, h => by
    have h1 := h x (by simp)
    have h2 := costL_le3 (l := l) (fun y hy => h y (by simp [hy]))
    unfold costL at *
    simp only [List.map_cons, List.sum_cons, List.length_cons]
    omega
theorem costAs_le3 (l : List GA) : costAs l ≤ 2 * wAtoms l := costL_le3 (c := costA) fun a _ => by
  have := wTerms_len a.args
  unfold costA wAtom; omega
theorem costPs_le3 (l : List GP) : costL costP l ≤ 2 * wParts l := costL_le3 fun p _ => by
  have := wTerms_len p.atom.args
  unfold costP wPart wAtom; omega

theorem insC_most {α : Type} (c : α → α → Int) : ∀ (l : List α) (s : α), (insC c l s).length ≤ l.length + 1
  | [], s => by simp [insC]
  | x :: l, s => by
    have := insC_most c l s
    simp only [insC]
    split
    · simp; omega
    · split <;> simp
theorem foldC_most {α : Type} (c : α → α → Int) : ∀ (vs out : List α), (vs.foldl (insC c) out).length ≤ out.length + vs.length
  | [], out => by simp
  | x :: vs, out => by
    have h1 := foldC_most c vs (insC c out x)
    have h2 := insC_most c out x
    rw [List.foldl_cons, List.length_cons]; omega
theorem cost_12 : ∀ (l : List (List ByteArray)), (∀ r ∈ l, r.length ≤ 12) → costL costS l ≤ 12 * l.length
  | [], _ => Nat.zero_le _
  | r :: l, h => by
    have h1 := h r List.mem_cons_self
    have h2 := cost_12 l (fun x hx => h x (List.mem_cons_of_mem _ hx))
    unfold costL costS at *
    rw [List.map_cons, List.sum_cons, List.length_cons]; omega
theorem askW_cost (xs : List GA) (ps : List GP) : costL costS (askW xs ps) ≤ 19999999999999 := by
  unfold askW
  split
  · rename_i hc
    simp only [Bool.and_eq_true] at hc
    obtain ⟨h1, h2, h3, h4⟩ := askOk_parts hc.2
    have hx : xs.length ≤ 300 := by
      have := hc.1
      unfold factsB at this
      simp only [Bool.and_eq_true, decide_eq_true_eq] at this
      exact this.2
    have hv : (varsN ps).length ≤ 12 := varsN_few (fun p hp => atomOk_few (h3 p hp)) h2
    have k1 : (askN xs ps (varsN ps)).length ≤ 1000000000000 := by
      unfold askN
      refine Nat.le_trans (foldC_most _ _ _) ?_
      rw [List.length_nil, Nat.zero_add, List.length_map]
      exact Nat.le_trans (List.length_filter_le _ _) (allFold_most xs ps (by omega) h2)
    have k2 : ∀ r ∈ askN xs ps (varsN ps), r.length ≤ 12 := fun r hr => by
      obtain ⟨b, _, rfl⟩ := askN_mem.1 hr
      unfold rowB
      rw [List.length_map]; exact hv
    have := cost_12 _ k2
    omega
  · simp [costL]

set_option maxRecDepth 100000 in
set_option maxHeartbeats 4000000 in
theorem exactAsk_any (v u : Value) (xs : List GA) (ps : List GP) (w : World) {S T : Nat → Prop} (hv : AtomsR S w v xs) (hu : PartsR T w u ps) :
    Calls Tryz.prog 4 #[v, u] w fun e w' => e = .returned (.bool true) ∧ Ext w w' := by
  obtain ⟨A, c, rfl, hc1, hc2⟩ := SliceR.form hv
  obtain ⟨A', c', rfl, hc1', hc2'⟩ := SliceR.form hu
  obtain ⟨hs1, hs2⟩ := two_ways (szAtomS_any _ xs 1048576 w ⟨by omega, by omega⟩ hv)
  have HV := Lib.hid hv
  have HU := Lib.hid hu
  clear hv hu
  by_cases hbig : (1048576 : Int) < wAtoms xs
  · have HSZ := Lib.hid (hs1 hbig)
    clear hs1 hs2 hbig
    go_enter Tryz.func4, Tryz.ntmps4
    go_wp2_with (go_at_call 15; refine HSZ.out.mono ?_; rintro e w1 ⟨rfl, hx1⟩; have HX1 := Lib.hid hx1; clear hx1)
    go_ret
    exact ⟨rfl, HX1.out⟩
  obtain ⟨l1, hl1⟩ : ∃ q : Int, q = 1048576 - (wAtoms xs : Int) := ⟨_, rfl⟩
  have hl10 : 0 ≤ l1 := by omega
  have hl11 : l1 ≤ 1048576 := by omega
  have HSZ0 := Lib.hid (hs2 (by omega))
  rw [← hl1] at HSZ0
  have hk1 := fun (W : World) (hW : Ext w W) => two_ways (szPartS_any _ ps l1 W ⟨hl10, hl11⟩ (HU.out.ext hW))
  clear hs1 hs2
  by_cases hbig2 : l1 < wParts ps
  · have HSZ1 := Lib.hid (fun (W : World) (hW : Ext w W) => (hk1 W hW).1 hbig2)
    clear hk1 hbig hl1 hbig2
    go_enter Tryz.func4, Tryz.ntmps4
    go_wp2_with (first
      | (go_at_call 15; refine HSZ0.out.mono ?_; rintro e w1 ⟨rfl, hx1⟩; have HX1 := Lib.hid hx1; clear hx1)
      | (go_at_call 16; refine (HSZ1.out _ HX1.out).mono ?_; rintro e w2 ⟨rfl, hx2⟩; have HX2 := Lib.hid (HX1.out.trans' hx2); clear hx2))
    go_ret
    exact ⟨rfl, HX2.out⟩
  have HSZ1 := Lib.hid (fun (W : World) (hW : Ext w W) => (hk1 W hW).2 (by omega))
  have hwx : wAtoms xs ≤ 1048576 := by omega
  have hwp : wParts ps ≤ 1048576 := by omega
  have hcx := costAs_le3 xs
  have hcp := costPs_le3 ps
  obtain ⟨l2, hl2⟩ : ∃ q : Int, q = l1 - (wParts ps : Int) := ⟨_, rfl⟩
  have hl20 : 0 ≤ l2 := by omega
  have hl21 : l2 ≤ 1048576 := by omega
  rw [← hl2] at HSZ1
  obtain ⟨B, hB⟩ : ∃ B, B = askW xs ps := ⟨_, rfl⟩
  obtain ⟨K0, hK0⟩ : ∃ K, K = 1 + costAs xs := ⟨_, rfl⟩
  obtain ⟨K1, hK1⟩ : ∃ K, K = K0 + costL costP ps := ⟨_, rfl⟩
  obtain ⟨M, hM⟩ : ∃ K, K = 1 + costL costS B := ⟨_, rfl⟩
  have hcb : costL costS B ≤ 19999999999999 := by rw [hB]; exact askW_cost xs ps
  have a1 : 1 ≤ K0 := by omega
  have a2 : K0 ≤ 50000000 := by omega
  have a3 : 1 ≤ K1 := by omega
  have a4 : K1 ≤ 100000000 := by omega
  have a5 : 1 ≤ M := by omega
  have a6 : M ≤ 20000000000000 := by omega
  have HT0 := Lib.hid (fun (W : World) (hW : Ext w W) => show Calls Tryz.prog 18 #[.slice A xs.length c] W fun e w' => (∃ u, e = .returned u ∧ AtomsO (From W.heap.size) w' u xs) ∧ Ext W w' from toAtomS_own _ xs W (HV.out.ext hW) hwx)
  have HT1 := Lib.hid (fun (W : World) (hW : Ext w W) => show Calls Tryz.prog 19 #[.slice A' ps.length c'] W fun e w' => (∃ u, e = .returned u ∧ PartsO (From W.heap.size) w' u ps) ∧ Ext W w' from toPartS_own _ ps W (HU.out.ext hW) hwp)
  have HS := Lib.hid (fun (v u : Value) (W : World) (T T' : Nat → Prop) (h1 : AtomsR T W v xs) (h2 : PartsR T' W u ps) => show Calls Tryz.prog 17 #[v, u] W fun e w' => (∃ b, e = .returned b ∧ RowsR Any w' b B) ∧ Ext W w' from by rw [hB]; exact specAsk_any xs ps v u W h1 h2)
  have HI := Lib.hid (fun (v u : Value) (W : World) (T T' : Nat → Prop) (_ : Ext w W) (h1 : AtomsR T W v xs) (h2 : PartsR T' W u ps) => show Calls Tryz.prog 14 #[v, u] W fun e w' => (∃ b, e = .returned b ∧ RowsO (From W.heap.size) w' b B) ∧ Ext W w' from by rw [hB]; exact implAsk_any xs ps v u W h1 h2)
  have HEQ := Lib.hid (fun (u u' : Value) (W : World) (T T' : Nat → Prop) (h1 : RowsR T W u B) (h2 : RowsR T' W u' B) => eqStringSS_same u u' B W h1 h2)
  have HER0 := Lib.hid (fun (u u' : Value) (W : World) (T T' : Nat → Prop) (h1 : AtomsR T W u xs) (h2 : AtomsR T' W u' xs) => eqAtomS_same u u' xs W h1 h2)
  have HER1 := Lib.hid (fun (u u' : Value) (W : World) (T T' : Nat → Prop) (h1 : PartsR T W u ps) (h2 : PartsR T' W u' ps) => eqPartS_same u u' ps W h1 h2)
  have HMR0 := Lib.hid (fun (u : Value) (W : World) (T : Nat → Prop) (hu : AtomsO T W u xs) => show Calls Tryz.prog 23 #[u, .int .i64 1] W fun e w' => e = .returned (.int .i64 K0) ∧ Inside T W w' from
    (markAtomS_any u xs 1 W hu (Nat.le_refl _) (by omega)).mono fun e w' ⟨⟨q, hq, he⟩, h⟩ => ⟨by rw [he, hq, hK0], h.2⟩)
  have HMR1 := Lib.hid (fun (u : Value) (W : World) (T : Nat → Prop) (hu : PartsO T W u ps) => show Calls Tryz.prog 24 #[u, .int .i64 K0] W fun e w' => e = .returned (.int .i64 K1) ∧ Inside T W w' from
    (markPartS_any u ps K0 W hu a1 (by omega)).mono fun e w' ⟨⟨q, hq, he⟩, h⟩ => ⟨by rw [he, hq, hK1], h.2⟩)
  have HMB := Lib.hid (fun (u : Value) (W : World) (T : Nat → Prop) (hu : RowsO T W u B) => show Calls Tryz.prog 25 #[u, .int .i64 1] W fun e w' => e = .returned (.int .i64 M) ∧ RowsO T w' u (mList mRow costS 1 B) ∧ Inside T W w' from
    (markStringSS_any u B 1 W hu (Nat.le_refl _) (by omega)).mono fun e w' ⟨⟨q, hq, he⟩, h⟩ => ⟨by rw [he, hq, hM], h⟩)
  have HHB := Lib.hid (fun (u : Value) (W : World) (T : Nat → Prop) (hu : RowsR T W u (mList mRow costS 1 B)) => show Calls Tryz.prog 26 #[u, .int .i64 1] W fun e w' => e = .returned (.int .i64 M) ∧ Ext W w' from
    (heldStringSS_any u B 1 W hu (Nat.le_refl _) (by omega)).mono fun e w' ⟨⟨q, hq, he⟩, h⟩ => ⟨by rw [he, hq, hM], h⟩)
  -- TOKS
  have tok1 : True := trivial
  have tok2 : True := trivial
  have tok3 : True := trivial
  have tok4 : True := trivial
  have tok5 : True := trivial
  have tok6 : True := trivial
  have tok7 : True := trivial
  have tok8 : True := trivial
  have tok9 : True := trivial
  have tok10 : True := trivial
  -- ENDTOKS
  clear HV HU hk1 hbig hbig2 hwx hwp hcx hcp hcb hB hK0 hK1 hM hl1 hl2
  go_enter Tryz.func4, Tryz.ntmps4
  -- ARMS
  go_wp2_with (first
    | (go_at_call 15; refine (HSZ0.out).mono ?_; rintro e w1 ⟨rfl, hx1⟩
       have E_1 := Lib.hid hx1
       clear hx1)
    | (go_at_call 16; refine (HSZ1.out _ E_1.out).mono ?_; rintro e w2 ⟨rfl, hx2⟩
       have HST := Lib.hid hx2
       have E_2 := Lib.hid (E_1.out.trans' HST.out)
       clear E_1
       clear HST hx2)
    | (go_at_call 18; have _t := tok1; refine (HT0.out _ E_2.out).mono ?_; clear tok1 _t; rintro e w3 ⟨⟨u3, rfl, hu3⟩, hx3⟩
       have HST := Lib.hid hx3
       have E_3 := Lib.hid (E_2.out.trans' HST.out)
       clear E_2
       have U0_3 := Lib.hid (AtomsO.read hu3)
       clear hu3
       clear HST hx3)
    | (go_at_call 19; have _t := tok2; refine (HT1.out _ E_3.out).mono ?_; clear tok2 _t; rintro e w4 ⟨⟨u4, rfl, hu4⟩, hx4⟩
       have HST := Lib.hid hx4
       have E_4 := Lib.hid (E_3.out.trans' HST.out)
       clear E_3
       have U0_4 := Lib.hid (AtomsR.ext U0_3.out HST.out)
       clear U0_3
       have U1_4 := Lib.hid (PartsO.read hu4)
       clear hu4
       clear HST hx4)
    | (go_at_call 17; refine (HS.out _ _ _ _ _  U0_4.out U1_4.out).mono ?_; rintro e w5 ⟨⟨b0, rfl, hb0⟩, hx5⟩
       have HST := Lib.hid hx5
       have E_5 := Lib.hid (E_4.out.trans' HST.out)
       clear E_4
       have U0_5 := Lib.hid (AtomsR.ext U0_4.out HST.out)
       clear U0_4
       have U1_5 := Lib.hid (PartsR.ext U1_4.out HST.out)
       clear U1_4
       clear U0_5
       clear U1_5
       have B_5 := Lib.hid (RowsR.impL hb0 (S' := fun i => i < w5.heap.size) (fun i _ h => h) (.refl _ _) (Nat.le_refl _))
       clear hb0
       have HN5 := Lib.hid (show w.heap.size ≤ w5.heap.size from E_5.out.size)
       clear HST hx5)
    | (go_at_call 18; have _t := tok3; refine (HT0.out _ E_5.out).mono ?_; clear tok3 _t; rintro e w6 ⟨⟨x6, rfl, hu6⟩, hx6⟩
       have HST := Lib.hid hx6
       have HN6 := Lib.hid (show w5.heap.size ≤ w6.heap.size from HST.out.size)
       have E_6 := Lib.hid (E_5.out.trans' HST.out)
       clear E_5
       have B_6 := Lib.hid (RowsR.ext B_5.out HST.out)
       clear B_5
       have X0_6 := Lib.hid (SliceO.imp hu6 (S' := fun i => w5.heap.size ≤ i ∧ i < w6.heap.size) (fun i h k => ⟨h, k⟩) (.refl _ _) (Nat.le_refl _))
       clear hu6
       clear HST hx6)
    | (go_at_call 19; have _t := tok4; refine (HT1.out _ E_6.out).mono ?_; clear tok4 _t; rintro e w7 ⟨⟨x7, rfl, hu7⟩, hx7⟩
       have HST := Lib.hid hx7
       have HN7 := Lib.hid (show w6.heap.size ≤ w7.heap.size from HST.out.size)
       have E_7 := Lib.hid (E_6.out.trans' HST.out)
       clear E_6
       have B_7 := Lib.hid (RowsR.ext B_6.out HST.out)
       clear B_6
       have X0_7 := Lib.hid (SliceO.ext X0_6.out HST.out)
       clear X0_6
       have X1_7 := Lib.hid (SliceO.imp hu7 (S' := fun i => w6.heap.size ≤ i ∧ i < w7.heap.size) (fun i h k => ⟨h, k⟩) (.refl _ _) (Nat.le_refl _))
       clear hu7
       clear HST hx7)
    | (go_at_call 14; have _t := tok5; refine (HI.out _ _ _ _ _  E_7.out (AtomsO.read X0_7.out) (PartsO.read X1_7.out)).mono ?_; clear tok5 _t; rintro e w8 ⟨⟨g0, rfl, hg0⟩, hx8⟩
       have HST := Lib.hid hx8
       have HN8 := Lib.hid (show w7.heap.size ≤ w8.heap.size from HST.out.size)
       have E_8 := Lib.hid (E_7.out.trans' HST.out)
       clear E_7
       have B_8 := Lib.hid (RowsR.ext B_7.out HST.out)
       clear B_7
       have X0_8 := Lib.hid (SliceO.ext X0_7.out HST.out)
       clear X0_7
       have X1_8 := Lib.hid (SliceO.ext X1_7.out HST.out)
       clear X1_7
       have G_8 := Lib.hid (SliceO.imp hg0 (S' := fun i => w7.heap.size ≤ i ∧ i < w8.heap.size) (fun i h k => ⟨h, k⟩) (.refl _ _) (Nat.le_refl _))
       clear hg0
       clear HST hx8)
    | (go_at_call 20; have _t := tok6; refine (HEQ.out _ _ _ _ _ (RowsO.read G_8.out) B_8.out).mono ?_; clear tok6 _t; rintro e w9 ⟨rfl, hx9⟩
       have HST := Lib.hid hx9
       have E_9 := Lib.hid (E_8.out.trans' HST.out)
       clear E_8
       have B_9 := Lib.hid (RowsR.ext B_8.out HST.out)
       clear B_8
       have X0_9 := Lib.hid (SliceO.ext X0_8.out HST.out)
       clear X0_8
       have X1_9 := Lib.hid (SliceO.ext X1_8.out HST.out)
       clear X1_8
       have G_9 := Lib.hid (SliceO.ext G_8.out HST.out)
       clear G_8
       clear HST hx9)
    | (go_at_call 18; have _t := tok7; refine (HT0.out _ E_9.out).mono ?_; clear tok7 _t; rintro e w10 ⟨⟨u10, rfl, hu10⟩, hx10⟩
       have HST := Lib.hid hx10
       have E_10 := Lib.hid (E_9.out.trans' HST.out)
       clear E_9
       have B_10 := Lib.hid (RowsR.ext B_9.out HST.out)
       clear B_9
       have X0_10 := Lib.hid (SliceO.ext X0_9.out HST.out)
       clear X0_9
       have X1_10 := Lib.hid (SliceO.ext X1_9.out HST.out)
       clear X1_9
       have G_10 := Lib.hid (SliceO.ext G_9.out HST.out)
       clear G_9
       have V_10 := Lib.hid (AtomsO.read hu10)
       clear hu10
       clear HST hx10)
    | (go_at_call 21; refine (HER0.out _ _ _ _ _ (AtomsO.read X0_10.out) V_10.out).mono ?_; rintro e w11 ⟨rfl, hx11⟩
       have HST := Lib.hid hx11
       have E_11 := Lib.hid (E_10.out.trans' HST.out)
       clear E_10
       have B_11 := Lib.hid (RowsR.ext B_10.out HST.out)
       clear B_10
       have X0_11 := Lib.hid (SliceO.ext X0_10.out HST.out)
       clear X0_10
       have X1_11 := Lib.hid (SliceO.ext X1_10.out HST.out)
       clear X1_10
       have G_11 := Lib.hid (SliceO.ext G_10.out HST.out)
       clear G_10
       have V_11 := Lib.hid (AtomsR.ext V_10.out HST.out)
       clear V_10
       clear V_11
       clear HST hx11)
    | (go_at_call 19; have _t := tok8; refine (HT1.out _ E_11.out).mono ?_; clear tok8 _t; rintro e w12 ⟨⟨u12, rfl, hu12⟩, hx12⟩
       have HST := Lib.hid hx12
       have E_12 := Lib.hid (E_11.out.trans' HST.out)
       clear E_11
       have B_12 := Lib.hid (RowsR.ext B_11.out HST.out)
       clear B_11
       have X0_12 := Lib.hid (SliceO.ext X0_11.out HST.out)
       clear X0_11
       have X1_12 := Lib.hid (SliceO.ext X1_11.out HST.out)
       clear X1_11
       have G_12 := Lib.hid (SliceO.ext G_11.out HST.out)
       clear G_11
       have V_12 := Lib.hid (PartsO.read hu12)
       clear hu12
       clear HST hx12)
    | (go_at_call 22; refine (HER1.out _ _ _ _ _ (PartsO.read X1_12.out) V_12.out).mono ?_; rintro e w13 ⟨rfl, hx13⟩
       have HST := Lib.hid hx13
       have E_13 := Lib.hid (E_12.out.trans' HST.out)
       clear E_12
       have B_13 := Lib.hid (RowsR.ext B_12.out HST.out)
       clear B_12
       have X0_13 := Lib.hid (SliceO.ext X0_12.out HST.out)
       clear X0_12
       have X1_13 := Lib.hid (SliceO.ext X1_12.out HST.out)
       clear X1_12
       have G_13 := Lib.hid (SliceO.ext G_12.out HST.out)
       clear G_12
       have V_13 := Lib.hid (PartsR.ext V_12.out HST.out)
       clear V_12
       clear V_13
       clear HST hx13)
    | (go_at_call 23; refine (HMR0.out _ _ _ X0_13.out).mono ?_; rintro e w14 ⟨rfl, hi14⟩
       have hn5 := HN5.out
       have hn6 := HN6.out
       have hn7 := HN7.out
       have hn8 := HN8.out
       have E_14 := Lib.hid (hi14.toExt E_13.out (fun i (hT : w5.heap.size ≤ i ∧ i < w6.heap.size) => by omega))
       clear E_13
       have B_14 := Lib.hid (RowsR.impL B_13.out (fun _ h _ => h) (fun i (hs : i < w5.heap.size) hlt => hi14.block i hlt (fun (hT : w5.heap.size ≤ i ∧ i < w6.heap.size) => by omega)) hi14.size)
       clear B_13
       clear X0_13
       have X1_14 := Lib.hid (SliceO.imp X1_13.out (fun _ h _ => h) (fun i (hs : w6.heap.size ≤ i ∧ i < w7.heap.size) hlt => hi14.block i hlt (fun (hT : w5.heap.size ≤ i ∧ i < w6.heap.size) => by omega)) hi14.size)
       clear X1_13
       have G_14 := Lib.hid (SliceO.imp G_13.out (fun _ h _ => h) (fun i (hs : w7.heap.size ≤ i ∧ i < w8.heap.size) hlt => hi14.block i hlt (fun (hT : w5.heap.size ≤ i ∧ i < w6.heap.size) => by omega)) hi14.size)
       clear G_13
       clear hn5 hn6 hn7 hn8 hi14)
    | (go_at_call 24; refine (HMR1.out _ _ _ X1_14.out).mono ?_; rintro e w15 ⟨rfl, hi15⟩
       have hn5 := HN5.out
       have hn6 := HN6.out
       have hn7 := HN7.out
       have hn8 := HN8.out
       have E_15 := Lib.hid (hi15.toExt E_14.out (fun i (hT : w6.heap.size ≤ i ∧ i < w7.heap.size) => by omega))
       clear E_14
       have B_15 := Lib.hid (RowsR.impL B_14.out (fun _ h _ => h) (fun i (hs : i < w5.heap.size) hlt => hi15.block i hlt (fun (hT : w6.heap.size ≤ i ∧ i < w7.heap.size) => by omega)) hi15.size)
       clear B_14
       clear X1_14
       have G_15 := Lib.hid (SliceO.imp G_14.out (fun _ h _ => h) (fun i (hs : w7.heap.size ≤ i ∧ i < w8.heap.size) hlt => hi15.block i hlt (fun (hT : w6.heap.size ≤ i ∧ i < w7.heap.size) => by omega)) hi15.size)
       clear G_14
       clear hn5 hn6 hn7 hn8 hi15)
    | (go_at_call 20; have _t := tok9; refine (HEQ.out _ _ _ _ _ (RowsO.read G_15.out) B_15.out).mono ?_; clear tok9 _t; rintro e w16 ⟨rfl, hx16⟩
       have HST := Lib.hid hx16
       have E_16 := Lib.hid (E_15.out.trans' HST.out)
       clear E_15
       have B_16 := Lib.hid (RowsR.ext B_15.out HST.out)
       clear B_15
       have G_16 := Lib.hid (SliceO.ext G_15.out HST.out)
       clear G_15
       clear HST hx16)
    | (go_at_call 25; refine (HMB.out _ _ _ G_16.out).mono ?_; rintro e w17 ⟨rfl, hg17, hi17⟩
       have hn5 := HN5.out
       have hn6 := HN6.out
       have hn7 := HN7.out
       have hn8 := HN8.out
       have E_17 := Lib.hid (hi17.toExt E_16.out (fun i (hT : w7.heap.size ≤ i ∧ i < w8.heap.size) => by omega))
       clear E_16
       have B_17 := Lib.hid (RowsR.impL B_16.out (fun _ h _ => h) (fun i (hs : i < w5.heap.size) hlt => hi17.block i hlt (fun (hT : w7.heap.size ≤ i ∧ i < w8.heap.size) => by omega)) hi17.size)
       clear B_16
       have G_17 := Lib.hid hg17
       clear G_16
       clear hn5 hn6 hn7 hn8 hi17 hg17)
    | (go_at_call 26; have _t := tok10; refine (HHB.out _ _ _ (RowsO.read G_17.out)).mono ?_; clear tok10 _t; rintro e w18 ⟨rfl, hx18⟩
       have HST := Lib.hid hx18
       have E_18 := Lib.hid (E_17.out.trans' HST.out)
       clear E_17
       have B_18 := Lib.hid (RowsR.ext B_17.out HST.out)
       clear B_17
       have G_18 := Lib.hid (SliceO.ext G_17.out HST.out)
       clear G_17
       clear HST hx18)
    | (go_at_call 18; refine (HT0.out _ E_18.out).mono ?_; rintro e w19 ⟨⟨u19, rfl, hu19⟩, hx19⟩
       have HST := Lib.hid hx19
       have E_19 := Lib.hid (E_18.out.trans' HST.out)
       clear E_18
       have B_19 := Lib.hid (RowsR.ext B_18.out HST.out)
       clear B_18
       have G_19 := Lib.hid (SliceO.ext G_18.out HST.out)
       clear G_18
       have Q0_19 := Lib.hid (AtomsO.read hu19)
       clear hu19
       clear HST hx19)
    | (go_at_call 19; refine (HT1.out _ E_19.out).mono ?_; rintro e w20 ⟨⟨u20, rfl, hu20⟩, hx20⟩
       have HST := Lib.hid hx20
       have E_20 := Lib.hid (E_19.out.trans' HST.out)
       clear E_19
       have B_20 := Lib.hid (RowsR.ext B_19.out HST.out)
       clear B_19
       have G_20 := Lib.hid (SliceO.ext G_19.out HST.out)
       clear G_19
       have Q0_20 := Lib.hid (AtomsR.ext Q0_19.out HST.out)
       clear Q0_19
       have Q1_20 := Lib.hid (PartsO.read hu20)
       clear hu20
       clear HST hx20)
    | (go_at_call 14; refine (HI.out _ _ _ _ _  E_20.out Q0_20.out Q1_20.out).mono ?_; rintro e w21 ⟨⟨h0, rfl, hh0⟩, hx21⟩
       have HST := Lib.hid hx21
       have E_21 := Lib.hid (E_20.out.trans' HST.out)
       clear E_20
       have B_21 := Lib.hid (RowsR.ext B_20.out HST.out)
       clear B_20
       have G_21 := Lib.hid (SliceO.ext G_20.out HST.out)
       clear G_20
       have Q0_21 := Lib.hid (AtomsR.ext Q0_20.out HST.out)
       clear Q0_20
       have Q1_21 := Lib.hid (PartsR.ext Q1_20.out HST.out)
       clear Q1_20
       clear Q0_21
       clear Q1_21
       have H_21 := Lib.hid (RowsO.read hh0)
       clear hh0
       clear HST hx21)
    | (go_at_call 20; refine (HEQ.out _ _ _ _ _ H_21.out B_21.out).mono ?_; rintro e w22 ⟨rfl, hx22⟩
       have HST := Lib.hid hx22
       have E_22 := Lib.hid (E_21.out.trans' HST.out)
       clear E_21
       have B_22 := Lib.hid (RowsR.ext B_21.out HST.out)
       clear B_21
       have G_22 := Lib.hid (SliceO.ext G_21.out HST.out)
       clear G_21
       have H_22 := Lib.hid (RowsR.ext H_21.out HST.out)
       clear H_21
       clear H_22
       clear HST hx22)
    | (go_at_call 26; refine (HHB.out _ _ _ (RowsO.read G_22.out)).mono ?_; rintro e w23 ⟨rfl, hx23⟩
       have HST := Lib.hid hx23
       have E_23 := Lib.hid (E_22.out.trans' HST.out)
       clear E_22
       have B_23 := Lib.hid (RowsR.ext B_22.out HST.out)
       clear B_22
       have G_23 := Lib.hid (SliceO.ext G_22.out HST.out)
       clear G_22
       clear HST hx23))
  go_ret
  exact ⟨rfl, E_23.out⟩
  -- ENDARMS

end Go.Proofs.YtfjdijakgjhieaaGreat

namespace Go.Proofs.YtfjdijakgjhieaaGreat
open Go.RowKit Go.ChangeShapes Go.WideShapes

theorem law_own : ownKnob Tryz.prog.godebug = none := by kernel_rfl
theorem law_laidOut : laidOutB Tryz.prog = true := by kernel_rfl

section
variable {H : Type} {enc : TypeId × Value → H} {P : Program}

theorem trodAll_stays (hl : laidOutB P = true) {W W' : World} (hb : Below W.heap.size W W') : ∀ (ts : List TypeId) (vs : List Value) (ds : List (DataW H)) (ps : List MemPlace), (∀ t ∈ ts, P.readableRec t = true ∧ t < P.types.size) →
    DataW.TrodAll enc P W 0 (fun _ => true) true ts vs ds ps → (∀ x ∈ ps, x.block < W.heap.size) → ∀ sp : Nat → Bool, (∀ x ∈ ps, sp x.block = true) → DataW.TrodAll enc P W' 0 sp true ts vs ds ps
  | [], [], [], ps, _, h, _, _, _ => h
  | t :: ts, v :: vs, d :: ds, ps, ht, h, hlt, sp, hsp => by
    obtain ⟨p, q, h1, h2, rfl⟩ := h
    refine ⟨p, q, ?_, trodAll_stays hl hb ts vs ds q (fun t ht' => ht t (List.mem_cons_of_mem _ ht')) h2 (fun x hx => hlt x (List.mem_append.2 (.inr hx))) sp (fun x hx => hsp x (List.mem_append.2 (.inr hx))), rfl⟩
    exact WideElems.Trod_stays hl (ht t (by simp)).1 (ht t (by simp)).2 h1 (fun x hx => hb.same (hlt x (List.mem_append.2 (.inl hx)))) (fun x hx => hsp x (List.mem_append.2 (.inl hx)))
  | [], _ :: _, _, _, _, h, _, _, _ => by simp [DataW.TrodAll] at h
  | [], [], _ :: _, _, _, h, _, _, _ => by simp [DataW.TrodAll] at h
  | _ :: _, [], _, _, _, h, _, _, _ => by simp [DataW.TrodAll] at h
  | _ :: _, _ :: _, [], _, _, h, _, _, _ => by simp [DataW.TrodAll] at h

/-- A law whose call returns true and leaves what was there: its row's post. -/
theorem law_post {f : Func} {s : ChangeSpec} {apart fresh handsOn again : Bool} {W W' : World} {args : Array Value} {ds : List (DataW H)} {before : List MemPlace} {t : TypeId}
    (hvars : s.vars = []) (hres : f.resultTypes = #[t]) (hbool : P.underlying t = some .bool) (hspec : s.fn H (ds ++ []) = { results := [.lit (.bool true)], args := ds })
    (hl : laidOutB P = true) (hts : ∀ t ∈ f.params.toList, P.readableRec t = true ∧ t < P.types.size)
    (hW : DataW.Whole enc P f.params.toList s.vars apart W args.toList ds [] before) (hb : Below W.heap.size W W') :
    s.post enc P f apart fresh handsOn again W args (.bool true) W' := by
  obtain ⟨p, q, hA, hV, hpq, hz, hn⟩ := id hW
  have hq : q = [] := by
    rw [hvars] at hV
    obtain ⟨_, h2⟩ := trodVars_none hV
    exact h2
  subst hq
  rw [List.append_nil] at hpq
  subst hpq
  have hlt : ∀ x ∈ before, x.block < W.heap.size := fun x hx => hW.lt x hx
  have hstay := trodAll_stays hl hb _ _ _ _ hts hA hlt
  have hold : ∀ x ∈ before, (fun b => decide (b < W.heap.size)) x.block = true := fun x hx => by simpa using hlt x hx
  have hr : ∀ (b : Nat) (sp : Nat → Bool) (hd : Bool), DataW.TrodAll enc P W' b sp hd f.resultTypes.toList ((Value.bool true).resultList f.resultTypes.size) (s.fn H (ds ++ [])).results [] := by
    intro b sp hd
    rw [hres, hspec]
    exact trodAll_mk1 (shut_bool hbool true)
  have hvr : ∀ sp : Nat → Bool, DataW.TrodVars enc P W' sp s.vars (s.fn H (ds ++ [])).vars [] := by
    intro sp
    rw [hvars, hspec]
    rfl
  have hargs : ∀ sp : Nat → Bool, (∀ x ∈ before, sp x.block = true) → DataW.TrodAll enc P W' 0 sp true f.params.toList args.toList (s.fn H (ds ++ [])).args before := by
    intro sp hsp
    rw [hspec]
    exact hstay sp hsp
  refine ⟨ds, [], before, [], before, [], hW, hr _ _ _, hargs _ hold, hvr _, World.keptBut_mono (fun x hx => ⟨hx, .inr (by simpa using hx)⟩) (hb.frame (· ∈ before)), fun _ => ?_⟩
  refine ⟨ok_one hres rfl (okWide_bool_mk hbool true), _, _, ([] ++ before) ++ [], ⟨[] ++ before, [], trodAll_append (hargs _ (fun _ _ => rfl)) (hr _ _ _), hvr _, rfl, ?_, ?_⟩, ?_⟩
  · intro b off hp
    have hin : MemPlace.cell b off ∈ before := by simpa using hp
    rw [hb.frozen (hlt _ hin)]
    exact hz b off hin
  · intro ha
    have := hn ha
    simpa using this
  · intro x hx _
    simpa using hx
end
end Go.Proofs.YtfjdijakgjhieaaGreat

namespace Go.Proofs.YtfjdijakgjhieaaGreat
open Go.RowKit

/-- The bytes of a code. -/
def ByteE (_ : World) (cs : List Value) (c : UInt8) : Prop := cs = [.int .u8 c.toNat]
def BytesR (S : Nat → Prop) : World → Value → List UInt8 → Prop := SliceR S 1 ByteE

theorem BytesR.imp {S S' : Nat → Prop} {w w' : World} {v : Value} {xs : List UInt8} (h : BytesR S w v xs) (hS : ∀ b, S b → S' b) (he : Agree S w w') (hsz : w.heap.size ≤ w'.heap.size) : BytesR S' w' v xs :=
  SliceR.imp (E := ByteE) (w := w) (fun _ _ _ h => h) hS h he hsz
theorem BytesR.ext {S : Nat → Prop} {w w' : World} {v : Value} {xs : List UInt8} (h : BytesR S w v xs) (he : Ext w w') : BytesR S w' v xs := h.imp (fun _ h => h) (.of_ext he) he.size
theorem BytesR.at_ {S : Nat → Prop} {w : World} {A : Option Addr} {n c : Nat} {xs : List UInt8} (h : BytesR S w (.slice A n c) xs) {k : Nat} (hk : k < n) :
    ∃ (b off : Nat) (x : UInt8), A = some ⟨b, off, none⟩ ∧ b < w.heap.size ∧ xs[k]? = some x ∧ w.cell? ⟨b, off + k, none⟩ = some (.int .u8 x.toNat) := by
  obtain ⟨b, off, x, cs, hA, hb, hx, _, hc, rfl⟩ := SliceR.at_ h hk
  exact ⟨b, off, x, hA, hb, hx, by simpa using hc 0 _ rfl⟩

theorem SliceR.take {α : Type} {S : Nat → Prop} {size : Nat} {E : World → List Value → α → Prop} {w : World} {A : Option Addr} {n c : Nat} {xs : List α} (h : SliceR S size E w (.slice A n c) xs) (k : Nat) (hk : k ≤ n) : SliceR S size E w (.slice A k c) (xs.take k) := by
  obtain ⟨A', c', hv, h1, h2, h3⟩ := h
  injection hv with hA hn hc
  subst hA; subst hn; subst hc
  have hl : (xs.take k).length = k := by rw [List.length_take]; omega
  refine ⟨A, c, by rw [hl], by omega, h2, fun h0 => ?_⟩
  obtain ⟨b, off, ha, hb, hs, hcell⟩ := h3 (by omega)
  exact ⟨b, off, ha, hb, hs, fun i x hx => hcell i x (by
    rw [List.getElem?_take] at hx
    split at hx
    · exact hx
    · cases hx)⟩
theorem SliceR.low {α : Type} {S : Nat → Prop} {size : Nat} {E : World → List Value → α → Prop} {w : World} {v : Value} {xs : List α} (h : SliceR S size E w v xs) : SliceR (fun b => b < w.heap.size) size E w v xs := by
  obtain ⟨A, c, hv, h1, h2, h3⟩ := h
  refine ⟨A, c, hv, h1, h2, fun h0 => ?_⟩
  obtain ⟨b, off, ha, hb, _, hcell⟩ := h3 h0
  exact ⟨b, off, ha, hb, hb, hcell⟩
theorem BytesR.aside {S : Nat → Prop} {w : World} {v : Value} {xs : List UInt8} (h : BytesR S w v xs) (o : Obj) : BytesR (fun b => b < w.heap.size) (w.alloc o) v xs :=
  BytesR.imp (w := w) (SliceR.low h) (fun b hb => hb) (.of_ext ((Ext.refl w).alloc o)) (by go_size)

/-- A reader in block rb: its bytes lie elsewhere; p bytes have been asked for. -/
def Reader (w : World) (rb : Nat) (p : Nat) : Prop :=
  ∃ A n c xs, BytesR (fun b => b < rb) w (.slice A n c) xs ∧ n ≤ 2000 ∧ p ≤ 1000000 ∧ Blk w rb 119 #[.slice A n c, .int .i64 p]

/-- All but the reader's block stands. -/
def Else (rb : Nat) (w w' : World) : Prop := w.grownBy w' (some rb)

theorem reader_post {w W : World} {rb p n c : Nat} {A : Option Addr} {xs : List UInt8} (hb : BytesR (fun b => b < rb) w (.slice A n c) xs) (hn : n ≤ 2000) (hk : Blk w rb 119 #[.slice A n c, .int .i64 p]) (hp : p + 1 ≤ 1000000)
    (h : Ext (w.setCell ⟨rb, 1, none⟩ (.int .i64 ((p : Int) + 1))) W) : Reader W rb (p + 1) ∧ Else rb w W := by
  have h1 : Agree (fun b => b < rb) w (w.setCell ⟨rb, 1, none⟩ (.int .i64 ((p : Int) + 1))) := (Agree.refl _ _).setCell (by simp) _
  refine ⟨⟨A, n, c, xs, (hb.imp (fun _ h => h) h1 (by go_size)).ext h, hn, hp, ?_⟩, ?_⟩
  · have := (hk.set_ 1 (.int .i64 ((p : Int) + 1))).ext h
    simpa using this
  · exact ⟨h.os, h.tape, h.output, by have := h.size; simpa [World.setCell] using this, fun k hk hne => (h.block k (by simpa [World.setCell] using hk)).trans (Below.heap_setCell _ _ _ _ (fun e => hne (by rw [e])))⟩

theorem ofInt_small (a : Nat) (ha : a < 4611686018427387904) : (BitVec.ofInt 64 (a : Int)).toNat = a := by
  rw [BitVec.ofInt_natCast, BitVec.toNat_ofNat]; exact Nat.mod_eq_of_lt (by omega)
theorem xor_nat (a b : Nat) (ha : a < 4611686018427387904) (hb : b < 4611686018427387904) : bits .xor .i64 (a : Int) (b : Int) = ((a ^^^ b : Nat) : Int) := by
  have hx : a ^^^ b < 2 ^ 62 := Nat.xor_lt_two_pow (by omega) (by omega)
  show IntKind.i64.wrap ((BitVec.ofInt 64 (a : Int) ^^^ BitVec.ofInt 64 (b : Int)).toNat : Int) = _
  rw [BitVec.toNat_xor, ofInt_small a ha, ofInt_small b hb, IntKind.wrap_i64]
  omega

set_option maxRecDepth 100000 in
set_option maxHeartbeats 4000000 in
theorem pick_any (rb p n : Nat) (w : World) (hn : 1 ≤ n ∧ n ≤ 1000000) (hr : Reader w rb p) (hp : p + 1 ≤ 1000000) :
    Calls Tryz.prog 60 #[.pointer (some ⟨rb, 0, none⟩), .int .i64 n] w fun e w' => (∃ z : Nat, z < n ∧ e = .returned (.int .i64 z)) ∧ Reader w' rb (p + 1) ∧ Else rb w w' := by
  obtain ⟨A, m, c, xs, hb, hm, hpp, hk⟩ := hr
  obtain ⟨hn1, hn2⟩ := hn
  have q0 := hk.cell 0
  have q1 := hk.cell 1
  have f0 := hk.frozen 0
  have f1 := hk.frozen 1
  have HB := Lib.hid hb
  have HK := Lib.hid hk
  have HP := Lib.hid hp
  have HM := Lib.hid hm
  clear hb hk
  have g1 : decide ((n : Int) < 1) = false := decide_eq_false (by omega)
  by_cases h0 : m = 0
  · subst h0
    go_enter Tryz.func60, Tryz.ntmps60
    go_wp2
    go_ret
    exact ⟨⟨0, by omega, rfl⟩, reader_post HB.out HM.out HK.out HP.out (Ext.refl _)⟩
  · have g2 : (((m : Nat) : Int) == 0) = false := by rw [beq_eq_false_iff_ne]; omega
    have hm1 : 1 ≤ m := by omega
    by_cases hlt : p < m
    · obtain ⟨b, off, x, rfl, hbb, hxk, hc0⟩ := BytesR.at_ HB.out hlt
      have hbne : b ≠ rb := by
        intro e
        obtain ⟨A', c', hv, _, _, h3⟩ := HB.out
        injection hv with hA hn' _
        obtain ⟨b', off', ha, _, hs, _⟩ := h3 (by omega)
        rw [ha] at hA
        injection hA with hA
        injection hA with hA _
        subst e; rw [hA] at hs; omega
      have hx8 : x.toNat < 256 := x.toNat_lt
      clear hxk h0
      go_enter Tryz.func60, Tryz.ntmps60
      go_wp2
      go_ret
      exact ⟨⟨x.toNat % n, Nat.mod_lt _ (by omega), ret_int (by simp)⟩, reader_post HB.out HM.out HK.out HP.out (Ext.refl _)⟩
    · obtain ⟨b, off, x, rfl, hbb, hxk, hc0⟩ := BytesR.at_ HB.out (k := p % m) (Nat.mod_lt _ (by omega))
      obtain ⟨b', off', y, hbe, hbb', hyk, hd0⟩ := BytesR.at_ HB.out (k := (p * 7 + 3) % m) (Nat.mod_lt _ (by omega))
      injection hbe with hbe
      injection hbe with e1 e2
      subst e1; subst e2
      have hbne : b ≠ rb := by
        intro e
        obtain ⟨A', c', hv, _, _, h3⟩ := HB.out
        injection hv with hA hn' _
        obtain ⟨b', off', ha, _, hs, _⟩ := h3 (by omega)
        rw [ha] at hA
        injection hA with hA
        injection hA with hA _
        subst e; rw [hA] at hs; omega
      have hx8 : x.toNat < 256 := x.toNat_lt
      have hy8 : y.toNat < 256 := y.toNat_lt
      have i10 : (0 : Int) ≤ (p : Int) % (m : Int) := Int.emod_nonneg _ (by omega)
      have i11 : (p : Int) % (m : Int) < (m : Int) := Int.emod_lt_of_pos _ (by omega)
      have i20 : (0 : Int) ≤ ((p : Int) * 7 + 3) % (m : Int) := Int.emod_nonneg _ (by omega)
      have i21 : ((p : Int) * 7 + 3) % (m : Int) < (m : Int) := Int.emod_lt_of_pos _ (by omega)
      have j1 : ((p : Int) % (m : Int)).toNat = p % m := by rw [← Int.natCast_emod, Int.toNat_natCast]
      have j2 : (((p : Int) * 7 + 3) % (m : Int)).toNat = (p * 7 + 3) % m := by
        rw [show ((p : Int) * 7 + 3) = ((p * 7 + 3 : Nat) : Int) from by push_cast; rfl, ← Int.natCast_emod, Int.toNat_natCast]
      have hrl := HK.out.lt
      have g3 : decide (p < m) = false := decide_eq_false hlt
      have hdiv : p / m ≤ p := Nat.div_le_self _ _
      have d0 : (0 : Int) ≤ (p : Int) / (m : Int) := Int.ediv_nonneg (by omega) (by omega)
      have d1 : (p : Int) / (m : Int) ≤ 1000000 := by rw [← Int.natCast_ediv]; omega
      obtain ⟨t, ht, ht2⟩ : ∃ t : Nat, (x.toNat : Int) * 131 + (y.toNat : Int) * 1117 + (p : Int) * 29 + (p : Int) / (m : Int) * 53 = (t : Int) ∧ t < 1000000000 :=
        ⟨x.toNat * 131 + y.toNat * 1117 + p * 29 + p / m * 53, by push_cast; rfl, by omega⟩
      obtain ⟨z, hz, hz2⟩ : ∃ z : Nat, bits .xor .i64 (t : Int) ((t : Int) / 64) = (z : Int) ∧ z < 4611686018427387904 := by
        refine ⟨t ^^^ (t / 64), ?_, ?_⟩
        · rw [show ((t : Int) / 64) = ((t / 64 : Nat) : Int) from by push_cast; rfl]
          exact xor_nat t (t / 64) (by omega) (by omega)
        · have : t ^^^ (t / 64) < 2 ^ 62 := Nat.xor_lt_two_pow (by omega) (by omega)
          omega
      clear hxk hyk h0 hdiv
      go_enter Tryz.func60, Tryz.ntmps60
      go_wp2
      refine calm_region (by kernel_rfl) (by kernel_rfl) ?_
      repeat (go_big_quiet_step (fail))
      refine wpQuiet_nil ?_
      rintro w1 ⟨⟨_, hx1⟩, rfl⟩
      clear hc0 hd0 i10 i11 i20 i21 j1 j2 d0 d1 q0 q1 f0 f1
      go_wp2
      go_ret
      exact ⟨⟨z % n, Nat.mod_lt _ (by omega), ret_int (by simp)⟩, reader_post HB.out HM.out HK.out HP.out hx1⟩

set_option maxRecDepth 100000 in
set_option maxHeartbeats 1000000 in
theorem l1Open_any (v : Value) (xs : List UInt8) (w : World) {S : Nat → Prop} (hv : BytesR S w v xs) :
    Calls Tryz.prog 58 #[v] w fun e w' => ∃ rb, e = .returned (.pointer (some ⟨rb, 0, none⟩)) ∧ Reader w' rb 0 ∧ Ext w w' ∧ w.heap.size ≤ rb := by
  obtain ⟨A, c, rfl, hc1, hc2⟩ := SliceR.form hv
  have HV := Lib.hid hv
  clear hv
  by_cases h : xs.length ≤ 2000
  · go_enter Tryz.func58, Tryz.ntmps58
    go_wp2
    go_ret
    refine ⟨w.heap.size, rfl, ⟨A, xs.length, c, xs, ?_, h, by omega, Blk.new _ _ _⟩, (Ext.refl _).alloc _, Nat.le_refl _⟩
    exact HV.out.aside _
  · go_enter Tryz.func58, Tryz.ntmps58
    go_wp2
    go_ret
    refine ⟨w.heap.size, rfl, ⟨A, 2000, c, xs.take 2000, ?_, Nat.le_refl _, by omega, Blk.new _ _ _⟩, (Ext.refl _).alloc _, Nat.le_refl _⟩
    exact BytesR.aside (S := S) (w := w) (SliceR.take HV.out 2000 (by omega)) _

end Go.Proofs.YtfjdijakgjhieaaGreat

namespace Go.Proofs.YtfjdijakgjhieaaGreat
open Go.RowKit Go.ChangeShapes Go.WideShapes

theorem byte_wf {z : Int} (h : (Lit.int .u8 z).wf = true) : 0 ≤ z ∧ z < 256 := by
  have e1 : IntKind.u8.min = 0 := rfl
  have e2 : IntKind.u8.max = 255 := rfl
  simp [Lit.wf, e1, e2] at h
  omega

section
variable {H : Type} {enc : TypeId × Value → H} {w : World} {base : Nat} {spare : Nat → Bool} {held : Bool} {fuel : Nat} {v : Value} {x : DataW H × List MemPlace}
theorem read_bytes (h : DataW.trod enc Tryz.prog w base spare held fuel 22 [v] = some x) : ∃ xs : List UInt8, BytesR Any w v xs := by
  rcases open_ints Tryz.underlying22 Tryz.underlying5 (by kernel_rfl) h with ⟨hcs, _⟩ | ⟨a, len, cap, zs, hcs, hb, hl, hm, hzl, hx, hc, hwf⟩
  · injection hcs with hv _
    subst hv
    exact ⟨[], SliceR.nil_ 0 (Nat.zero_le _) none⟩
  · injection hcs with hv _
    subst hv
    have hlz : len ≤ zs.length := by rw [hzl]; split <;> omega
    by_cases h0 : 0 < len
    · have h00 := hc 0 (by omega)
      have ha0 : a.add 0 = a := by simp [Addr.add]
      rw [ha0] at h00
      have haa := cell_addr h00
      have hadd : ∀ n, a.add n = ⟨a.block, a.off + n, none⟩ := by
        intro n
        unfold Addr.add
        split
        · rename_i h; subst h; rw [Nat.add_zero]; exact haa
        · rfl
      rw [haa] at h00
      have hln : ((zs.take len).map (fun z => UInt8.ofNat z.toNat)).length = len := by rw [List.length_map, List.length_take]; omega
      refine ⟨(zs.take len).map (fun z => UInt8.ofNat z.toNat), some a, cap, by rw [hln], by rw [hln]; exact hl, hm, fun _ => ⟨a.block, a.off, by rw [← haa], cell_lt h00, trivial, fun i c hi => ?_⟩⟩
      refine ⟨[.int .u8 c.toNat], rfl, fun j u hu => ?_, rfl⟩
      match j, hu with
      | 0, hu =>
        simp at hu; subst hu
        rw [List.getElem?_map, List.getElem?_take] at hi
        split at hi
        · have hiz : i < zs.length := by omega
          rw [List.getElem?_eq_getElem hiz] at hi
          simp at hi
          have hz := byte_wf (hwf _ (List.getElem_mem hiz))
          have h1 := hc i hiz
          rw [hadd, List.getD_eq_getElem?_getD, List.getElem?_eq_getElem hiz] at h1
          rw [← hi, Nat.mul_one, Nat.add_zero, h1, UInt8.toNat_ofNat']
          simp
          omega
        · simp at hi
    · obtain rfl : len = 0 := by omega
      exact ⟨[], SliceR.nil_ cap hm _⟩
end
end Go.Proofs.YtfjdijakgjhieaaGreat

namespace Go.Proofs.YtfjdijakgjhieaaGreat
open Go.RowKit Go.ChangeShapes Go.WideShapes Go.Deep

section
variable {H : Type} {enc : TypeId × Value → H} {P : Program} {w : World} {base : Nat} {spare : Nat → Bool} {held : Bool}
/-- A slice: its elements' cells. -/
theorem open_elems {t e : TypeId} {fuel m : Nat} {v : Value} {x : DataW H × List MemPlace} (ht : P.underlying t = some (.slice e)) (hC : P.cellsOf e = m) (hm0 : 0 < m) (h : DataW.trod enc P w base spare held fuel t [v] = some x) :
    ∃ (A : Option Addr) (n c : Nat), v = .slice A n c ∧ n ≤ c ∧ c ≤ maxLen ∧
      (0 < n → ∃ b off, A = some ⟨b, off, none⟩ ∧ b < w.heap.size ∧ ∀ i, i < n → ∃ (k : Nat) (cs : List Value), cs.length = m ∧ (∀ (j : Nat) (u : Value), cs[j]? = some u → w.cell? ⟨b, off + (i * m + j), none⟩ = some u) ∧
        ∃ y, DataW.trod enc P w base spare held k e cs = some y) := by
  rcases open_slice ht h with ⟨hcs, _⟩ | ⟨a, len, cap, q, n, D, Pl, hcs, hb, hl, hm, hmm, hx, hi⟩
  · injection hcs with hv _
    subst hv
    exact ⟨none, 0, 0, rfl, Nat.le_refl _, Nat.zero_le _, fun h => absurd h (by omega)⟩
  · injection hcs with hv _
    subst hv
    refine ⟨some a, len, cap, rfl, hl, hm, fun h0 => ?_⟩
    have hml : len ≤ q := by rw [hmm]; split <;> omega
    have key : ∀ i, i < len → ∃ (k : Nat) (cs : List Value), cs.length = m ∧ (∀ (j : Nat) (u : Value), cs[j]? = some u → w.cell? (a.add (i * m + j)) = some u) ∧ ∃ y, DataW.trod enc P w base spare held k e cs = some y := by
      intro i hilt
      obtain ⟨cs', hc, ht'⟩ := hi i (by omega)
      rw [hC] at hc
      obtain ⟨_, hcl, hat⟩ := World.cells?_some hc
      refine ⟨n, cs', hcl, fun j u hu => ?_, _, ht'⟩
      have hjl : j < m := by rw [← hcl]; exact (List.getElem?_eq_some_iff.1 hu).1
      rw [← Go.Deep.add_add, hat j hjl, hu]
    obtain ⟨k0, cs0, hl0, hc0, _⟩ := key 0 h0
    have h00 := hc0 0 (cs0[0]'(by omega)) (List.getElem?_eq_getElem (by omega))
    rw [Nat.zero_mul, Nat.add_zero] at h00
    have ha0 : a.add 0 = a := by simp [Addr.add]
    rw [ha0] at h00
    have haa := cell_addr h00
    have hadd : ∀ n, a.add n = ⟨a.block, a.off + n, none⟩ := by
      intro n
      unfold Addr.add
      split
      · rename_i h; subst h; rw [Nat.add_zero]; exact haa
      · rfl
    refine ⟨a.block, a.off, by rw [← haa], ?_, fun i hilt => ?_⟩
    · rw [haa] at h00; exact cell_lt h00
    · obtain ⟨k, cs, hl1, hc1, hf1⟩ := key i hilt
      exact ⟨k, cs, hl1, fun j u hu => by rw [← hadd]; exact hc1 j u hu, hf1⟩
/-- A field of a struct that reads. -/
theorem field_of {e : TypeId} {fs : Array Field} {k m : Nat} {cs l : List Value} {y : DataW H × List MemPlace} (he : P.underlying e = some (.struct fs)) (h : DataW.trod enc P w base spare held k e cs = some y) (j : Nat) (f : Field) (hj : fs[j]? = some f)
    (hm : P.cellsOf f.type = m) (hl : (cs.drop f.offset).take m = l) : ∃ (k' : Nat) (y' : DataW H × List MemPlace), DataW.trod enc P w base spare held k' f.type l = some y' := by
  obtain ⟨ys, n', hn', hy, hlen, hyl, hf⟩ := DataW.trod_struct he h
  have h1 := hf j f hj
  rw [hm, hl] at h1
  have hjl : j < fs.size := (Array.getElem?_eq_some_iff.1 hj).1
  have hys : ys[j]? = some (ys[j]'(by omega)) := List.getElem?_eq_getElem (by omega)
  exact ⟨_, _, h1.trans hys⟩
end

section
variable {H : Type} {enc : TypeId × Value → H} {w : World} {base : Nat} {spare : Nat → Bool} {held : Bool} {fuel : Nat} {v : Value} {x : DataW H × List MemPlace}

theorem read_atom {c0 c1 : Value} (h : DataW.trod enc Tryz.prog w base spare held fuel 68 [c0, c1] = some x) : ∃ (s : ByteArray) (ts : List GT), c0 = .string s ∧ s.size ≤ maxLen ∧ TermsR Any w c1 ts := by
  obtain ⟨k0, y0, h0⟩ := field_of Tryz.underlying68 h 0 _ rfl (m := 1) (l := [c0]) (by kernel_rfl) rfl
  obtain ⟨k1, y1, h1⟩ := field_of Tryz.underlying68 h 1 _ rfl (m := 1) (l := [c1]) (by kernel_rfl) rfl
  obtain ⟨s, e1, _, hs⟩ := DataW.trod_string Tryz.underlying9 h0
  obtain ⟨ts, ht⟩ := read_terms h1
  injection e1 with e1 _
  exact ⟨s, ts, e1, hs, ht⟩

theorem read_parts (h : DataW.trod enc Tryz.prog w base spare held fuel 41 [v] = some x) : ∃ xs : List GP, PartsR Any w v xs := by
  obtain ⟨A, n, c, rfl, h1, h2, h3⟩ := open_elems (m := 3) Tryz.underlying41 (by kernel_rfl) (by decide) h
  by_cases h0 : 0 < n
  · obtain ⟨b, off, hA, hb, hrow⟩ := h3 h0
    obtain ⟨xs, hl, hr⟩ := choose_rows (fun i (a : GP) => ∃ u, w.cell? ⟨b, off + (i * 3 + 0), none⟩ = some (.bool a.no) ∧ w.cell? ⟨b, off + (i * 3 + 1), none⟩ = some (.string a.atom.n) ∧ w.cell? ⟨b, off + (i * 3 + 2), none⟩ = some u ∧ a.atom.n.size ≤ maxLen ∧ TermsR Any w u a.atom.args) n 0 (fun i hi => by
      rw [Nat.zero_add]
      obtain ⟨k, cs, hcl, hc, y, hy⟩ := hrow i hi
      match cs, hcl with
      | [c0, c1, c2], _ =>
        obtain ⟨k0, y0, hy0⟩ := field_of Tryz.underlying71 hy 0 _ rfl (m := 1) (l := [c0]) (by kernel_rfl) rfl
        obtain ⟨k1, y1, hy1⟩ := field_of Tryz.underlying71 hy 1 _ rfl (m := 2) (l := [c1, c2]) (by kernel_rfl) rfl
        obtain ⟨bv, e0, _⟩ := DataW.trod_bool Tryz.underlying4 hy0
        injection e0 with e0 _
        obtain ⟨s, ts, rfl, hs, ht⟩ := read_atom hy1
        subst e0
        exact ⟨⟨bv, ⟨s, ts⟩⟩, c2, hc 0 _ rfl, hc 1 _ rfl, hc 2 _ rfl, hs, ht⟩)
    refine ⟨xs, A, c, by rw [hl], by rw [hl]; exact h1, h2, fun _ => ⟨b, off, hA, hb, trivial, fun i x hx => ?_⟩⟩
    obtain ⟨u, r0, r1, r2, r3, r4⟩ := hr i x hx
    rw [Nat.zero_add] at r0 r1 r2
    refine ⟨[.bool x.no, .string x.atom.n, u], rfl, fun j y hy => ?_, u, rfl, r3, r4⟩
    match j, hy with
    | 0, hy => simp at hy; subst hy; exact r0
    | 1, hy => simp at hy; subst hy; exact r1
    | 2, hy => simp at hy; subst hy; exact r2
  · obtain rfl : n = 0 := by omega
    exact ⟨[], SliceR.nil_ c h2 A⟩

end
end Go.Proofs.YtfjdijakgjhieaaGreat
