/- Part of the texts of a proof; what they say stands at each theorem. -/
import Derived.Test.YtmihponoillihaaGreatDoorBas23
import Derived.Test.YtmihponoillihaaGreatDoorBas31
set_option linter.unusedSimpArgs false
set_option linter.unusedVariables false
namespace Go.Proofs.YtmihponoillihaaGreatDoor
open Go.RowKit
theorem BaseR.lowS {S : Nat → Prop} {w : World} {v : Value} {B : GB} (h : BaseR S w v B) : BaseR (fun i => S i ∧ i < w.heap.size) w v B := by
 obtain ⟨a, b, c, h1, h2, h3, h4⟩ := h; exact ⟨a, b, c, h1, ListK.low (k := kRule) h2, ListK.low (k := kAtom) h3, ListK.low (k := kChange) h4⟩
theorem TxnR.imp {S S' : Nat → Prop} {w w' : World} {v : Value} {t : GX} (h : TxnR S w v t) (hS : ∀ b, S b → S' b) (he : Agree S w w') (hsz : w.heap.size ≤ w'.heap.size) : TxnR S' w' v t := by
 obtain ⟨a, b, h1, h2, h3⟩ := h; exact ⟨a, b, h1, h2.imp hS he hsz, h3.imp hS he hsz⟩
theorem TxnR.form {S : Nat → Prop} {w : World} {v : Value} {t : GX} (h : TxnR S w v t) : ∃ A1 c1 A2 c2, v = .agg #[.int .i64 t.from_, .slice A1 t.change.comes.length c1, .slice A2 t.change.goes.length c2] := by
 obtain ⟨a, b, rfl, h2, h3⟩ := h; obtain ⟨A1, c1, rfl, _⟩ := SliceR.form h2; obtain ⟨A2, c2, rfl, _⟩ := SliceR.form h3; exact ⟨_, _, _, _, rfl⟩
theorem tiny_w {a : GA} (h1 : a.n.size ≤ 8) (h2 : tiny a.args) : wAtom a ≤ 80 := Nat.le_trans (small_w ⟨h1, h2⟩) (by omega)
structure DrawnB (rb bb : Nat) (w wr : World) (B : GB) (k : Nat) (A1 A2 A3 : Option Addr) (c1 c2 c3 : Nat) : Prop where
 blk : Blk wr bb 45 #[.slice A1 B.rules.length c1, .int .i64 B.time, .slice A2 B.given.length c2, .slice A3 B.hist.length c3]
 base : BaseR (fun i => w.heap.size < i ∧ i ≠ bb) wr (.agg #[.slice A1 B.rules.length c1, .int .i64 B.time, .slice A2 B.given.length c2, .slice A3 B.hist.length c3]) B
 kept : BaseS B k
 els : Else rb w wr
 ret : Blk wr w.heap.size 45 #[.slice none 0 0, .int .i64 0, .slice none 0 0, .slice none 0 0]
theorem DrawnB.else_ {rb bb : Nat} {w wr wx : World} {B : GB} {k : Nat} {A1 A2 A3 : Option Addr} {c1 c2 c3 : Nat} (h : DrawnB rb bb w wr B k A1 A2 A3 c1 c2 c3) (he : Else rb wr wx) (hr : rb < w.heap.size) (hb : w.heap.size < bb) : DrawnB rb bb w wx B k A1 A2 A3 c1 c2 c3 :=
 ⟨h.blk.else_ he (by omega), h.base.imp (fun _ h => h) (fun i hi hlt => he.agree i (by have := hi.1; omega) hlt) he.size, h.kept, h.els.trans' he, h.ret.else_ he (by omega)⟩
set_option maxRecDepth 100000 in
set_option maxHeartbeats 16000000 in
theorem l10Base_any (rb m : Nat) (w : World) (hr : Rd w rb m) (hp : m + 2500 ≤ 1000000) :
 Calls Tryz.prog 85 #[.pointer (some ⟨rb, 0, none⟩)] w fun e w' =>
  (∃ (v : Value) (B : GB), e = .returned v ∧ BaseR (From w.heap.size) w' v B ∧ BaseS B 32) ∧ Rd w' rb (m + 2500) ∧ Else rb w w' := by
 have hrl := hr.lt; have HR := Lib.hid (hr.ext ((Ext.refl w).alloc (.cells #[.slice none 0 0, .int .i64 0, .slice none 0 0, .slice none 0 0] 45))); have HRB := Lib.hid (Blk.new w 45 #[.slice none 0 0, .int .i64 0, .slice none 0 0, .slice none 0 0]); clear hr
 go_enter Tryz.func85, Tryz.ntmps85
 go_wp2_with fail
 refine (l10Rules_any rb m _ HR.out (by omega)).mono ?_; rintro e w1 ⟨⟨v1, rules, rfl, hv1⟩, hr1, he1⟩; obtain ⟨RA, rc, rfl, _, _⟩ := SliceR.form hv1
 have hw1 : w.heap.size + 1 ≤ w1.heap.size := by have := he1.size; simpa using this
 have HR1 := Lib.hid hr1; have HE1 := Lib.hid ((Else.of_ext (rb := rb) ((Ext.refl w).alloc (.cells #[.slice none 0 0, .int .i64 0, .slice none 0 0, .slice none 0 0] 45))).trans' he1); have HB1 := Lib.hid (HRB.out.else_ he1 (by omega)); have HV1 := Lib.hid hv1; clear hr1 he1 hv1 HR HRB
 go_wp2_with fail
 refine (specBaseNew_all _ rules _ HV1.out).mono ?_; rintro e w2 ⟨⟨v2, rfl, hb2⟩, hx2⟩; have HS0 := Lib.hid (BaseS.new rules)
 obtain ⟨B0, hB0⟩ : ∃ B0, B0 = baseN rules := ⟨_, rfl⟩
 rw [← hB0] at hb2 HS0; clear hB0; obtain ⟨A1, c1, A2, c2, A3, c3, rfl⟩ := hb2.form; have hw2 : w1.heap.size ≤ w2.heap.size := hx2.size
 obtain ⟨W3, hW3⟩ : ∃ W3, W3 = w2.alloc (.cells #[.slice A1 B0.rules.length c1, .int .i64 B0.time, .slice A2 B0.given.length c2, .slice A3 B0.hist.length c3] 45) := ⟨_, rfl⟩
 have hx3 : Ext w2 W3 := by rw [hW3]; exact (Ext.refl _).alloc _
 have HD3 := Lib.hid (show DrawnB rb w2.heap.size w W3 B0 0 A1 A2 A3 c1 c2 c3 from
  ⟨by rw [hW3]; exact Blk.new _ _ _, (hb2.lowS.ext hx3).sub (fun i hi => ⟨by have h : w1.heap.size ≤ i := hi.1; omega, by have := hi.2; omega⟩), HS0.out, HE1.out.trans' (.of_ext (hx2.trans' hx3)), (HB1.out.ext hx2).ext hx3⟩)
 have HR3 := Lib.hid ((HR1.out.ext hx2).ext hx3)
 obtain ⟨bb, hbb⟩ : ∃ bb, bb = w2.heap.size := ⟨_, rfl⟩
 have hbw : w.heap.size < bb := by omega
 clear hx2 hx3 hb2 HS0 HB1 HE1 HR1 HV1
 go_wp2_with fail
 rw [← hW3, ← hbb]; rw [← hbb] at HD3; clear hW3 hbb hw2 hw1; refine (rdPick_any rb (m + 200) 7 _ (by omega) HR3.out (by omega)).mono ?_; rintro e w4 ⟨⟨z4, hz4, rfl⟩, hr4, he4⟩; have HR4 := Lib.hid hr4; have HD4 := Lib.hid (HD3.out.else_ he4 hrl hbw); clear hr4 he4 HD3 HR3
 go_upto_if 16 with (first
  | (go_at_call 73; refine (rdPick_any rb (m + 200 + 1) 30 _ (by omega) HR4.out (by omega)).mono ?_; rintro e w5 ⟨⟨z5, hz5, rfl⟩, hr5, he5⟩
     have HR5 := Lib.hid (hr5.le (show m + 200 + 1 + 1 ≤ m + 500 by omega)); have HD5 := Lib.hid (HD4.out.else_ he5 hrl hbw)
     clear hr5 he5)
  | fail)
 clear HR4 HD4
 go_cut [4] (fun n wx => ∃ j : Nat, n = .int .i64 j ∧ j ≤ 32 ∧ Hid (DrawnB rb bb w wx B0 0 A1 A2 A3 c1 c2 c3) ∧ Hid (Rd wx rb (m + 500)))
 case first =>
  go_wp2_with fail
  all_goals go_meet
  all_goals first
   | exact ⟨32, rfl, by omega, HD5, HR5⟩
   | exact ⟨z4, rfl, by omega, HD5, HR5⟩
 case rest =>
  clear HR5 HD5; obtain ⟨j0, rfl, hj0, hd0, hr0⟩ := hcut
  go_wp2_with fail
  go_loopw [4] (fun n wr => ∃ (j : Nat) (B : GB) (A1 A2 A3 : Option Addr) (c1 c2 c3 : Nat), n = .int .i64 j ∧ j ≤ 32 ∧ Hid (DrawnB rb bb w wr B (32 - j) A1 A2 A3 c1 c2 c3) ∧ Hid (Rd wr rb (m + 500 + 50 * (32 - j)))) (fun n _ => (intOf n).toNat)
  case atStart => exact ⟨j0, B0, A1, A2, A3, c1, c2, c3, rfl, hj0, Lib.hid ⟨hd0.out.blk, hd0.out.base, hd0.out.kept.le (Nat.zero_le _), hd0.out.els, hd0.out.ret⟩, Lib.hid (hr0.out.le (by omega))⟩
  case round =>
   rename World => wA
   clear hd0 hr0 A1 A2 A3 c1 c2 c3 B0 hj0 j0; obtain ⟨j, B, A1, A2, A3, c1, c2, c3, rfl, hj, hd, hrd⟩ := hrel; have hblt := hd.out.blk.lt; have p0 := hd.out.blk.cell 0; have p1 := hd.out.blk.cell 1; have p2 := hd.out.blk.cell 2; have p3 := hd.out.blk.cell 3
   by_cases hjp : 0 < j
   · have hjp' : (0 : Int) < (j : Int) := by omega
     go_wp2_with fail
     obtain ⟨Wt, hWt⟩ : ∃ Wt, Wt = wA.alloc (.cells #[.int .i64 B.time, .slice none 0 0, .slice none 0 0] 205) := ⟨_, rfl⟩
     rw [← hWt]
     have hxt : Ext wA Wt := by rw [hWt]; exact (Ext.refl _).alloc _
     have htb : Blk Wt wA.heap.size 205 #[.int .i64 B.time, .slice none 0 0, .slice none 0 0] := by rw [hWt]; exact Blk.new _ _ _
     have hts : wA.heap.size < Wt.heap.size := htb.lt; clear hWt p0 p1 p2 p3; refine (rdPick_any rb (m + 500 + 50 * (32 - j)) 3 _ (by omega) (hrd.out.ext hxt) (by omega)).mono ?_; rintro e w6 ⟨⟨z6, hz6, rfl⟩, hr6, he6⟩
     have hrw : rb < wA.heap.size := by have := hd.out.els.size; omega
     have HTB := Lib.hid (htb.else_ he6 (by omega)); have HR6 := Lib.hid hr6; have HE6 := Lib.hid ((Else.of_ext (rb := rb) hxt).trans' he6); have hw6 : wA.heap.size < w6.heap.size := Nat.lt_of_lt_of_le hts he6.size; have HX0 := Lib.hid (show LiteX ⟨B.time, ⟨[], []⟩⟩ ∧ (⟨B.time, ⟨[], []⟩⟩ : GX).from_ = B.time from ⟨LiteX.start hd.out.kept (by omega), rfl⟩); have HLB := Lib.hid (hd.out.kept.lite (by omega)); clear hr6 he6 htb hxt hts
     go_wp2_with fail
     go_loopw [6] (fun k wI => ∃ (q : Nat) (t : GX) (X Y : Option Addr) (cx cy : Nat), k = .int .i64 q ∧ q ≤ 3 ∧ Hid (Blk wI wA.heap.size 205 #[.int .i64 t.from_, .slice X t.change.comes.length cx, .slice Y t.change.goes.length cy]) ∧ Hid (TxnR (From (wA.heap.size + 1)) wI (.agg #[.int .i64 t.from_, .slice X t.change.comes.length cx, .slice Y t.change.goes.length cy]) t) ∧ Hid (LiteX t ∧ t.from_ = B.time) ∧ Hid (Else rb wA wI) ∧ Hid (Rd wI rb (m + 500 + 50 * (32 - j) + 1 + 10 * (3 - q)))) (fun k _ => (intOf k).toNat)
     case atStart => exact ⟨1 + z6, ⟨B.time, ⟨[], []⟩⟩, none, none, 0, 0, by go_num, by omega, HTB, Lib.hid ⟨_, _, rfl, SliceR.nil_ 0 (Nat.zero_le _) none, SliceR.nil_ 0 (Nat.zero_le _) none⟩, Lib.hid ⟨HX0.out.1, rfl⟩, HE6, Lib.hid (HR6.out.le (by omega))⟩
     case round =>
      rename World => wI
      clear HTB HX0 HR6 HE6 hw6 hz6; obtain ⟨q, t, X, Y, cx, cy, rfl, hq, htb, htr, hlx, hel, hrq⟩ := hrel; have hwi : wA.heap.size < wI.heap.size := htb.out.lt; have HDI := Lib.hid (hd.out.else_ hel.out hrl hbw); have t0 := htb.out.cell 0; have t1 := htb.out.cell 1; have t2 := htb.out.cell 2; have tl := htb.out.lt; have p0 := HDI.out.blk.cell 0; have p1 := HDI.out.blk.cell 1; have p2 := HDI.out.blk.cell 2; have p3 := HDI.out.blk.cell 3; have pl := HDI.out.blk.lt
      by_cases hqp : 0 < q
      · have hqp' : (0 : Int) < (q : Int) := by omega
        go_wp2_with fail
        refine (rdPick_any rb (m + 500 + 50 * (32 - j) + 1 + 10 * (3 - q)) 4 _ (by omega) hrq.out (by omega)).mono ?_; rintro e w7 ⟨⟨z7, hz7, rfl⟩, hr7, he7⟩
        have hbb : bb ≠ rb := by omega
        have htn : wA.heap.size ≠ rb := by omega
        have HR7 := Lib.hid hr7; have HE7 := Lib.hid (hel.out.trans' he7); have HD7 := Lib.hid (HDI.out.else_ he7 hrl hbw); have HT7 := Lib.hid (htb.out.else_ he7 htn); have HTR7 := Lib.hid (htr.out.imp (fun _ h => h) (fun i hi hlt => he7.agree i (by have h : wA.heap.size + 1 ≤ i := hi; omega) hlt) he7.size); have hw7 : wA.heap.size < w7.heap.size := HT7.out.lt; clear t0 t1 t2 tl p0 p1 p2 p3 pl hr7 he7 htb htr hrq hel HDI hwi; have t0 := HT7.out.cell 0; have t1 := HT7.out.cell 1; have t2 := HT7.out.cell 2; have tl := HT7.out.lt; have p0 := HD7.out.blk.cell 0; have p1 := HD7.out.blk.cell 1; have p2 := HD7.out.blk.cell 2; have p3 := HD7.out.blk.cell 3; have pl := HD7.out.blk.lt
        have HKE := Lib.hid (fun (W' : World) (hW' : Else rb w7 W') => (show W'.cell? ⟨bb, 0, none⟩ = some (.slice A1 B.rules.length c1) ∧ W'.cell? ⟨bb, 1, none⟩ = some (.int .i64 B.time) ∧ W'.cell? ⟨bb, 2, none⟩ = some (.slice A2 B.given.length c2) ∧ W'.cell? ⟨bb, 3, none⟩ = some (.slice A3 B.hist.length c3) ∧ W'.cell? ⟨wA.heap.size, 0, none⟩ = some (.int .i64 t.from_) ∧ W'.cell? ⟨wA.heap.size, 1, none⟩ = some (.slice X t.change.comes.length cx) ∧ W'.cell? ⟨wA.heap.size, 2, none⟩ = some (.slice Y t.change.goes.length cy) from
         ⟨((HD7.out.blk.else_ hW' hbb).cell 0).trans rfl, ((HD7.out.blk.else_ hW' hbb).cell 1).trans rfl, ((HD7.out.blk.else_ hW' hbb).cell 2).trans rfl, ((HD7.out.blk.else_ hW' hbb).cell 3).trans rfl, ((HT7.out.else_ hW' htn).cell 0).trans rfl, ((HT7.out.else_ hW' htn).cell 1).trans rfl, ((HT7.out.else_ hW' htn).cell 2).trans rfl⟩))
        have hbt : bb ≠ wA.heap.size := Nat.ne_of_lt hblt
        have HKB := Lib.hid (fun (W' : World) (hW' : Else rb w7 W') => (show W'.cell? ⟨bb, 0, none⟩ = some (.slice A1 B.rules.length c1) ∧ W'.cell? ⟨bb, 1, none⟩ = some (.int .i64 B.time) ∧ W'.cell? ⟨bb, 2, none⟩ = some (.slice A2 B.given.length c2) ∧ W'.cell? ⟨bb, 3, none⟩ = some (.slice A3 B.hist.length c3) from
         ⟨(HKE.out _ hW').1, (HKE.out _ hW').2.1, (HKE.out _ hW').2.2.1, (HKE.out _ hW').2.2.2.1⟩))
        have HKS := Lib.hid (fun (W' : World) (hW' : Else rb w7 W') (f x y : Value) => (show (((W'.setCell ⟨wA.heap.size, 0, none⟩ f).setCell ⟨wA.heap.size, 1, none⟩ x).setCell ⟨wA.heap.size, 2, none⟩ y).cell? ⟨bb, 0, none⟩ = some (.slice A1 B.rules.length c1) ∧ (((W'.setCell ⟨wA.heap.size, 0, none⟩ f).setCell ⟨wA.heap.size, 1, none⟩ x).setCell ⟨wA.heap.size, 2, none⟩ y).cell? ⟨bb, 1, none⟩ = some (.int .i64 B.time) ∧ (((W'.setCell ⟨wA.heap.size, 0, none⟩ f).setCell ⟨wA.heap.size, 1, none⟩ x).setCell ⟨wA.heap.size, 2, none⟩ y).cell? ⟨bb, 2, none⟩ = some (.slice A2 B.given.length c2) ∧ (((W'.setCell ⟨wA.heap.size, 0, none⟩ f).setCell ⟨wA.heap.size, 1, none⟩ x).setCell ⟨wA.heap.size, 2, none⟩ y).cell? ⟨bb, 3, none⟩ = some (.slice A3 B.hist.length c3) from by
         have hb := (((HD7.out.blk.else_ hW' hbb).far (p := ⟨wA.heap.size, 0, none⟩) hbt f).far (p := ⟨wA.heap.size, 1, none⟩) hbt x).far (p := ⟨wA.heap.size, 2, none⟩) hbt y
         exact ⟨(hb.cell 0).trans rfl, (hb.cell 1).trans rfl, (hb.cell 2).trans rfl, (hb.cell 3).trans rfl⟩))
        have HEND := Lib.hid (fun (t' : GX) (W : World) (X' Y' : Option Addr) (cx' cy' k : Nat) (hk : k ≤ 8) (hel' : Else rb w7 W) (hrd' : Rd W rb (m + 500 + 50 * (32 - j) + 1 + 10 * (3 - q) + 1 + k)) (htx : TxnR (From (wA.heap.size + 1)) W (.agg #[.int .i64 t'.from_, .slice X' t'.change.comes.length cx', .slice Y' t'.change.goes.length cy']) t') (hl' : LiteX t' ∧ t'.from_ = B.time) => (show
         (Hid (Blk (((W.setCell ⟨wA.heap.size, 0, none⟩ (.int .i64 t'.from_)).setCell ⟨wA.heap.size, 1, none⟩ (.slice X' t'.change.comes.length cx')).setCell ⟨wA.heap.size, 2, none⟩ (.slice Y' t'.change.goes.length cy')) wA.heap.size 205 #[.int .i64 t'.from_, .slice X' t'.change.comes.length cx', .slice Y' t'.change.goes.length cy']) ∧
          Hid (TxnR (From (wA.heap.size + 1)) (((W.setCell ⟨wA.heap.size, 0, none⟩ (.int .i64 t'.from_)).setCell ⟨wA.heap.size, 1, none⟩ (.slice X' t'.change.comes.length cx')).setCell ⟨wA.heap.size, 2, none⟩ (.slice Y' t'.change.goes.length cy')) (.agg #[.int .i64 t'.from_, .slice X' t'.change.comes.length cx', .slice Y' t'.change.goes.length cy']) t') ∧ Hid (LiteX t' ∧ t'.from_ = B.time) ∧
          Hid (Else rb wA (((W.setCell ⟨wA.heap.size, 0, none⟩ (.int .i64 t'.from_)).setCell ⟨wA.heap.size, 1, none⟩ (.slice X' t'.change.comes.length cx')).setCell ⟨wA.heap.size, 2, none⟩ (.slice Y' t'.change.goes.length cy'))) ∧
          Hid (Rd (((W.setCell ⟨wA.heap.size, 0, none⟩ (.int .i64 t'.from_)).setCell ⟨wA.heap.size, 1, none⟩ (.slice X' t'.change.comes.length cx')).setCell ⟨wA.heap.size, 2, none⟩ (.slice Y' t'.change.goes.length cy')) rb (m + 500 + 50 * (32 - j) + 1 + 10 * (3 - (q - 1))))) from by
         have hA : ∀ S : Nat → Prop, (¬ S wA.heap.size) → Agree S W (((W.setCell ⟨wA.heap.size, 0, none⟩ (.int .i64 t'.from_)).setCell ⟨wA.heap.size, 1, none⟩ (.slice X' t'.change.comes.length cx')).setCell ⟨wA.heap.size, 2, none⟩ (.slice Y' t'.change.goes.length cy')) := fun S hS => (((Agree.refl _ _).setCell hS _).setCell hS _).setCell hS _
         have hs : W.heap.size ≤ (((W.setCell ⟨wA.heap.size, 0, none⟩ (.int .i64 t'.from_)).setCell ⟨wA.heap.size, 1, none⟩ (.slice X' t'.change.comes.length cx')).setCell ⟨wA.heap.size, 2, none⟩ (.slice Y' t'.change.goes.length cy')).heap.size := by simp [World.setCell]
         have hE := HE7.out.trans' hel'; refine ⟨Lib.hid ?_, Lib.hid (htx.imp (fun _ h => h) (hA _ (Nat.not_succ_le_self _)) hs), Lib.hid hl', Lib.hid ⟨hE.os, hE.tape, hE.output, Nat.le_trans hE.size hs, fun i hi hne => ?_⟩, Lib.hid ((hrd'.keep (hA _ (by omega)) hs).le (by omega))⟩
         · have h := (((HT7.out.else_ hel' htn).set_ 0 (.int .i64 t'.from_)).set_ 1 (.slice X' t'.change.comes.length cx')).set_ 2 (.slice Y' t'.change.goes.length cy')
           simpa using h
         exact (hA (fun i => i ≠ wA.heap.size) (fun h => h rfl) i (by omega) (Nat.lt_of_lt_of_le hi hE.size)).trans (hE.block i hi hne)))
        have HPK := Lib.hid (fun (W' : World) (hn : 1 ≤ B.given.length) (hW : Rd W' rb (m + 500 + 50 * (32 - j) + 1 + 10 * (3 - q) + 1)) => rdPick_any rb (m + 500 + 50 * (32 - j) + 1 + 10 * (3 - q) + 1) B.given.length W' ⟨hn, by have := HD7.out.kept.given.2.2; omega⟩ hW (by omega)); have HFA := Lib.hid (fun (W' : World) (hW : Rd W' rb (m + 500 + 50 * (32 - j) + 1 + 10 * (3 - q) + 1)) => l10Fact_any rb (m + 500 + 50 * (32 - j) + 1 + 10 * (3 - q) + 1) W' hW (by omega)); have HGO := Lib.hid (fun (a : GA) (x : Value) (W' : World) (U : Nat → Prop) (hW' : Else rb w7 W') (hx : TermsR U W' x a.args) (hs : a.n.size ≤ maxLen) (hwa : wAtom a ≤ 80) => l7Gone_any B t a _ _ x W' (HD7.out.else_ hW' hrl hbw).base (HTR7.out.imp (fun _ h => h) (fun i hi hlt => hW'.agree i (by have h : wA.heap.size + 1 ≤ i := hi; omega) hlt) hW'.size) hx hs HLB.out hlx.out.1 hwa); have HAD := Lib.hid (fun (a : GA) (x : Value) (W' : World) (U : Nat → Prop) (hW' : Else rb w7 W') (hx : TermsR U W' x a.args) (hs : a.n.size ≤ maxLen) (hwa : wAtom a ≤ 80) => l7Add_any B t a _ _ x W' (HD7.out.else_ hW' hrl hbw).base (HTR7.out.imp (fun _ h => h) (fun i hi hlt => hW'.agree i (by have h : wA.heap.size + 1 ≤ i := hi; omega) hlt) hW'.size) hx hs HLB.out hlx.out.1 hwa)
        have HGV := Lib.hid (fun (W' : World) (hW' : Else rb w7 W') => (show ∃ Z : Nat → Prop, AtomsR Z W' (.slice A2 B.given.length c2) B.given from by
         obtain ⟨a, b, c, h1, _, h2, _⟩ := (HD7.out.else_ hW' hrl hbw).base
         injection h1 with h1
         simp only [Array.mk.injEq, List.cons.injEq] at h1
         exact ⟨_, by rw [h1.2.2.1]; exact h2⟩))
        have HGS := Lib.hid (show ∀ x ∈ B.given, wAtom x ≤ 80 from fun x hx => Nat.le_trans (fact_w (HD7.out.kept.given.1 x hx)).1 (by omega))
        obtain ⟨q', rfl⟩ : ∃ q', q = q' + 1 := ⟨q - 1, by omega⟩
        rcases Nat.eq_zero_or_pos z7 with rfl | hz
        · by_cases hg : 0 < B.given.length
          · -- one is taken away
            have hg' : (0 : Int) < (B.given.length : Int) := by omega
            go_wp2_with fail
            refine wp_region_noPanic ?_; refine wp_region_held_drew (S := (fun W' => W'.cell? ⟨bb, 0, none⟩ = some (.slice A1 B.rules.length c1) ∧ W'.cell? ⟨bb, 1, none⟩ = some (.int .i64 B.time) ∧ W'.cell? ⟨bb, 2, none⟩ = some (.slice A2 B.given.length c2) ∧ W'.cell? ⟨bb, 3, none⟩ = some (.slice A3 B.hist.length c3))) (by kernel_rfl) ?_ (fun hHeld => ?_)
            · (try dsimp only); (first | exact HKS.out _ HE9.out _ _ _ | exact HKB.out _ HE9.out | exact HKB.out _ HE8.out | exact HKB.out _ (.of_ext (Ext.refl w7).drew))
            refine tk 0 (v := ?_) rfl ?_ ?_; rotate_left; ((intro w hSw; (try dsimp only at hSw); go_simp) <;> with_reducible rfl); (try simp only [Act.put, stz])
            refine tk 2 (v := ?_) rfl ?_ ?_; rotate_left; ((intro w hSw; (try dsimp only at hSw); go_simp) <;> with_reducible rfl); (try simp only [Act.put, stz])
            refine tk 3 (v := ?_) rfl ?_ ?_; rotate_left; ((intro w hSw; (try dsimp only at hSw); go_simp) <;> with_reducible rfl); (try simp only [Act.put, stz])
            refine tk 4 (v := ?_) rfl ?_ ?_; rotate_left; ((intro w hSw; (try dsimp only at hSw); go_simp) <;> with_reducible rfl); (try simp only [Act.put, stz])
            refine tk 5 (v := ?_) rfl ?_ ?_; rotate_left; ((intro w hSw; (try dsimp only at hSw); go_simp) <;> with_reducible rfl); (try simp only [Act.put, stz])
            refine tk 6 (v := ?_) rfl ?_ ?_; rotate_left; ((intro w hSw; (try dsimp only at hSw); go_simp) <;> with_reducible rfl); (try simp only [Act.put, stz])
            refine tk 7 (v := ?_) rfl ?_ ?_; rotate_left; ((intro w hSw; (try dsimp only at hSw); go_simp) <;> with_reducible rfl); (try simp only [Act.put, stz])
            refine wpAnyH_ready (rs := [1, 8]) (by kernel_rfl) (by simp) ?_; refine AllReadyH.cons (o := _) rfl (fun K hK => ?_) ?_
            · go_simp
              refine hK.out _ _ ?_ (fun hNew => ?_)
              · (try dsimp only); (first | exact HKS.out _ HE9.out _ _ _ | exact HKB.out _ HE9.out | exact HKB.out _ HE8.out | exact HKB.out _ (.of_ext (Ext.refl w7).drew))
              clear hK K hHeld; have hHeld := hNew; clear hNew
              try simp only [Act.put, stz]
              refine wpAnyH_ready (rs := [8]) (by kernel_rfl) (by simp) ?_; refine AllReadyH.cons (o := _) rfl (fun K hK => ?_) ?_
              · go_simp
                go_at_call 73; refine (HPK.out _ hg (HR7.out.ext (Ext.refl w7).drew)).mono ?_; rintro e w8 ⟨⟨z8, hz8, rfl⟩, hr8, he8⟩
                have HE8 := Lib.hid ((Else.of_ext (rb := rb) (Ext.refl w7).drew).trans' he8); have HR8 := Lib.hid hr8
                have hz80 : (0 : Int) ≤ (z8 : Int) := (by omega)
                have hz81 : (z8 : Int) < (B.given.length : Int) := (by omega)
                obtain ⟨Z8, hgv8⟩ := HGV.out _ HE8.out; obtain ⟨b8, o8, x8, vx8, rfl, hb8, hxm8, hxs8, hxt8, hc80, hc81⟩ := AtomsR.at_ hgv8 hz8; obtain ⟨G, gc, rfl, _, _⟩ := SliceR.form hxt8; have HX8 := Lib.hid hxt8; have HW8 := Lib.hid (show x8.n.size ≤ maxLen ∧ wAtom x8 ≤ 80 from ⟨hxs8, HGS.out _ (List.mem_of_getElem? hxm8)⟩); have HS8 := Lib.hid (HKE.out _ HE8.out); have t0 := HS8.out.2.2.2.2.1; have t1 := HS8.out.2.2.2.2.2.1; have t2 := HS8.out.2.2.2.2.2.2; have tl8 := Nat.lt_of_lt_of_le tl HE8.out.size; clear hr8 he8 hgv8 hxm8 hxs8 hxt8; refine hK.out _ _ ?_ (fun hNew => ?_)
                · (try dsimp only); (first | exact HKS.out _ HE9.out _ _ _ | exact HKB.out _ HE9.out | exact HKB.out _ HE8.out | exact HKB.out _ (.of_ext (Ext.refl w7).drew))
                clear hK K hHeld; have hHeld := hNew; clear hNew
                try simp only [Act.put, stz]
                refine tk 9 (v := ?_) rfl ?_ ?_; rotate_left; ((intro w hSw; (try dsimp only at hSw); go_simp) <;> with_reducible rfl); (try simp only [Act.put, stz])
                refine wpAnyH_ready (rs := [10]) (by kernel_rfl) (by simp) ?_; refine AllReadyH.cons (o := _) rfl (fun K hK => ?_) ?_
                · go_simp
                  refine hK.out _ _ ?_ (fun hNew => ?_)
                  · (try dsimp only); (first | exact HKS.out _ HE9.out _ _ _ | exact HKB.out _ HE9.out | exact HKB.out _ HE8.out | exact HKB.out _ (.of_ext (Ext.refl w7).drew))
                  clear hK K hHeld; have hHeld := hNew; clear hNew
                  try simp only [Act.put, stz]
                  refine wpAnyH_ready (rs := [11]) (by kernel_rfl) (by simp) ?_; refine AllReadyH.cons (o := _) rfl (fun K hK => ?_) ?_
                  · go_simp
                    go_at_call 146; refine (HGO.out x8 _ _ _ HE8.out HX8.out HW8.out.1 HW8.out.2).mono ?_; rintro e w9 ⟨⟨y9, rfl, hy9⟩, hx9⟩
                    obtain ⟨X9, cx9, Y9, cy9, rfl⟩ := hy9.form; have HE9 := Lib.hid (HE8.out.trans' (.of_ext hx9)); have HY9 := Lib.hid hy9; have HR9 := Lib.hid (HR8.out.ext hx9); have hw9 := HE8.out.size; have HB9 := Lib.hid (HT7.out.else_ HE9.out htn); have y0 := HB9.out.cell 0; have y1 := HB9.out.cell 1; have y2 := HB9.out.cell 2; have yf0 := HB9.out.frozen 0; have yf1 := HB9.out.frozen 1; have yf2 := HB9.out.frozen 2; have yl := HB9.out.lt; clear hy9 hx9; refine hK.out _ _ ?_ (fun hNew => ?_)
                    · (try dsimp only); (first | exact HKS.out _ HE9.out _ _ _ | exact HKB.out _ HE9.out | exact HKB.out _ HE8.out | exact HKB.out _ (.of_ext (Ext.refl w7).drew))
                    clear hK K hHeld; have hHeld := hNew; clear hNew
                    try simp only [Act.put, stz]
                    refine tk 12 (v := ?_) rfl ?_ ?_; rotate_left; ((intro w hSw; (try dsimp only at hSw); go_simp) <;> with_reducible rfl); (try simp only [Act.put, stz])
                    refine tk 13 (v := ?_) rfl ?_ ?_; rotate_left; ((intro w hSw; (try dsimp only at hSw); go_simp) <;> with_reducible rfl); (try simp only [Act.put, stz])
                    refine tk 14 (v := ?_) rfl ?_ ?_; rotate_left; ((intro w hSw; (try dsimp only at hSw); go_simp) <;> with_reducible rfl); (try simp only [Act.put, stz])
                    refine wpAnyH_ready (rs := [15]) (by kernel_rfl) (by simp) ?_; refine AllReadyH.cons (o := _) rfl (fun K hK => ?_) ?_
                    · go_simp
                      refine hK.out _ _ ?_ (fun hNew => ?_)
                      · (try dsimp only); (first | exact HKS.out _ HE9.out _ _ _ | exact HKB.out _ HE9.out | exact HKB.out _ HE8.out | exact HKB.out _ (.of_ext (Ext.refl w7).drew))
                      clear hK K hHeld; have hHeld := hNew; clear hNew
                      try simp only [Act.put, stz]
                      refine wpAnyH_done (by kernel_rfl) ?_ _; refine NoPanic.normal ?_
                      go_wp2_with fail
                      go_roundw
                      case rel =>
                       have h := HEND.out (goneL B t x8).1 w9 X9 Y9 cx9 cy9 1 (by omega) HE9.out HR9.out (HY9.out.imp (fromLe (by omega)) (.refl _ _) (Nat.le_refl _)) ⟨(lite_gone hlx.out.1).1, (lite_gone hlx.out.1).2.trans hlx.out.2⟩; exact ⟨q', _, X9, Y9, cx9, cy9, by go_num, by omega, h⟩
                      case measure => first | (simp [intOf]; done) | (simp [intOf]; omega)
                    exact AllReadyH.nil
                  exact AllReadyH.nil
                exact AllReadyH.nil
              exact AllReadyH.nil
            refine AllReadyH.cons (o := _) rfl (fun K hK => ?_) ?_
            · go_simp
              go_at_call 73; refine (HPK.out _ hg (HR7.out.ext (Ext.refl w7).drew)).mono ?_; rintro e w8 ⟨⟨z8, hz8, rfl⟩, hr8, he8⟩
              have HE8 := Lib.hid ((Else.of_ext (rb := rb) (Ext.refl w7).drew).trans' he8); have HR8 := Lib.hid hr8
              have hz80 : (0 : Int) ≤ (z8 : Int) := (by omega)
              have hz81 : (z8 : Int) < (B.given.length : Int) := (by omega)
              obtain ⟨Z8, hgv8⟩ := HGV.out _ HE8.out; obtain ⟨b8, o8, x8, vx8, rfl, hb8, hxm8, hxs8, hxt8, hc80, hc81⟩ := AtomsR.at_ hgv8 hz8; obtain ⟨G, gc, rfl, _, _⟩ := SliceR.form hxt8; have HX8 := Lib.hid hxt8; have HW8 := Lib.hid (show x8.n.size ≤ maxLen ∧ wAtom x8 ≤ 80 from ⟨hxs8, HGS.out _ (List.mem_of_getElem? hxm8)⟩); have HS8 := Lib.hid (HKE.out _ HE8.out); have t0 := HS8.out.2.2.2.2.1; have t1 := HS8.out.2.2.2.2.2.1; have t2 := HS8.out.2.2.2.2.2.2; have tl8 := Nat.lt_of_lt_of_le tl HE8.out.size; clear hr8 he8 hgv8 hxm8 hxs8 hxt8; refine hK.out _ _ ?_ (fun hNew => ?_)
              · (try dsimp only); (first | exact HKS.out _ HE9.out _ _ _ | exact HKB.out _ HE9.out | exact HKB.out _ HE8.out | exact HKB.out _ (.of_ext (Ext.refl w7).drew))
              clear hK K hHeld; have hHeld := hNew; clear hNew
              try simp only [Act.put, stz]
              refine tk 9 (v := ?_) rfl ?_ ?_; rotate_left; ((intro w hSw; (try dsimp only at hSw); go_simp) <;> with_reducible rfl); (try simp only [Act.put, stz])
              refine wpAnyH_ready (rs := [1, 10]) (by kernel_rfl) (by simp) ?_; refine AllReadyH.cons (o := _) rfl (fun K hK => ?_) ?_
              · go_simp
                refine hK.out _ _ ?_ (fun hNew => ?_)
                · (try dsimp only); (first | exact HKS.out _ HE9.out _ _ _ | exact HKB.out _ HE9.out | exact HKB.out _ HE8.out | exact HKB.out _ (.of_ext (Ext.refl w7).drew))
                clear hK K hHeld; have hHeld := hNew; clear hNew
                try simp only [Act.put, stz]
                refine wpAnyH_ready (rs := [10]) (by kernel_rfl) (by simp) ?_; refine AllReadyH.cons (o := _) rfl (fun K hK => ?_) ?_
                · go_simp
                  refine hK.out _ _ ?_ (fun hNew => ?_)
                  · (try dsimp only); (first | exact HKS.out _ HE9.out _ _ _ | exact HKB.out _ HE9.out | exact HKB.out _ HE8.out | exact HKB.out _ (.of_ext (Ext.refl w7).drew))
                  clear hK K hHeld; have hHeld := hNew; clear hNew
                  try simp only [Act.put, stz]
                  refine wpAnyH_ready (rs := [11]) (by kernel_rfl) (by simp) ?_; refine AllReadyH.cons (o := _) rfl (fun K hK => ?_) ?_
                  · go_simp
                    go_at_call 146; refine (HGO.out x8 _ _ _ HE8.out HX8.out HW8.out.1 HW8.out.2).mono ?_; rintro e w9 ⟨⟨y9, rfl, hy9⟩, hx9⟩
                    obtain ⟨X9, cx9, Y9, cy9, rfl⟩ := hy9.form; have HE9 := Lib.hid (HE8.out.trans' (.of_ext hx9)); have HY9 := Lib.hid hy9; have HR9 := Lib.hid (HR8.out.ext hx9); have hw9 := HE8.out.size; have HB9 := Lib.hid (HT7.out.else_ HE9.out htn); have y0 := HB9.out.cell 0; have y1 := HB9.out.cell 1; have y2 := HB9.out.cell 2; have yf0 := HB9.out.frozen 0; have yf1 := HB9.out.frozen 1; have yf2 := HB9.out.frozen 2; have yl := HB9.out.lt; clear hy9 hx9; refine hK.out _ _ ?_ (fun hNew => ?_)
                    · (try dsimp only); (first | exact HKS.out _ HE9.out _ _ _ | exact HKB.out _ HE9.out | exact HKB.out _ HE8.out | exact HKB.out _ (.of_ext (Ext.refl w7).drew))
                    clear hK K hHeld; have hHeld := hNew; clear hNew
                    try simp only [Act.put, stz]
                    refine tk 12 (v := ?_) rfl ?_ ?_; rotate_left; ((intro w hSw; (try dsimp only at hSw); go_simp) <;> with_reducible rfl); (try simp only [Act.put, stz])
                    refine tk 13 (v := ?_) rfl ?_ ?_; rotate_left; ((intro w hSw; (try dsimp only at hSw); go_simp) <;> with_reducible rfl); (try simp only [Act.put, stz])
                    refine tk 14 (v := ?_) rfl ?_ ?_; rotate_left; ((intro w hSw; (try dsimp only at hSw); go_simp) <;> with_reducible rfl); (try simp only [Act.put, stz])
                    refine wpAnyH_ready (rs := [15]) (by kernel_rfl) (by simp) ?_; refine AllReadyH.cons (o := _) rfl (fun K hK => ?_) ?_
                    · go_simp
                      refine hK.out _ _ ?_ (fun hNew => ?_)
                      · (try dsimp only); (first | exact HKS.out _ HE9.out _ _ _ | exact HKB.out _ HE9.out | exact HKB.out _ HE8.out | exact HKB.out _ (.of_ext (Ext.refl w7).drew))
                      clear hK K hHeld; have hHeld := hNew; clear hNew
                      try simp only [Act.put, stz]
                      refine wpAnyH_done (by kernel_rfl) ?_ _; refine NoPanic.normal ?_
                      go_wp2_with fail
                      go_roundw
                      case rel =>
                       have h := HEND.out (goneL B t x8).1 w9 X9 Y9 cx9 cy9 1 (by omega) HE9.out HR9.out (HY9.out.imp (fromLe (by omega)) (.refl _ _) (Nat.le_refl _)) ⟨(lite_gone hlx.out.1).1, (lite_gone hlx.out.1).2.trans hlx.out.2⟩; exact ⟨q', _, X9, Y9, cx9, cy9, by go_num, by omega, h⟩
                      case measure => first | (simp [intOf]; done) | (simp [intOf]; omega)
                    exact AllReadyH.nil
                  exact AllReadyH.nil
                exact AllReadyH.nil
              refine AllReadyH.cons (o := _) rfl (fun K hK => ?_) ?_
              · go_simp
                refine hK.out _ _ ?_ (fun hNew => ?_)
                · (try dsimp only); (first | exact HKS.out _ HE9.out _ _ _ | exact HKB.out _ HE9.out | exact HKB.out _ HE8.out | exact HKB.out _ (.of_ext (Ext.refl w7).drew))
                clear hK K hHeld; have hHeld := hNew; clear hNew
                try simp only [Act.put, stz]
                refine wpAnyH_ready (rs := [1]) (by kernel_rfl) (by simp) ?_; refine AllReadyH.cons (o := _) rfl (fun K hK => ?_) ?_
                · go_simp
                  refine hK.out _ _ ?_ (fun hNew => ?_)
                  · (try dsimp only); (first | exact HKS.out _ HE9.out _ _ _ | exact HKB.out _ HE9.out | exact HKB.out _ HE8.out | exact HKB.out _ (.of_ext (Ext.refl w7).drew))
                  clear hK K hHeld; have hHeld := hNew; clear hNew
                  try simp only [Act.put, stz]
                  refine wpAnyH_ready (rs := [11]) (by kernel_rfl) (by simp) ?_; refine AllReadyH.cons (o := _) rfl (fun K hK => ?_) ?_
                  · go_simp
                    go_at_call 146; refine (HGO.out x8 _ _ _ HE8.out HX8.out HW8.out.1 HW8.out.2).mono ?_; rintro e w9 ⟨⟨y9, rfl, hy9⟩, hx9⟩
                    obtain ⟨X9, cx9, Y9, cy9, rfl⟩ := hy9.form; have HE9 := Lib.hid (HE8.out.trans' (.of_ext hx9)); have HY9 := Lib.hid hy9; have HR9 := Lib.hid (HR8.out.ext hx9); have hw9 := HE8.out.size; have HB9 := Lib.hid (HT7.out.else_ HE9.out htn); have y0 := HB9.out.cell 0; have y1 := HB9.out.cell 1; have y2 := HB9.out.cell 2; have yf0 := HB9.out.frozen 0; have yf1 := HB9.out.frozen 1; have yf2 := HB9.out.frozen 2; have yl := HB9.out.lt; clear hy9 hx9; refine hK.out _ _ ?_ (fun hNew => ?_)
                    · (try dsimp only); (first | exact HKS.out _ HE9.out _ _ _ | exact HKB.out _ HE9.out | exact HKB.out _ HE8.out | exact HKB.out _ (.of_ext (Ext.refl w7).drew))
                    clear hK K hHeld; have hHeld := hNew; clear hNew
                    try simp only [Act.put, stz]
                    refine tk 12 (v := ?_) rfl ?_ ?_; rotate_left; ((intro w hSw; (try dsimp only at hSw); go_simp) <;> with_reducible rfl); (try simp only [Act.put, stz])
                    refine tk 13 (v := ?_) rfl ?_ ?_; rotate_left; ((intro w hSw; (try dsimp only at hSw); go_simp) <;> with_reducible rfl); (try simp only [Act.put, stz])
                    refine tk 14 (v := ?_) rfl ?_ ?_; rotate_left; ((intro w hSw; (try dsimp only at hSw); go_simp) <;> with_reducible rfl); (try simp only [Act.put, stz])
                    refine wpAnyH_ready (rs := [15]) (by kernel_rfl) (by simp) ?_; refine AllReadyH.cons (o := _) rfl (fun K hK => ?_) ?_
                    · go_simp
                      refine hK.out _ _ ?_ (fun hNew => ?_)
                      · (try dsimp only); (first | exact HKS.out _ HE9.out _ _ _ | exact HKB.out _ HE9.out | exact HKB.out _ HE8.out | exact HKB.out _ (.of_ext (Ext.refl w7).drew))
                      clear hK K hHeld; have hHeld := hNew; clear hNew
                      try simp only [Act.put, stz]
                      refine wpAnyH_done (by kernel_rfl) ?_ _; refine NoPanic.normal ?_
                      go_wp2_with fail
                      go_roundw
                      case rel =>
                       have h := HEND.out (goneL B t x8).1 w9 X9 Y9 cx9 cy9 1 (by omega) HE9.out HR9.out (HY9.out.imp (fromLe (by omega)) (.refl _ _) (Nat.le_refl _)) ⟨(lite_gone hlx.out.1).1, (lite_gone hlx.out.1).2.trans hlx.out.2⟩; exact ⟨q', _, X9, Y9, cx9, cy9, by go_num, by omega, h⟩
                      case measure => first | (simp [intOf]; done) | (simp [intOf]; omega)
                    exact AllReadyH.nil
                  exact AllReadyH.nil
                exact AllReadyH.nil
              exact AllReadyH.nil
            exact AllReadyH.nil
          have hg' : ¬ (0 : Int) < (B.given.length : Int) := by omega
          go_wp2_with fail
          refine wp_region_noPanic ?_; refine wp_region_held_drew (S := (fun W' => W'.cell? ⟨bb, 0, none⟩ = some (.slice A1 B.rules.length c1) ∧ W'.cell? ⟨bb, 1, none⟩ = some (.int .i64 B.time) ∧ W'.cell? ⟨bb, 2, none⟩ = some (.slice A2 B.given.length c2) ∧ W'.cell? ⟨bb, 3, none⟩ = some (.slice A3 B.hist.length c3))) (by kernel_rfl) ?_ (fun hHeld => ?_)
          · (try dsimp only); (first | exact HKS.out _ HE9.out _ _ _ | exact HKB.out _ HE9.out | exact HKB.out _ HE8.out | exact HKB.out _ (.of_ext (Ext.refl w7).drew))
          refine tk 0 (v := ?_) rfl ?_ ?_; rotate_left; ((intro w hSw; (try dsimp only at hSw); go_simp) <;> with_reducible rfl); (try simp only [Act.put, stz])
          refine tk 2 (v := ?_) rfl ?_ ?_; rotate_left; ((intro w hSw; (try dsimp only at hSw); go_simp) <;> with_reducible rfl); (try simp only [Act.put, stz])
          refine wpAnyH_ready (rs := [1, 3]) (by kernel_rfl) (by simp) ?_; refine AllReadyH.cons (o := _) rfl (fun K hK => ?_) ?_
          · go_simp
            refine hK.out _ _ ?_ (fun hNew => ?_)
            · (try dsimp only); (first | exact HKS.out _ HE9.out _ _ _ | exact HKB.out _ HE9.out | exact HKB.out _ HE8.out | exact HKB.out _ (.of_ext (Ext.refl w7).drew))
            clear hK K hHeld; have hHeld := hNew; clear hNew
            try simp only [Act.put, stz]
            refine wpAnyH_ready (rs := [3]) (by kernel_rfl) (by simp) ?_; refine AllReadyH.cons (o := _) rfl (fun K hK => ?_) ?_
            · go_simp
              go_at_call 148; refine (HFA.out _ (HR7.out.ext (Ext.refl w7).drew)).mono ?_; rintro e w8 ⟨⟨x8, vx8, rfl, hxt8, hxn8, hxi8⟩, hr8, he8⟩
              have HE8 := Lib.hid ((Else.of_ext (rb := rb) (Ext.refl w7).drew).trans' he8); have HR8 := Lib.hid hr8; obtain ⟨G, gc, rfl, _, _⟩ := SliceR.form hxt8; have HX8 := Lib.hid hxt8; have HW8 := Lib.hid (show x8.n.size ≤ maxLen ∧ wAtom x8 ≤ 80 from ⟨maxOf (by omega), tiny_w hxn8 hxi8⟩); have HS8 := Lib.hid (HKE.out _ HE8.out); have t0 := HS8.out.2.2.2.2.1; have t1 := HS8.out.2.2.2.2.2.1; have t2 := HS8.out.2.2.2.2.2.2; have tl8 := Nat.lt_of_lt_of_le tl HE8.out.size; clear hr8 he8 hxt8 hxn8 hxi8; refine hK.out _ _ ?_ (fun hNew => ?_)
              · (try dsimp only); (first | exact HKS.out _ HE9.out _ _ _ | exact HKB.out _ HE9.out | exact HKB.out _ HE8.out | exact HKB.out _ (.of_ext (Ext.refl w7).drew))
              clear hK K hHeld; have hHeld := hNew; clear hNew
              try simp only [Act.put, stz]
              refine wpAnyH_ready (rs := [4]) (by kernel_rfl) (by simp) ?_; refine AllReadyH.cons (o := _) rfl (fun K hK => ?_) ?_
              · go_simp
                go_at_call 147; refine (HAD.out x8 _ _ _ HE8.out HX8.out HW8.out.1 HW8.out.2).mono ?_; rintro e w9 ⟨⟨y9, rfl, hy9⟩, hx9⟩
                obtain ⟨X9, cx9, Y9, cy9, rfl⟩ := hy9.form; have HE9 := Lib.hid (HE8.out.trans' (.of_ext hx9)); have HY9 := Lib.hid hy9; have HR9 := Lib.hid (HR8.out.ext hx9); have hw9 := HE8.out.size; have HB9 := Lib.hid (HT7.out.else_ HE9.out htn); have y0 := HB9.out.cell 0; have y1 := HB9.out.cell 1; have y2 := HB9.out.cell 2; have yf0 := HB9.out.frozen 0; have yf1 := HB9.out.frozen 1; have yf2 := HB9.out.frozen 2; have yl := HB9.out.lt; clear hy9 hx9; refine hK.out _ _ ?_ (fun hNew => ?_)
                · (try dsimp only); (first | exact HKS.out _ HE9.out _ _ _ | exact HKB.out _ HE9.out | exact HKB.out _ HE8.out | exact HKB.out _ (.of_ext (Ext.refl w7).drew))
                clear hK K hHeld; have hHeld := hNew; clear hNew
                try simp only [Act.put, stz]
                refine tk 5 (v := ?_) rfl ?_ ?_; rotate_left; ((intro w hSw; (try dsimp only at hSw); go_simp) <;> with_reducible rfl); (try simp only [Act.put, stz])
                refine tk 6 (v := ?_) rfl ?_ ?_; rotate_left; ((intro w hSw; (try dsimp only at hSw); go_simp) <;> with_reducible rfl); (try simp only [Act.put, stz])
                refine tk 7 (v := ?_) rfl ?_ ?_; rotate_left; ((intro w hSw; (try dsimp only at hSw); go_simp) <;> with_reducible rfl); (try simp only [Act.put, stz])
                refine wpAnyH_ready (rs := [8]) (by kernel_rfl) (by simp) ?_; refine AllReadyH.cons (o := _) rfl (fun K hK => ?_) ?_
                · go_simp
                  refine hK.out _ _ ?_ (fun hNew => ?_)
                  · (try dsimp only); (first | exact HKS.out _ HE9.out _ _ _ | exact HKB.out _ HE9.out | exact HKB.out _ HE8.out | exact HKB.out _ (.of_ext (Ext.refl w7).drew))
                  clear hK K hHeld; have hHeld := hNew; clear hNew
                  try simp only [Act.put, stz]
                  refine wpAnyH_done (by kernel_rfl) ?_ _; refine NoPanic.normal ?_
                  go_wp2_with fail
                  go_roundw
                  case rel =>
                   have h := HEND.out (addL B t x8).1 w9 X9 Y9 cx9 cy9 7 (by omega) HE9.out HR9.out (HY9.out.imp (fromLe (by omega)) (.refl _ _) (Nat.le_refl _)) ⟨(lite_add hlx.out.1).1, (lite_add hlx.out.1).2.trans hlx.out.2⟩; exact ⟨q', _, X9, Y9, cx9, cy9, by go_num, by omega, h⟩
                  case measure => first | (simp [intOf]; done) | (simp [intOf]; omega)
                exact AllReadyH.nil
              exact AllReadyH.nil
            exact AllReadyH.nil
          refine AllReadyH.cons (o := _) rfl (fun K hK => ?_) ?_
          · go_simp
            go_at_call 148; refine (HFA.out _ (HR7.out.ext (Ext.refl w7).drew)).mono ?_; rintro e w8 ⟨⟨x8, vx8, rfl, hxt8, hxn8, hxi8⟩, hr8, he8⟩
            have HE8 := Lib.hid ((Else.of_ext (rb := rb) (Ext.refl w7).drew).trans' he8); have HR8 := Lib.hid hr8; obtain ⟨G, gc, rfl, _, _⟩ := SliceR.form hxt8; have HX8 := Lib.hid hxt8; have HW8 := Lib.hid (show x8.n.size ≤ maxLen ∧ wAtom x8 ≤ 80 from ⟨maxOf (by omega), tiny_w hxn8 hxi8⟩); have HS8 := Lib.hid (HKE.out _ HE8.out); have t0 := HS8.out.2.2.2.2.1; have t1 := HS8.out.2.2.2.2.2.1; have t2 := HS8.out.2.2.2.2.2.2; have tl8 := Nat.lt_of_lt_of_le tl HE8.out.size; clear hr8 he8 hxt8 hxn8 hxi8; refine hK.out _ _ ?_ (fun hNew => ?_)
            · (try dsimp only); (first | exact HKS.out _ HE9.out _ _ _ | exact HKB.out _ HE9.out | exact HKB.out _ HE8.out | exact HKB.out _ (.of_ext (Ext.refl w7).drew))
            clear hK K hHeld; have hHeld := hNew; clear hNew
            try simp only [Act.put, stz]
            refine wpAnyH_ready (rs := [1]) (by kernel_rfl) (by simp) ?_; refine AllReadyH.cons (o := _) rfl (fun K hK => ?_) ?_
            · go_simp
              refine hK.out _ _ ?_ (fun hNew => ?_)
              · (try dsimp only); (first | exact HKS.out _ HE9.out _ _ _ | exact HKB.out _ HE9.out | exact HKB.out _ HE8.out | exact HKB.out _ (.of_ext (Ext.refl w7).drew))
              clear hK K hHeld; have hHeld := hNew; clear hNew
              try simp only [Act.put, stz]
              refine wpAnyH_ready (rs := [4]) (by kernel_rfl) (by simp) ?_; refine AllReadyH.cons (o := _) rfl (fun K hK => ?_) ?_
              · go_simp
                go_at_call 147; refine (HAD.out x8 _ _ _ HE8.out HX8.out HW8.out.1 HW8.out.2).mono ?_; rintro e w9 ⟨⟨y9, rfl, hy9⟩, hx9⟩
                obtain ⟨X9, cx9, Y9, cy9, rfl⟩ := hy9.form; have HE9 := Lib.hid (HE8.out.trans' (.of_ext hx9)); have HY9 := Lib.hid hy9; have HR9 := Lib.hid (HR8.out.ext hx9); have hw9 := HE8.out.size; have HB9 := Lib.hid (HT7.out.else_ HE9.out htn); have y0 := HB9.out.cell 0; have y1 := HB9.out.cell 1; have y2 := HB9.out.cell 2; have yf0 := HB9.out.frozen 0; have yf1 := HB9.out.frozen 1; have yf2 := HB9.out.frozen 2; have yl := HB9.out.lt; clear hy9 hx9; refine hK.out _ _ ?_ (fun hNew => ?_)
                · (try dsimp only); (first | exact HKS.out _ HE9.out _ _ _ | exact HKB.out _ HE9.out | exact HKB.out _ HE8.out | exact HKB.out _ (.of_ext (Ext.refl w7).drew))
                clear hK K hHeld; have hHeld := hNew; clear hNew
                try simp only [Act.put, stz]
                refine tk 5 (v := ?_) rfl ?_ ?_; rotate_left; ((intro w hSw; (try dsimp only at hSw); go_simp) <;> with_reducible rfl); (try simp only [Act.put, stz])
                refine tk 6 (v := ?_) rfl ?_ ?_; rotate_left; ((intro w hSw; (try dsimp only at hSw); go_simp) <;> with_reducible rfl); (try simp only [Act.put, stz])
                refine tk 7 (v := ?_) rfl ?_ ?_; rotate_left; ((intro w hSw; (try dsimp only at hSw); go_simp) <;> with_reducible rfl); (try simp only [Act.put, stz])
                refine wpAnyH_ready (rs := [8]) (by kernel_rfl) (by simp) ?_; refine AllReadyH.cons (o := _) rfl (fun K hK => ?_) ?_
                · go_simp
                  refine hK.out _ _ ?_ (fun hNew => ?_)
                  · (try dsimp only); (first | exact HKS.out _ HE9.out _ _ _ | exact HKB.out _ HE9.out | exact HKB.out _ HE8.out | exact HKB.out _ (.of_ext (Ext.refl w7).drew))
                  clear hK K hHeld; have hHeld := hNew; clear hNew
                  try simp only [Act.put, stz]
                  refine wpAnyH_done (by kernel_rfl) ?_ _; refine NoPanic.normal ?_
                  go_wp2_with fail
                  go_roundw
                  case rel =>
                   have h := HEND.out (addL B t x8).1 w9 X9 Y9 cx9 cy9 7 (by omega) HE9.out HR9.out (HY9.out.imp (fromLe (by omega)) (.refl _ _) (Nat.le_refl _)) ⟨(lite_add hlx.out.1).1, (lite_add hlx.out.1).2.trans hlx.out.2⟩; exact ⟨q', _, X9, Y9, cx9, cy9, by go_num, by omega, h⟩
                  case measure => first | (simp [intOf]; done) | (simp [intOf]; omega)
                exact AllReadyH.nil
              exact AllReadyH.nil
            exact AllReadyH.nil
          exact AllReadyH.nil
        have hz' : ((((z7 : Nat) : Int) == 0) : Bool) = false := by rw [beq_eq_false_iff_ne]; omega
        go_wp2_with fail
        refine wp_region_noPanic ?_; refine wp_region_held_drew (S := (fun W' => W'.cell? ⟨bb, 0, none⟩ = some (.slice A1 B.rules.length c1) ∧ W'.cell? ⟨bb, 1, none⟩ = some (.int .i64 B.time) ∧ W'.cell? ⟨bb, 2, none⟩ = some (.slice A2 B.given.length c2) ∧ W'.cell? ⟨bb, 3, none⟩ = some (.slice A3 B.hist.length c3))) (by kernel_rfl) ?_ (fun hHeld => ?_)
        · (try dsimp only); (first | exact HKS.out _ HE9.out _ _ _ | exact HKB.out _ HE9.out | exact HKB.out _ HE8.out | exact HKB.out _ (.of_ext (Ext.refl w7).drew))
        refine tk 0 (v := ?_) rfl ?_ ?_; rotate_left; ((intro w hSw; (try dsimp only at hSw); go_simp) <;> with_reducible rfl); (try simp only [Act.put, stz])
        refine tk 2 (v := ?_) rfl ?_ ?_; rotate_left; ((intro w hSw; (try dsimp only at hSw); go_simp) <;> with_reducible rfl); (try simp only [Act.put, stz])
        refine wpAnyH_ready (rs := [1, 3]) (by kernel_rfl) (by simp) ?_; refine AllReadyH.cons (o := _) rfl (fun K hK => ?_) ?_
        · go_simp
          refine hK.out _ _ ?_ (fun hNew => ?_)
          · (try dsimp only); (first | exact HKS.out _ HE9.out _ _ _ | exact HKB.out _ HE9.out | exact HKB.out _ HE8.out | exact HKB.out _ (.of_ext (Ext.refl w7).drew))
          clear hK K hHeld; have hHeld := hNew; clear hNew
          try simp only [Act.put, stz]
          refine wpAnyH_ready (rs := [3]) (by kernel_rfl) (by simp) ?_; refine AllReadyH.cons (o := _) rfl (fun K hK => ?_) ?_
          · go_simp
            go_at_call 148; refine (HFA.out _ (HR7.out.ext (Ext.refl w7).drew)).mono ?_; rintro e w8 ⟨⟨x8, vx8, rfl, hxt8, hxn8, hxi8⟩, hr8, he8⟩
            have HE8 := Lib.hid ((Else.of_ext (rb := rb) (Ext.refl w7).drew).trans' he8); have HR8 := Lib.hid hr8; obtain ⟨G, gc, rfl, _, _⟩ := SliceR.form hxt8; have HX8 := Lib.hid hxt8; have HW8 := Lib.hid (show x8.n.size ≤ maxLen ∧ wAtom x8 ≤ 80 from ⟨maxOf (by omega), tiny_w hxn8 hxi8⟩); have HS8 := Lib.hid (HKE.out _ HE8.out); have t0 := HS8.out.2.2.2.2.1; have t1 := HS8.out.2.2.2.2.2.1; have t2 := HS8.out.2.2.2.2.2.2; have tl8 := Nat.lt_of_lt_of_le tl HE8.out.size; clear hr8 he8 hxt8 hxn8 hxi8; refine hK.out _ _ ?_ (fun hNew => ?_)
            · (try dsimp only); (first | exact HKS.out _ HE9.out _ _ _ | exact HKB.out _ HE9.out | exact HKB.out _ HE8.out | exact HKB.out _ (.of_ext (Ext.refl w7).drew))
            clear hK K hHeld; have hHeld := hNew; clear hNew
            try simp only [Act.put, stz]
            refine wpAnyH_ready (rs := [4]) (by kernel_rfl) (by simp) ?_; refine AllReadyH.cons (o := _) rfl (fun K hK => ?_) ?_
            · go_simp
              go_at_call 147; refine (HAD.out x8 _ _ _ HE8.out HX8.out HW8.out.1 HW8.out.2).mono ?_; rintro e w9 ⟨⟨y9, rfl, hy9⟩, hx9⟩
              obtain ⟨X9, cx9, Y9, cy9, rfl⟩ := hy9.form; have HE9 := Lib.hid (HE8.out.trans' (.of_ext hx9)); have HY9 := Lib.hid hy9; have HR9 := Lib.hid (HR8.out.ext hx9); have hw9 := HE8.out.size; have HB9 := Lib.hid (HT7.out.else_ HE9.out htn); have y0 := HB9.out.cell 0; have y1 := HB9.out.cell 1; have y2 := HB9.out.cell 2; have yf0 := HB9.out.frozen 0; have yf1 := HB9.out.frozen 1; have yf2 := HB9.out.frozen 2; have yl := HB9.out.lt; clear hy9 hx9; refine hK.out _ _ ?_ (fun hNew => ?_)
              · (try dsimp only); (first | exact HKS.out _ HE9.out _ _ _ | exact HKB.out _ HE9.out | exact HKB.out _ HE8.out | exact HKB.out _ (.of_ext (Ext.refl w7).drew))
              clear hK K hHeld; have hHeld := hNew; clear hNew
              try simp only [Act.put, stz]
              refine tk 5 (v := ?_) rfl ?_ ?_; rotate_left; ((intro w hSw; (try dsimp only at hSw); go_simp) <;> with_reducible rfl); (try simp only [Act.put, stz])
              refine tk 6 (v := ?_) rfl ?_ ?_; rotate_left; ((intro w hSw; (try dsimp only at hSw); go_simp) <;> with_reducible rfl); (try simp only [Act.put, stz])
              refine tk 7 (v := ?_) rfl ?_ ?_; rotate_left; ((intro w hSw; (try dsimp only at hSw); go_simp) <;> with_reducible rfl); (try simp only [Act.put, stz])
              refine wpAnyH_ready (rs := [8]) (by kernel_rfl) (by simp) ?_; refine AllReadyH.cons (o := _) rfl (fun K hK => ?_) ?_
              · go_simp
                refine hK.out _ _ ?_ (fun hNew => ?_)
                · (try dsimp only); (first | exact HKS.out _ HE9.out _ _ _ | exact HKB.out _ HE9.out | exact HKB.out _ HE8.out | exact HKB.out _ (.of_ext (Ext.refl w7).drew))
                clear hK K hHeld; have hHeld := hNew; clear hNew
                try simp only [Act.put, stz]
                refine wpAnyH_done (by kernel_rfl) ?_ _; refine NoPanic.normal ?_
                go_wp2_with fail
                go_roundw
                case rel =>
                 have h := HEND.out (addL B t x8).1 w9 X9 Y9 cx9 cy9 7 (by omega) HE9.out HR9.out (HY9.out.imp (fromLe (by omega)) (.refl _ _) (Nat.le_refl _)) ⟨(lite_add hlx.out.1).1, (lite_add hlx.out.1).2.trans hlx.out.2⟩; exact ⟨q', _, X9, Y9, cx9, cy9, by go_num, by omega, h⟩
                case measure => first | (simp [intOf]; done) | (simp [intOf]; omega)
              exact AllReadyH.nil
            exact AllReadyH.nil
          exact AllReadyH.nil
        refine AllReadyH.cons (o := _) rfl (fun K hK => ?_) ?_
        · go_simp
          go_at_call 148; refine (HFA.out _ (HR7.out.ext (Ext.refl w7).drew)).mono ?_; rintro e w8 ⟨⟨x8, vx8, rfl, hxt8, hxn8, hxi8⟩, hr8, he8⟩
          have HE8 := Lib.hid ((Else.of_ext (rb := rb) (Ext.refl w7).drew).trans' he8); have HR8 := Lib.hid hr8; obtain ⟨G, gc, rfl, _, _⟩ := SliceR.form hxt8; have HX8 := Lib.hid hxt8; have HW8 := Lib.hid (show x8.n.size ≤ maxLen ∧ wAtom x8 ≤ 80 from ⟨maxOf (by omega), tiny_w hxn8 hxi8⟩); have HS8 := Lib.hid (HKE.out _ HE8.out); have t0 := HS8.out.2.2.2.2.1; have t1 := HS8.out.2.2.2.2.2.1; have t2 := HS8.out.2.2.2.2.2.2; have tl8 := Nat.lt_of_lt_of_le tl HE8.out.size; clear hr8 he8 hxt8 hxn8 hxi8; refine hK.out _ _ ?_ (fun hNew => ?_)
          · (try dsimp only); (first | exact HKS.out _ HE9.out _ _ _ | exact HKB.out _ HE9.out | exact HKB.out _ HE8.out | exact HKB.out _ (.of_ext (Ext.refl w7).drew))
          clear hK K hHeld; have hHeld := hNew; clear hNew
          try simp only [Act.put, stz]
          refine wpAnyH_ready (rs := [1]) (by kernel_rfl) (by simp) ?_; refine AllReadyH.cons (o := _) rfl (fun K hK => ?_) ?_
          · go_simp
            refine hK.out _ _ ?_ (fun hNew => ?_)
            · (try dsimp only); (first | exact HKS.out _ HE9.out _ _ _ | exact HKB.out _ HE9.out | exact HKB.out _ HE8.out | exact HKB.out _ (.of_ext (Ext.refl w7).drew))
            clear hK K hHeld; have hHeld := hNew; clear hNew
            try simp only [Act.put, stz]
            refine wpAnyH_ready (rs := [4]) (by kernel_rfl) (by simp) ?_; refine AllReadyH.cons (o := _) rfl (fun K hK => ?_) ?_
            · go_simp
              go_at_call 147; refine (HAD.out x8 _ _ _ HE8.out HX8.out HW8.out.1 HW8.out.2).mono ?_; rintro e w9 ⟨⟨y9, rfl, hy9⟩, hx9⟩
              obtain ⟨X9, cx9, Y9, cy9, rfl⟩ := hy9.form; have HE9 := Lib.hid (HE8.out.trans' (.of_ext hx9)); have HY9 := Lib.hid hy9; have HR9 := Lib.hid (HR8.out.ext hx9); have hw9 := HE8.out.size; have HB9 := Lib.hid (HT7.out.else_ HE9.out htn); have y0 := HB9.out.cell 0; have y1 := HB9.out.cell 1; have y2 := HB9.out.cell 2; have yf0 := HB9.out.frozen 0; have yf1 := HB9.out.frozen 1; have yf2 := HB9.out.frozen 2; have yl := HB9.out.lt; clear hy9 hx9; refine hK.out _ _ ?_ (fun hNew => ?_)
              · (try dsimp only); (first | exact HKS.out _ HE9.out _ _ _ | exact HKB.out _ HE9.out | exact HKB.out _ HE8.out | exact HKB.out _ (.of_ext (Ext.refl w7).drew))
              clear hK K hHeld; have hHeld := hNew; clear hNew
              try simp only [Act.put, stz]
              refine tk 5 (v := ?_) rfl ?_ ?_; rotate_left; ((intro w hSw; (try dsimp only at hSw); go_simp) <;> with_reducible rfl); (try simp only [Act.put, stz])
              refine tk 6 (v := ?_) rfl ?_ ?_; rotate_left; ((intro w hSw; (try dsimp only at hSw); go_simp) <;> with_reducible rfl); (try simp only [Act.put, stz])
              refine tk 7 (v := ?_) rfl ?_ ?_; rotate_left; ((intro w hSw; (try dsimp only at hSw); go_simp) <;> with_reducible rfl); (try simp only [Act.put, stz])
              refine wpAnyH_ready (rs := [8]) (by kernel_rfl) (by simp) ?_; refine AllReadyH.cons (o := _) rfl (fun K hK => ?_) ?_
              · go_simp
                refine hK.out _ _ ?_ (fun hNew => ?_)
                · (try dsimp only); (first | exact HKS.out _ HE9.out _ _ _ | exact HKB.out _ HE9.out | exact HKB.out _ HE8.out | exact HKB.out _ (.of_ext (Ext.refl w7).drew))
                clear hK K hHeld; have hHeld := hNew; clear hNew
                try simp only [Act.put, stz]
                refine wpAnyH_done (by kernel_rfl) ?_ _; refine NoPanic.normal ?_
                go_wp2_with fail
                go_roundw
                case rel =>
                 have h := HEND.out (addL B t x8).1 w9 X9 Y9 cx9 cy9 7 (by omega) HE9.out HR9.out (HY9.out.imp (fromLe (by omega)) (.refl _ _) (Nat.le_refl _)) ⟨(lite_add hlx.out.1).1, (lite_add hlx.out.1).2.trans hlx.out.2⟩; exact ⟨q', _, X9, Y9, cx9, cy9, by go_num, by omega, h⟩
                case measure => first | (simp [intOf]; done) | (simp [intOf]; omega)
              exact AllReadyH.nil
            exact AllReadyH.nil
          exact AllReadyH.nil
        exact AllReadyH.nil
      obtain rfl : q = 0 := by omega
      have HEN := Lib.hid (l7End_any B t _ _ wI HDI.out.base htr.out HLB.out hlx.out.1); have HKS := Lib.hid (hd.out.kept.end_ hlx.out.1 hlx.out.2)
      obtain ⟨B9, hB9⟩ : ∃ B9, B9 = (endL B t).1 := ⟨_, rfl⟩
      obtain ⟨code, hcode⟩ : ∃ code, code = (endL B t).2 := ⟨_, rfl⟩
      rw [← hB9] at HEN HKS; rw [← hcode] at HEN; clear hB9 hcode
      have hbb : bb ≠ rb := by omega
      have hbi : bb < wI.heap.size := pl
      obtain ⟨j', rfl⟩ : ∃ j', j = j' + 1 := ⟨j - 1, by omega⟩
      go_wp2_with fail
      refine HEN.out.mono ?_; rintro e w9 ⟨⟨y9, rfl, hy9⟩, hx9⟩; obtain ⟨B1, d1, B2, d2, B3, d3, rfl⟩ := hy9.form; have HE9 := Lib.hid (hel.out.trans' (.of_ext hx9)); have HD9 := Lib.hid (hd.out.else_ HE9.out hrl hbw); have HY9 := Lib.hid hy9; have HR9 := Lib.hid (hrq.out.ext hx9); have hw9 : wI.heap.size ≤ w9.heap.size := hx9.size; clear t0 t1 t2 tl p0 p1 p2 p3 pl hy9 hx9 HDI htb htr
      obtain ⟨W10, hW10⟩ : ∃ W10, W10 = w9.alloc (.cells #[.slice B1 B9.rules.length d1, .int .i64 B9.time, .slice B2 B9.given.length d2, .slice B3 B9.hist.length d3] 45) := ⟨_, rfl⟩
      have hx10 : Ext w9 W10 := by rw [hW10]; exact (Ext.refl _).alloc _
      have HX10 := Lib.hid (show Blk W10 w9.heap.size 45 #[.slice B1 B9.rules.length d1, .int .i64 B9.time, .slice B2 B9.given.length d2, .slice B3 B9.hist.length d3] from by rw [hW10]; exact Blk.new _ _ _); have HD10 := Lib.hid (HD9.out.else_ (.of_ext hx10) hrl hbw); have HY10 := Lib.hid (HY9.out.ext hx10); have HR10 := Lib.hid (HR9.out.ext hx10); have hz10 : w9.heap.size < W10.heap.size := HX10.out.lt; have p0 := HD10.out.blk.cell 0; have p1 := HD10.out.blk.cell 1; have p2 := HD10.out.blk.cell 2; have p3 := HD10.out.blk.cell 3; have f0 := HD10.out.blk.frozen 0; have f1 := HD10.out.blk.frozen 1; have f2 := HD10.out.blk.frozen 2; have f3 := HD10.out.blk.frozen 3; have pl := HD10.out.blk.lt; have x0 := HX10.out.cell 0; have x1 := HX10.out.cell 1; have x2 := HX10.out.cell 2; have x3 := HX10.out.cell 3; clear HD9 HY9 HR9 HE9 hx10
      rcases Nat.eq_zero_or_pos code with rfl | hcp
      · rw [hW10] at p0 p1 p2 p3 f0 f1 f2 f3 pl x0 x1 x2 x3
        go_wp2_with fail
        go_roundw
        rw [← hW10]
        case rel =>
         have hA : ∀ S : Nat → Prop, (¬ S bb) → Agree S W10 ((((W10.setCell ⟨bb, 0, none⟩ (.slice B1 B9.rules.length d1)).setCell ⟨bb, 1, none⟩ (.int .i64 B9.time)).setCell ⟨bb, 2, none⟩ (.slice B2 B9.given.length d2)).setCell ⟨bb, 3, none⟩ (.slice B3 B9.hist.length d3)) := fun S hS => ((((Agree.refl _ _).setCell hS _).setCell hS _).setCell hS _).setCell hS _
         have hs : W10.heap.size ≤ ((((W10.setCell ⟨bb, 0, none⟩ (.slice B1 B9.rules.length d1)).setCell ⟨bb, 1, none⟩ (.int .i64 B9.time)).setCell ⟨bb, 2, none⟩ (.slice B2 B9.given.length d2)).setCell ⟨bb, 3, none⟩ (.slice B3 B9.hist.length d3)).heap.size := by simp [World.setCell]
         have hE := HD10.out.els; refine ⟨j', B9, B1, B2, B3, d1, d2, d3, by go_num, by omega, Lib.hid ⟨?_, ?_, ?_, ?_, ?_⟩, Lib.hid ((HR10.out.keep (hA _ (by omega)) hs).le (by omega))⟩
         · have h := (((HD10.out.blk.set_ 0 (.slice B1 B9.rules.length d1)).set_ 1 (.int .i64 B9.time)).set_ 2 (.slice B2 B9.given.length d2)).set_ 3 (.slice B3 B9.hist.length d3)
           simpa using h
         · exact HY10.out.imp (fun i hi => ⟨by have h : wI.heap.size ≤ i := hi; omega, by have h : wI.heap.size ≤ i := hi; omega⟩) (hA _ (by omega)) hs
         · exact HKS.out.le (by omega)
         · exact ⟨hE.os, hE.tape, hE.output, Nat.le_trans hE.size hs, fun i hi hne => (hA (fun i => i ≠ bb) (fun h => h rfl) i (by omega) (Nat.lt_of_lt_of_le hi hE.size)).trans (hE.block i hi hne)⟩
         exact (hA (fun i => i ≠ bb) (fun h => h rfl) _ (by omega) HD10.out.ret.lt).trans HD10.out.ret
        case measure => first | (simp [intOf]; done) | (simp [intOf]; omega)
      have hc' : ((((code : Nat) : Int) == 0) : Bool) = false := by rw [beq_eq_false_iff_ne]; omega
      rw [hW10] at p0 p1 p2 p3 f0 f1 f2 f3 pl x0 x1 x2 x3
      go_wp2_with fail
      go_roundw
      rw [← hW10]
      case rel => exact ⟨j', B, A1, A2, A3, c1, c2, c3, by go_num, by omega, Lib.hid ⟨HD10.out.blk, HD10.out.base, HD10.out.kept.le (by omega), HD10.out.els, HD10.out.ret⟩, Lib.hid (HR10.out.le (by omega))⟩
      case measure => first | (simp [intOf]; done) | (simp [intOf]; omega)
   obtain rfl : j = 0 := by omega
   have r0 := hd.out.ret.cell 0; have r1 := hd.out.ret.cell 1; have r2 := hd.out.ret.cell 2; have r3 := hd.out.ret.cell 3; have rf0 := hd.out.ret.frozen 0; have rf1 := hd.out.ret.frozen 1; have rf2 := hd.out.ret.frozen 2; have rf3 := hd.out.ret.frozen 3; have rl := hd.out.ret.lt
   go_wp2_with fail
   refine bodyPost_ret (v := .agg #[.slice A1 B.rules.length c1, .int .i64 B.time, .slice A2 B.given.length c2, .slice A3 B.hist.length c3]) (by simp [results, Tryz.results85, go_sem, r0, r1, r2, r3]) rfl ⟨⟨_, B, rfl, ?_, hd.out.kept⟩, ?_, ?_⟩
   · obtain ⟨a, b, c, h1, h2, h3, h4⟩ := hd.out.base
     injection h1 with h1
     simp only [Array.mk.injEq, List.cons.injEq] at h1; obtain ⟨rfl, _, rfl, rfl, _⟩ := h1; exact base_out (n := w.heap.size) (g := w.heap.size) (fun i hi => ⟨Nat.le_of_lt hi.1, Nat.ne_of_gt hi.1⟩) h2 h3 h4
   · exact (hrd.out.keep (((((Agree.refl _ _).setCell (by simp; omega) _).setCell (by simp; omega) _).setCell (by simp; omega) _).setCell (by simp; omega) _) (by go_size)).le (by omega)
   have hE := hd.out.els; refine ⟨hE.os, hE.tape, hE.output, by have := hE.size; go_size, fun i hi hne => ?_⟩; exact ((((((Agree.refl (fun i => i ≠ w.heap.size) wA).setCell (p := ⟨w.heap.size, 0, none⟩) (by simp) (.slice A1 B.rules.length c1)).setCell (p := ⟨w.heap.size, 1, none⟩) (by simp) (.int .i64 B.time)).setCell (p := ⟨w.heap.size, 2, none⟩) (by simp) (.slice A2 B.given.length c2)).setCell (p := ⟨w.heap.size, 3, none⟩) (by simp) (.slice A3 B.hist.length c3)) i (by omega) (Nat.lt_of_lt_of_le hi hE.size)).trans (hE.block i hi hne)
end Go.Proofs.YtmihponoillihaaGreatDoor
