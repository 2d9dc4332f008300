/- Part of the texts of a proof; what they say stands at each theorem. -/
import Derived.Test.YtmihponoillihaaGreatDoorBas19
import Derived.Test.YtmihponoillihaaGreatDoorBas20
set_option linter.unusedSimpArgs false
set_option linter.unusedVariables false
namespace Go.Proofs.YtmihponoillihaaGreatDoor
open Go.RowKit
noncomputable def endL (B : GB) (t : GX) : GB × Nat :=
 if t.from_ < B.time - B.hist.length then (B, 6) else if txnB B t = false then (B, 1) else if t.change.comes.length + t.change.goes.length = 0 then (B, 0) else if clashB B t = true then (B, 4)
 else if fineB B.rules (doL B.given t.change) = false then (B, 5) else if 100000 ≤ B.time then (B, 5)
 else (⟨B.rules, B.time + 1, doL B.given t.change, if 30 < B.hist.length + 1 then (B.hist ++ [t.change]).drop 1 else B.hist ++ [t.change]⟩, 0)
theorem OwnK.setFar {α : Type} {k : Kind α} {base : Nat} {e : TypeId} {S : Nat → Prop} {w : World} {v : Value} {xs : List α} (h : OwnK k base e S w v xs) {p : Addr} (h1 : ∀ g, v.ownBlock = some g → g ≠ p.block) (h2 : ¬ S p.block) (u : Value) : OwnK k base e S (w.setCell p u) v xs :=
 h.agree (fun b hb _ => Below.heap_setCell w p u b (fun e => h2 (e ▸ hb))) (fun g hg => Below.heap_setCell w p u g (h1 g hg)) (by simp [World.setCell])
theorem base_out {B : GB} {n g : Nat} {w : World} {a b h : Value} {Z : Nat → Prop} (hz : ∀ i, Z i → n ≤ i ∧ i ≠ g) (h1 : RulesR Z w a B.rules) (h2 : AtomsR Z w b B.given) (h3 : ChangesR Z w h B.hist) :
 BaseR (From n) ((((w.setCell ⟨g, 0, none⟩ a).setCell ⟨g, 1, none⟩ (.int .i64 B.time)).setCell ⟨g, 2, none⟩ b).setCell ⟨g, 3, none⟩ h) (.agg #[a, .int .i64 B.time, b, h]) B := by
 have hA : Agree Z w ((((w.setCell ⟨g, 0, none⟩ a).setCell ⟨g, 1, none⟩ (.int .i64 B.time)).setCell ⟨g, 2, none⟩ b).setCell ⟨g, 3, none⟩ h) :=
  ((((Agree.refl _ _).setCell (fun h => (hz _ h).2 rfl) _).setCell (fun h => (hz _ h).2 rfl) _).setCell (fun h => (hz _ h).2 rfl) _).setCell (fun h => (hz _ h).2 rfl) _
 have hs : w.heap.size ≤ ((((w.setCell ⟨g, 0, none⟩ a).setCell ⟨g, 1, none⟩ (.int .i64 B.time)).setCell ⟨g, 2, none⟩ b).setCell ⟨g, 3, none⟩ h).heap.size := by simp [World.setCell]
 exact ⟨_, _, _, rfl, h1.impL (fun i hi _ => (hz i hi).1) hA hs, h2.impL (fun i hi _ => (hz i hi).1) hA hs, ListK.imp (k := kChange) h3 (fun i hi _ => (hz i hi).1) hA hs⟩
set_option maxRecDepth 100000 in
set_option maxHeartbeats 16000000 in
theorem l7End_any (B : GB) (t : GX) (v u : Value) (w : World) {S T : Nat → Prop} (hv : BaseR S w v B) (hu : TxnR T w u t) (hB : LiteB B) (hT : LiteX t) :
 Calls Tryz.prog 149 #[v, u] w fun e w' => (∃ y, e = .returned (.tuple #[y, .int .i64 (((endL B t).2 : Nat) : Int)]) ∧ BaseR (From w.heap.size) w' y (endL B t).1) ∧ Ext w w' := by
 obtain ⟨A1, c1, A2, c2, A3, c3, rfl⟩ := hv.form; obtain ⟨ta, tb, rfl, ha, hb⟩ := hu; obtain ⟨X, cx, rfl, _, _⟩ := SliceR.form ha; obtain ⟨Y, cy, rfl, _, _⟩ := SliceR.form hb
 obtain ⟨W, hW⟩ : ∃ W, W = ((w.alloc (.cells #[.slice A1 B.rules.length c1, .int .i64 B.time, .slice A2 B.given.length c2, .slice A3 B.hist.length c3] 45)).alloc (.cells #[.int .i64 t.from_, .slice X t.change.comes.length cx, .slice Y t.change.goes.length cy] 205)).alloc (.cells #[.slice none 0 0, .int .i64 0, .slice none 0 0, .slice none 0 0] 45) := ⟨_, rfl⟩
 have HB1 := Lib.hid (show Blk W w.heap.size 45 #[.slice A1 B.rules.length c1, .int .i64 B.time, .slice A2 B.given.length c2, .slice A3 B.hist.length c3] from by rw [hW]; exact ((Blk.new _ _ _).alloc _).alloc _); have HB2 := Lib.hid (show Blk W (w.heap.size + 1) 205 #[.int .i64 t.from_, .slice X t.change.comes.length cx, .slice Y t.change.goes.length cy] from by rw [hW]; exact (Blk.at_new (by simp)).alloc _); have HB4 := Lib.hid (show Blk W (w.heap.size + 1 + 1) 45 #[.slice none 0 0, .int .i64 0, .slice none 0 0, .slice none 0 0] from by rw [hW]; exact Blk.at_new (by simp)); have HX := Lib.hid (show Ext w W from by rw [hW]; exact (((Ext.refl _).alloc _).alloc _).alloc _); have HZW := Lib.hid (show W.heap.size = w.heap.size + 1 + 1 + 1 from by rw [hW]; simp); have HBR := Lib.hid (hv.ext HX.out); have HTR := Lib.hid (show TxnR T W (.agg #[.int .i64 t.from_, .slice X t.change.comes.length cx, .slice Y t.change.goes.length cy]) t from ⟨_, _, rfl, ha.ext HX.out, hb.ext HX.out⟩)
 have HRU : Hid (∃ Z2 : Nat → Prop, RulesR Z2 W (.slice A1 B.rules.length c1) B.rules) := Lib.hid (by
  obtain ⟨p, q, r, h1, h2, _, _⟩ := hv
  injection h1 with h1
  simp only [Array.mk.injEq, List.cons.injEq] at h1
  exact ⟨_, by rw [h1.1]; exact h2.ext HX.out⟩)
 have HGV : Hid (∃ Z2 : Nat → Prop, AtomsR Z2 W (.slice A2 B.given.length c2) B.given) := Lib.hid (by
  obtain ⟨p, q, r, h1, _, h2, _⟩ := hv
  injection h1 with h1
  simp only [Array.mk.injEq, List.cons.injEq] at h1
  exact ⟨_, by rw [h1.2.2.1]; exact h2.ext HX.out⟩)
 have HL := Lib.hid hB; have HLT := Lib.hid hT; have HC1 := Lib.hid (ha.ext HX.out); have HC2 := Lib.hid (hb.ext HX.out); have hti := hB.time; have hhl := hB.hist.1; have htc := hT.comes.1; have htg := hT.goes.1; have p0 := HB1.out.cell 0; have p1 := HB1.out.cell 1; have p2 := HB1.out.cell 2; have p3 := HB1.out.cell 3; have pl := HB1.out.lt; clear hv ha hb hB hT
 go_enter Tryz.func149, Tryz.ntmps149
 go_upto_region 1 with fail
 rw [← hW]; clear hW
 go_upto_region 2 with (first
  | (go_at_call 208; refine (l7Copy_any B _ W HBR.out HL.out).mono ?_; rintro e w1 ⟨⟨n1, g0, Z, va, vb, vh, rfl, hc⟩, hx1⟩
     obtain ⟨R1, r1, rfl, _, _⟩ := SliceR.form hc.rules; obtain ⟨R2, r2, rfl, _, _⟩ := SliceR.form hc.given; obtain ⟨R3, r3, rfl, _, _⟩ := hc.hist.form; have HC := Lib.hid hc; have HX1 := Lib.hid hx1
     clear hc hx1)
  | fail)
 clear p0 p1 p2 p3 pl
 obtain ⟨W1, hW1⟩ : ∃ W1, W1 = w1.alloc (.cells #[.slice R1 B.rules.length r1, .int .i64 B.time, .slice R2 B.given.length r2, .slice R3 B.hist.length r3] 45) := ⟨_, rfl⟩
 have HE1 := Lib.hid (show Ext W W1 from by rw [hW1]; exact HX1.out.alloc _); have HW1S := Lib.hid (show W1.heap.size = w1.heap.size + 1 from by rw [hW1]; simp); have HB6 := Lib.hid (show Blk W1 w1.heap.size 45 #[.slice R1 B.rules.length r1, .int .i64 B.time, .slice R2 B.given.length r2, .slice R3 B.hist.length r3] from by rw [hW1]; exact Blk.new _ _ _); have HE1' := Lib.hid (show Ext w1 W1 from by rw [hW1]; exact (Ext.refl _).alloc _); have HCR := Lib.hid (HC.out.ext HE1'.out); have hs01 : W.heap.size ≤ w1.heap.size := HX1.out.size
 have hn1 : W.heap.size ≤ n1 ∧ n1 ≤ w1.heap.size := ⟨Nat.le_of_lt (Nat.lt_of_le_of_lt HC.out.at_.1 HC.out.at_.2), HC.out.sz⟩
 have HRZ := Lib.hid (show RulesR (fun i => W.heap.size ≤ i ∧ i < w1.heap.size) W1 (.slice R1 B.rules.length r1) B.rules from (ListK.sub (k := kRule) HC.out.rules (fun i h => ⟨(HC.out.low i h).1, Nat.lt_of_lt_of_le (HC.out.low i h).2.1 hn1.2⟩)).ext HE1'.out); have HGZ := Lib.hid (show AtomsR (fun i => W.heap.size ≤ i ∧ i < w1.heap.size) W1 (.slice R2 B.given.length r2) B.given from (AtomsR.sub HC.out.given (fun i h => ⟨(HC.out.low i h).1, Nat.lt_of_lt_of_le (HC.out.low i h).2.1 hn1.2⟩)).ext HE1'.out); have HHO := Lib.hid (show OwnK kChange n1 32 (fun i => From n1 i ∧ i < w1.heap.size) W1 (.slice R3 B.hist.length r3) B.hist from (OwnK.low HC.out.hist).ext HE1'.out)
 have HHZ := Lib.hid (show ChangesR (fun i => W.heap.size ≤ i ∧ i < w1.heap.size) W1 (.slice R3 B.hist.length r3) B.hist from by
  have h := ListK.low (k := kChange) (HC.out.hist.list (S' := fun i => n1 ≤ i) (fun b h => h) (fun b h => h))
  exact ListK.ext (k := kChange) (ListK.sub (k := kChange) h (fun i h => ⟨Nat.le_trans hn1.1 h.1, h.2⟩)) HE1'.out)
 have HSA := Lib.hid (fun (W' : World) (hW' : Ext W1 W') => (show W'.cell? ⟨w.heap.size, 0, none⟩ = some (.slice A1 B.rules.length c1) ∧ W'.cell? ⟨w.heap.size, 1, none⟩ = some (.int .i64 B.time) ∧ W'.cell? ⟨w.heap.size, 2, none⟩ = some (.slice A2 B.given.length c2) ∧ W'.cell? ⟨w.heap.size, 3, none⟩ = some (.slice A3 B.hist.length c3) ∧ W'.cell? ⟨w.heap.size + 1, 0, none⟩ = some (.int .i64 t.from_) ∧ W'.cell? ⟨w.heap.size + 1, 1, none⟩ = some (.slice X t.change.comes.length cx) ∧ W'.cell? ⟨w.heap.size + 1, 2, none⟩ = some (.slice Y t.change.goes.length cy) ∧ W'.cell? ⟨w.heap.size + 1 + 1, 0, none⟩ = some (.slice none 0 0) ∧ W'.cell? ⟨w.heap.size + 1 + 1, 1, none⟩ = some (.int .i64 0) ∧ W'.cell? ⟨w.heap.size + 1 + 1, 2, none⟩ = some (.slice none 0 0) ∧ W'.cell? ⟨w.heap.size + 1 + 1, 3, none⟩ = some (.slice none 0 0) ∧ W'.cell? ⟨w1.heap.size, 0, none⟩ = some (.slice R1 B.rules.length r1) ∧ W'.cell? ⟨w1.heap.size, 1, none⟩ = some (.int .i64 B.time) ∧ W'.cell? ⟨w1.heap.size, 2, none⟩ = some (.slice R2 B.given.length r2) ∧ W'.cell? ⟨w1.heap.size, 3, none⟩ = some (.slice R3 B.hist.length r3) ∧ W'.frozen? ⟨w.heap.size + 1 + 1, 0, none⟩ = false ∧ W'.frozen? ⟨w.heap.size + 1 + 1, 1, none⟩ = false ∧ W'.frozen? ⟨w.heap.size + 1 + 1, 2, none⟩ = false ∧ W'.frozen? ⟨w.heap.size + 1 + 1, 3, none⟩ = false ∧ W'.frozen? ⟨w1.heap.size, 0, none⟩ = false ∧ W'.frozen? ⟨w1.heap.size, 1, none⟩ = false ∧ W'.frozen? ⟨w1.heap.size, 2, none⟩ = false ∧ W'.frozen? ⟨w1.heap.size, 3, none⟩ = false ∧ w.heap.size < W'.heap.size ∧ w.heap.size + 1 < W'.heap.size ∧ w.heap.size + 1 + 1 < W'.heap.size ∧ w1.heap.size < W'.heap.size from ⟨((HB1.out.ext HE1.out).ext hW').cell 0, ((HB1.out.ext HE1.out).ext hW').cell 1, ((HB1.out.ext HE1.out).ext hW').cell 2, ((HB1.out.ext HE1.out).ext hW').cell 3, ((HB2.out.ext HE1.out).ext hW').cell 0, ((HB2.out.ext HE1.out).ext hW').cell 1, ((HB2.out.ext HE1.out).ext hW').cell 2, ((HB4.out.ext HE1.out).ext hW').cell 0, ((HB4.out.ext HE1.out).ext hW').cell 1, ((HB4.out.ext HE1.out).ext hW').cell 2, ((HB4.out.ext HE1.out).ext hW').cell 3, (HB6.out.ext hW').cell 0, (HB6.out.ext hW').cell 1, (HB6.out.ext hW').cell 2, (HB6.out.ext hW').cell 3, ((HB4.out.ext HE1.out).ext hW').frozen 0, ((HB4.out.ext HE1.out).ext hW').frozen 1, ((HB4.out.ext HE1.out).ext hW').frozen 2, ((HB4.out.ext HE1.out).ext hW').frozen 3, (HB6.out.ext hW').frozen 0, (HB6.out.ext hW').frozen 1, (HB6.out.ext hW').frozen 2, (HB6.out.ext hW').frozen 3, ((HB1.out.ext HE1.out).ext hW').lt, ((HB2.out.ext HE1.out).ext hW').lt, ((HB4.out.ext HE1.out).ext hW').lt, (HB6.out.ext hW').lt⟩))
 rw [← hW1]; clear hW1; have HTX := Lib.hid (fun (W' : World) (hW' : Ext W1 W') => l7Txn_any B t _ _ W' (HBR.out.ext (HE1.out.trans' hW')) (HTR.out.ext (HE1.out.trans' hW')) HL.out HLT.out)
 obtain ⟨xb, hxb⟩ : ∃ xb, xb = txnB B t := ⟨_, rfl⟩
 obtain ⟨cb, hcb⟩ : ∃ cb, cb = clashB B t := ⟨_, rfl⟩
 obtain ⟨dst, hto⟩ : ∃ dst, dst = doL B.given t.change := ⟨_, rfl⟩
 obtain ⟨fb, hfb⟩ : ∃ fb, fb = fineB B.rules dst := ⟨_, rfl⟩
 have HDO := Lib.hid (fun (W' : World) (hW' : Ext W1 W') => (show Calls Tryz.prog 105 #[.slice A2 B.given.length c2, .agg #[.slice X t.change.comes.length cx, .slice Y t.change.goes.length cy]] W' fun e w' => (∃ v', e = .returned v' ∧ AtomsR (From W'.heap.size) w' v' dst) ∧ Ext W' w' from by
  obtain ⟨Z2, hz2⟩ := HGV.out; rw [hto]
  exact l3Do_any B.given t.change _ _ _ W' (hz2.ext (HE1.out.trans' hW')) (HC1.out.ext (HE1.out.trans' hW')) (HC2.out.ext (HE1.out.trans' hW')) ⟨by have := HL.out.given.1; omega, HL.out.given.2⟩ ⟨by have := HLT.out.comes.1; omega, HLT.out.comes.2⟩))
 have HFI := Lib.hid (fun (W' : World) (hW' : Ext W1 W') (vt : Value) (U : Nat → Prop) (ht : AtomsR U W' vt dst) => (show Calls Tryz.prog 46 #[.slice A1 B.rules.length c1, vt] W' fun e w' => e = .returned (.bool fb) ∧ Ext W' w' from by
  obtain ⟨Z2, hz2⟩ := HRU.out; rw [hfb]
  exact l7Fine_any B.rules dst _ _ W' (hz2.ext (HE1.out.trans' hW')) ht))
 have HLC := Lib.hid (fun (W' : World) (hW' : Ext W1 W') => l7Change_any t.change _ _ W' (HC1.out.ext (HE1.out.trans' hW')) (HC2.out.ext (HE1.out.trans' hW')) ⟨by have := HLT.out.comes.1; omega, HLT.out.comes.2⟩ ⟨by have := HLT.out.goes.1; omega, HLT.out.goes.2⟩)
 have HED := Lib.hid (show endL B t = (if t.from_ < B.time - B.hist.length then (B, 6) else if xb = false then (B, 1) else if t.change.comes.length + t.change.goes.length = 0 then (B, 0) else if cb = true then (B, 4)
 else if fb = false then (B, 5) else if 100000 ≤ B.time then (B, 5) else (⟨B.rules, B.time + 1, dst, if 30 < B.hist.length + 1 then (B.hist ++ [t.change]).drop 1 else B.hist ++ [t.change]⟩, 0)) from by rw [hxb, hcb, hfb, hto]; rfl)
 rw [← hxb] at HTX; obtain ⟨f0, f1, f2, f3, f4, f5, f6, f7, f8, f9, f10, f11, f12, f13, f14, f15, f16, f17, f18, f19, f20, f21, f22, f23, f24, f25, f26⟩ := HSA.out _ (Ext.refl W1)
 by_cases h0 : t.from_ < B.time - B.hist.length
 · have HP0 := Lib.hid h0
   clear hxb hcb hto hfb; have HEQ := Lib.hid (show endL B t = (B, 6) from by rw [HED.out, if_pos (by have h := HP0.out; omega)]); clear HED
   go_wp2_with (first
    | (go_at_call 209; refine (HTX.out _ (Ext.refl _)).mono ?_; rintro e w2 ⟨rfl, hx2⟩
       have HX2 := Lib.hid hx2; clear f0 f1 f2 f3 f4 f5 f6 f7 f8 f9 f10 f11 f12 f13 f14 f15 f16 f17 f18 f19 f20 f21 f22 f23 f24 f25 f26; obtain ⟨f0, f1, f2, f3, f4, f5, f6, f7, f8, f9, f10, f11, f12, f13, f14, f15, f16, f17, f18, f19, f20, f21, f22, f23, f24, f25, f26⟩ := HSA.out _ HX2.out
       clear hx2)
    | (go_at_call 210; refine (HCL.out _ HX2.out).mono ?_; rintro e w3 ⟨rfl, hx3⟩
       have HX3 := Lib.hid (HX2.out.trans' hx3); clear f0 f1 f2 f3 f4 f5 f6 f7 f8 f9 f10 f11 f12 f13 f14 f15 f16 f17 f18 f19 f20 f21 f22 f23 f24 f25 f26; obtain ⟨f0, f1, f2, f3, f4, f5, f6, f7, f8, f9, f10, f11, f12, f13, f14, f15, f16, f17, f18, f19, f20, f21, f22, f23, f24, f25, f26⟩ := HSA.out _ HX3.out
       clear hx3)
    | (go_at_call 105; refine (HDO.out _ HX3.out).mono ?_; rintro e w4 ⟨⟨v4, rfl, hv4⟩, hx4⟩
       obtain ⟨O4, o4, rfl, _, _⟩ := SliceR.form hv4; have HX4 := Lib.hid (HX3.out.trans' hx4); have HV4 := Lib.hid (show AtomsR (fun i => W1.heap.size ≤ i ∧ i < w4.heap.size) w4 (.slice O4 dst.length o4) dst from AtomsR.sub (ListK.low (k := kAtom) hv4) (fun i h => ⟨Nat.le_trans HX3.out.size h.1, h.2⟩)); clear f0 f1 f2 f3 f4 f5 f6 f7 f8 f9 f10 f11 f12 f13 f14 f15 f16 f17 f18 f19 f20 f21 f22 f23 f24 f25 f26; obtain ⟨f0, f1, f2, f3, f4, f5, f6, f7, f8, f9, f10, f11, f12, f13, f14, f15, f16, f17, f18, f19, f20, f21, f22, f23, f24, f25, f26⟩ := HSA.out _ HX4.out
       clear hv4 hx4)
    | (go_at_call 46; refine (HFI.out _ HX4.out _ _ HV4.out).mono ?_; rintro e w5 ⟨rfl, hx5⟩
       have HX5 := Lib.hid (HX4.out.trans' hx5); have HV5 := Lib.hid (HV4.out.ext hx5); have hs45 := hx5.size; clear f0 f1 f2 f3 f4 f5 f6 f7 f8 f9 f10 f11 f12 f13 f14 f15 f16 f17 f18 f19 f20 f21 f22 f23 f24 f25 f26; obtain ⟨f0, f1, f2, f3, f4, f5, f6, f7, f8, f9, f10, f11, f12, f13, f14, f15, f16, f17, f18, f19, f20, f21, f22, f23, f24, f25, f26⟩ := HSA.out _ HX5.out
       clear hx5)
    | fail)
   refine bodyPost_ret (v := .tuple #[.agg #[.slice R1 B.rules.length r1, .int .i64 B.time, .slice R2 B.given.length r2, .slice R3 B.hist.length r3], .int .i64 6]) (by simp [results, Tryz.results149, go_sem, f0, f1, f2, f3, f4, f5, f6, f7, f8, f9, f10, f11, f12, f13, f14, f15, f16, f17, f18, f19, f20, f21, f22, f23, f24, f25, f26]) rfl ?_; rw [HEQ.out]; exact ⟨⟨_, rfl, base_out (n := w.heap.size) (g := w.heap.size + 1 + 1) (Z := fun i => W.heap.size ≤ i ∧ i < w1.heap.size) (fun i h => by have := HZW.out; omega) (HRZ.out.ext (Ext.refl W1)) (HGZ.out.ext (Ext.refl W1)) (ListK.ext (k := kChange) HHZ.out (Ext.refl W1))⟩, Ext.setNew (Ext.setNew (Ext.setNew (Ext.setNew (HX.out.trans' (HE1.out.trans' (Ext.refl W1))) (by show w.heap.size ≤ w.heap.size + 1 + 1; omega) _) (by show w.heap.size ≤ w.heap.size + 1 + 1; omega) _) (by show w.heap.size ≤ w.heap.size + 1 + 1; omega) _) (by show w.heap.size ≤ w.heap.size + 1 + 1; omega) _⟩
 have HN0 := Lib.hid h0
 cases xb
 · clear hxb hcb hto hfb
   have HEQ := Lib.hid (show endL B t = (B, 1) from by rw [HED.out, if_neg (by have h := HN0.out; omega), if_pos rfl]); clear HED
   go_wp2_with (first
    | (go_at_call 209; refine (HTX.out _ (Ext.refl _)).mono ?_; rintro e w2 ⟨rfl, hx2⟩
       have HX2 := Lib.hid hx2; clear f0 f1 f2 f3 f4 f5 f6 f7 f8 f9 f10 f11 f12 f13 f14 f15 f16 f17 f18 f19 f20 f21 f22 f23 f24 f25 f26; obtain ⟨f0, f1, f2, f3, f4, f5, f6, f7, f8, f9, f10, f11, f12, f13, f14, f15, f16, f17, f18, f19, f20, f21, f22, f23, f24, f25, f26⟩ := HSA.out _ HX2.out
       clear hx2)
    | (go_at_call 210; refine (HCL.out _ HX2.out).mono ?_; rintro e w3 ⟨rfl, hx3⟩
       have HX3 := Lib.hid (HX2.out.trans' hx3); clear f0 f1 f2 f3 f4 f5 f6 f7 f8 f9 f10 f11 f12 f13 f14 f15 f16 f17 f18 f19 f20 f21 f22 f23 f24 f25 f26; obtain ⟨f0, f1, f2, f3, f4, f5, f6, f7, f8, f9, f10, f11, f12, f13, f14, f15, f16, f17, f18, f19, f20, f21, f22, f23, f24, f25, f26⟩ := HSA.out _ HX3.out
       clear hx3)
    | (go_at_call 105; refine (HDO.out _ HX3.out).mono ?_; rintro e w4 ⟨⟨v4, rfl, hv4⟩, hx4⟩
       obtain ⟨O4, o4, rfl, _, _⟩ := SliceR.form hv4; have HX4 := Lib.hid (HX3.out.trans' hx4); have HV4 := Lib.hid (show AtomsR (fun i => W1.heap.size ≤ i ∧ i < w4.heap.size) w4 (.slice O4 dst.length o4) dst from AtomsR.sub (ListK.low (k := kAtom) hv4) (fun i h => ⟨Nat.le_trans HX3.out.size h.1, h.2⟩)); clear f0 f1 f2 f3 f4 f5 f6 f7 f8 f9 f10 f11 f12 f13 f14 f15 f16 f17 f18 f19 f20 f21 f22 f23 f24 f25 f26; obtain ⟨f0, f1, f2, f3, f4, f5, f6, f7, f8, f9, f10, f11, f12, f13, f14, f15, f16, f17, f18, f19, f20, f21, f22, f23, f24, f25, f26⟩ := HSA.out _ HX4.out
       clear hv4 hx4)
    | (go_at_call 46; refine (HFI.out _ HX4.out _ _ HV4.out).mono ?_; rintro e w5 ⟨rfl, hx5⟩
       have HX5 := Lib.hid (HX4.out.trans' hx5); have HV5 := Lib.hid (HV4.out.ext hx5); have hs45 := hx5.size; clear f0 f1 f2 f3 f4 f5 f6 f7 f8 f9 f10 f11 f12 f13 f14 f15 f16 f17 f18 f19 f20 f21 f22 f23 f24 f25 f26; obtain ⟨f0, f1, f2, f3, f4, f5, f6, f7, f8, f9, f10, f11, f12, f13, f14, f15, f16, f17, f18, f19, f20, f21, f22, f23, f24, f25, f26⟩ := HSA.out _ HX5.out
       clear hx5)
    | fail)
   refine bodyPost_ret (v := .tuple #[.agg #[.slice R1 B.rules.length r1, .int .i64 B.time, .slice R2 B.given.length r2, .slice R3 B.hist.length r3], .int .i64 1]) (by simp [results, Tryz.results149, go_sem, f0, f1, f2, f3, f4, f5, f6, f7, f8, f9, f10, f11, f12, f13, f14, f15, f16, f17, f18, f19, f20, f21, f22, f23, f24, f25, f26]) rfl ?_; rw [HEQ.out]; exact ⟨⟨_, rfl, base_out (n := w.heap.size) (g := w.heap.size + 1 + 1) (Z := fun i => W.heap.size ≤ i ∧ i < w1.heap.size) (fun i h => by have := HZW.out; omega) (HRZ.out.ext HX2.out) (HGZ.out.ext HX2.out) (ListK.ext (k := kChange) HHZ.out HX2.out)⟩, Ext.setNew (Ext.setNew (Ext.setNew (Ext.setNew (HX.out.trans' (HE1.out.trans' HX2.out)) (by show w.heap.size ≤ w.heap.size + 1 + 1; omega) _) (by show w.heap.size ≤ w.heap.size + 1 + 1; omega) _) (by show w.heap.size ≤ w.heap.size + 1 + 1; omega) _) (by show w.heap.size ≤ w.heap.size + 1 + 1; omega) _⟩
 by_cases h1 : t.change.comes.length + t.change.goes.length = 0
 · clear hxb hcb hto hfb
   have HP1 := Lib.hid h1
   have h1i : ((t.change.comes.length : Int) + (t.change.goes.length : Int) == 0) = true := by simp; omega
   have h1j : ((t.change.comes.length : Int) + (t.change.goes.length : Int)) = 0 := by omega
   have HEQ := Lib.hid (show endL B t = (B, 0) from by rw [HED.out, if_neg (by have h := HN0.out; omega), if_neg (by decide), if_pos (by have h := HP1.out; omega)]); clear HED
   go_wp2_with (first
    | (go_at_call 209; refine (HTX.out _ (Ext.refl _)).mono ?_; rintro e w2 ⟨rfl, hx2⟩
       have HX2 := Lib.hid hx2; clear f0 f1 f2 f3 f4 f5 f6 f7 f8 f9 f10 f11 f12 f13 f14 f15 f16 f17 f18 f19 f20 f21 f22 f23 f24 f25 f26; obtain ⟨f0, f1, f2, f3, f4, f5, f6, f7, f8, f9, f10, f11, f12, f13, f14, f15, f16, f17, f18, f19, f20, f21, f22, f23, f24, f25, f26⟩ := HSA.out _ HX2.out
       clear hx2)
    | (go_at_call 210; refine (HCL.out _ HX2.out).mono ?_; rintro e w3 ⟨rfl, hx3⟩
       have HX3 := Lib.hid (HX2.out.trans' hx3); clear f0 f1 f2 f3 f4 f5 f6 f7 f8 f9 f10 f11 f12 f13 f14 f15 f16 f17 f18 f19 f20 f21 f22 f23 f24 f25 f26; obtain ⟨f0, f1, f2, f3, f4, f5, f6, f7, f8, f9, f10, f11, f12, f13, f14, f15, f16, f17, f18, f19, f20, f21, f22, f23, f24, f25, f26⟩ := HSA.out _ HX3.out
       clear hx3)
    | (go_at_call 105; refine (HDO.out _ HX3.out).mono ?_; rintro e w4 ⟨⟨v4, rfl, hv4⟩, hx4⟩
       obtain ⟨O4, o4, rfl, _, _⟩ := SliceR.form hv4; have HX4 := Lib.hid (HX3.out.trans' hx4); have HV4 := Lib.hid (show AtomsR (fun i => W1.heap.size ≤ i ∧ i < w4.heap.size) w4 (.slice O4 dst.length o4) dst from AtomsR.sub (ListK.low (k := kAtom) hv4) (fun i h => ⟨Nat.le_trans HX3.out.size h.1, h.2⟩)); clear f0 f1 f2 f3 f4 f5 f6 f7 f8 f9 f10 f11 f12 f13 f14 f15 f16 f17 f18 f19 f20 f21 f22 f23 f24 f25 f26; obtain ⟨f0, f1, f2, f3, f4, f5, f6, f7, f8, f9, f10, f11, f12, f13, f14, f15, f16, f17, f18, f19, f20, f21, f22, f23, f24, f25, f26⟩ := HSA.out _ HX4.out
       clear hv4 hx4)
    | (go_at_call 46; refine (HFI.out _ HX4.out _ _ HV4.out).mono ?_; rintro e w5 ⟨rfl, hx5⟩
       have HX5 := Lib.hid (HX4.out.trans' hx5); have HV5 := Lib.hid (HV4.out.ext hx5); have hs45 := hx5.size; clear f0 f1 f2 f3 f4 f5 f6 f7 f8 f9 f10 f11 f12 f13 f14 f15 f16 f17 f18 f19 f20 f21 f22 f23 f24 f25 f26; obtain ⟨f0, f1, f2, f3, f4, f5, f6, f7, f8, f9, f10, f11, f12, f13, f14, f15, f16, f17, f18, f19, f20, f21, f22, f23, f24, f25, f26⟩ := HSA.out _ HX5.out
       clear hx5)
    | fail)
   refine bodyPost_ret (v := .tuple #[.agg #[.slice R1 B.rules.length r1, .int .i64 B.time, .slice R2 B.given.length r2, .slice R3 B.hist.length r3], .int .i64 0]) (by simp [results, Tryz.results149, go_sem, f0, f1, f2, f3, f4, f5, f6, f7, f8, f9, f10, f11, f12, f13, f14, f15, f16, f17, f18, f19, f20, f21, f22, f23, f24, f25, f26]) rfl ?_; rw [HEQ.out]; exact ⟨⟨_, rfl, base_out (n := w.heap.size) (g := w.heap.size + 1 + 1) (Z := fun i => W.heap.size ≤ i ∧ i < w1.heap.size) (fun i h => by have := HZW.out; omega) (HRZ.out.ext HX2.out) (HGZ.out.ext HX2.out) (ListK.ext (k := kChange) HHZ.out HX2.out)⟩, Ext.setNew (Ext.setNew (Ext.setNew (Ext.setNew (HX.out.trans' (HE1.out.trans' HX2.out)) (by show w.heap.size ≤ w.heap.size + 1 + 1; omega) _) (by show w.heap.size ≤ w.heap.size + 1 + 1; omega) _) (by show w.heap.size ≤ w.heap.size + 1 + 1; omega) _) (by show w.heap.size ≤ w.heap.size + 1 + 1; omega) _⟩
 have HN1 := Lib.hid h1
 have h1i : ((t.change.comes.length : Int) + (t.change.goes.length : Int) == 0) = false := by simp; omega
 have h1j : ¬ ((t.change.comes.length : Int) + (t.change.goes.length : Int)) = 0 := by omega
 have HCL := Lib.hid (fun (W' : World) (hW' : Ext W1 W') => l7Clash_any B t _ _ W' (HBR.out.ext (HE1.out.trans' hW')) (HTR.out.ext (HE1.out.trans' hW')) HL.out HLT.out (by omega)); rw [← hcb] at HCL; clear hxb hcb hto hfb
 cases cb
 · cases fb
   · skip
     have HEQ := Lib.hid (show endL B t = (B, 5) from by rw [HED.out, if_neg (by have h := HN0.out; omega), if_neg (by decide), if_neg (by have h := HN1.out; omega), if_neg (by decide), if_pos rfl]); clear HED
     go_wp2_with (first
      | (go_at_call 209; refine (HTX.out _ (Ext.refl _)).mono ?_; rintro e w2 ⟨rfl, hx2⟩
         have HX2 := Lib.hid hx2; clear f0 f1 f2 f3 f4 f5 f6 f7 f8 f9 f10 f11 f12 f13 f14 f15 f16 f17 f18 f19 f20 f21 f22 f23 f24 f25 f26; obtain ⟨f0, f1, f2, f3, f4, f5, f6, f7, f8, f9, f10, f11, f12, f13, f14, f15, f16, f17, f18, f19, f20, f21, f22, f23, f24, f25, f26⟩ := HSA.out _ HX2.out
         clear hx2)
      | (go_at_call 210; refine (HCL.out _ HX2.out).mono ?_; rintro e w3 ⟨rfl, hx3⟩
         have HX3 := Lib.hid (HX2.out.trans' hx3); clear f0 f1 f2 f3 f4 f5 f6 f7 f8 f9 f10 f11 f12 f13 f14 f15 f16 f17 f18 f19 f20 f21 f22 f23 f24 f25 f26; obtain ⟨f0, f1, f2, f3, f4, f5, f6, f7, f8, f9, f10, f11, f12, f13, f14, f15, f16, f17, f18, f19, f20, f21, f22, f23, f24, f25, f26⟩ := HSA.out _ HX3.out
         clear hx3)
      | (go_at_call 105; refine (HDO.out _ HX3.out).mono ?_; rintro e w4 ⟨⟨v4, rfl, hv4⟩, hx4⟩
         obtain ⟨O4, o4, rfl, _, _⟩ := SliceR.form hv4; have HX4 := Lib.hid (HX3.out.trans' hx4); have HV4 := Lib.hid (show AtomsR (fun i => W1.heap.size ≤ i ∧ i < w4.heap.size) w4 (.slice O4 dst.length o4) dst from AtomsR.sub (ListK.low (k := kAtom) hv4) (fun i h => ⟨Nat.le_trans HX3.out.size h.1, h.2⟩)); clear f0 f1 f2 f3 f4 f5 f6 f7 f8 f9 f10 f11 f12 f13 f14 f15 f16 f17 f18 f19 f20 f21 f22 f23 f24 f25 f26; obtain ⟨f0, f1, f2, f3, f4, f5, f6, f7, f8, f9, f10, f11, f12, f13, f14, f15, f16, f17, f18, f19, f20, f21, f22, f23, f24, f25, f26⟩ := HSA.out _ HX4.out
         clear hv4 hx4)
      | (go_at_call 46; refine (HFI.out _ HX4.out _ _ HV4.out).mono ?_; rintro e w5 ⟨rfl, hx5⟩
         have HX5 := Lib.hid (HX4.out.trans' hx5); have HV5 := Lib.hid (HV4.out.ext hx5); have hs45 := hx5.size; clear f0 f1 f2 f3 f4 f5 f6 f7 f8 f9 f10 f11 f12 f13 f14 f15 f16 f17 f18 f19 f20 f21 f22 f23 f24 f25 f26; obtain ⟨f0, f1, f2, f3, f4, f5, f6, f7, f8, f9, f10, f11, f12, f13, f14, f15, f16, f17, f18, f19, f20, f21, f22, f23, f24, f25, f26⟩ := HSA.out _ HX5.out
         clear hx5)
      | fail)
     refine bodyPost_ret (v := .tuple #[.agg #[.slice R1 B.rules.length r1, .int .i64 B.time, .slice R2 B.given.length r2, .slice R3 B.hist.length r3], .int .i64 5]) (by simp [results, Tryz.results149, go_sem, f0, f1, f2, f3, f4, f5, f6, f7, f8, f9, f10, f11, f12, f13, f14, f15, f16, f17, f18, f19, f20, f21, f22, f23, f24, f25, f26]) rfl ?_; rw [HEQ.out]; exact ⟨⟨_, rfl, base_out (n := w.heap.size) (g := w.heap.size + 1 + 1) (Z := fun i => W.heap.size ≤ i ∧ i < w1.heap.size) (fun i h => by have := HZW.out; omega) (HRZ.out.ext HX5.out) (HGZ.out.ext HX5.out) (ListK.ext (k := kChange) HHZ.out HX5.out)⟩, Ext.setNew (Ext.setNew (Ext.setNew (Ext.setNew (HX.out.trans' (HE1.out.trans' HX5.out)) (by show w.heap.size ≤ w.heap.size + 1 + 1; omega) _) (by show w.heap.size ≤ w.heap.size + 1 + 1; omega) _) (by show w.heap.size ≤ w.heap.size + 1 + 1; omega) _) (by show w.heap.size ≤ w.heap.size + 1 + 1; omega) _⟩
   by_cases h2 : 100000 ≤ B.time
   · have HP2 := Lib.hid h2
     have HEQ := Lib.hid (show endL B t = (B, 5) from by rw [HED.out, if_neg (by have h := HN0.out; omega), if_neg (by decide), if_neg (by have h := HN1.out; omega), if_neg (by decide), if_neg (by decide), if_pos (by have h := HP2.out; omega)]); clear HED
     go_wp2_with (first
      | (go_at_call 209; refine (HTX.out _ (Ext.refl _)).mono ?_; rintro e w2 ⟨rfl, hx2⟩
         have HX2 := Lib.hid hx2; clear f0 f1 f2 f3 f4 f5 f6 f7 f8 f9 f10 f11 f12 f13 f14 f15 f16 f17 f18 f19 f20 f21 f22 f23 f24 f25 f26; obtain ⟨f0, f1, f2, f3, f4, f5, f6, f7, f8, f9, f10, f11, f12, f13, f14, f15, f16, f17, f18, f19, f20, f21, f22, f23, f24, f25, f26⟩ := HSA.out _ HX2.out
         clear hx2)
      | (go_at_call 210; refine (HCL.out _ HX2.out).mono ?_; rintro e w3 ⟨rfl, hx3⟩
         have HX3 := Lib.hid (HX2.out.trans' hx3); clear f0 f1 f2 f3 f4 f5 f6 f7 f8 f9 f10 f11 f12 f13 f14 f15 f16 f17 f18 f19 f20 f21 f22 f23 f24 f25 f26; obtain ⟨f0, f1, f2, f3, f4, f5, f6, f7, f8, f9, f10, f11, f12, f13, f14, f15, f16, f17, f18, f19, f20, f21, f22, f23, f24, f25, f26⟩ := HSA.out _ HX3.out
         clear hx3)
      | (go_at_call 105; refine (HDO.out _ HX3.out).mono ?_; rintro e w4 ⟨⟨v4, rfl, hv4⟩, hx4⟩
         obtain ⟨O4, o4, rfl, _, _⟩ := SliceR.form hv4; have HX4 := Lib.hid (HX3.out.trans' hx4); have HV4 := Lib.hid (show AtomsR (fun i => W1.heap.size ≤ i ∧ i < w4.heap.size) w4 (.slice O4 dst.length o4) dst from AtomsR.sub (ListK.low (k := kAtom) hv4) (fun i h => ⟨Nat.le_trans HX3.out.size h.1, h.2⟩)); clear f0 f1 f2 f3 f4 f5 f6 f7 f8 f9 f10 f11 f12 f13 f14 f15 f16 f17 f18 f19 f20 f21 f22 f23 f24 f25 f26; obtain ⟨f0, f1, f2, f3, f4, f5, f6, f7, f8, f9, f10, f11, f12, f13, f14, f15, f16, f17, f18, f19, f20, f21, f22, f23, f24, f25, f26⟩ := HSA.out _ HX4.out
         clear hv4 hx4)
      | (go_at_call 46; refine (HFI.out _ HX4.out _ _ HV4.out).mono ?_; rintro e w5 ⟨rfl, hx5⟩
         have HX5 := Lib.hid (HX4.out.trans' hx5); have HV5 := Lib.hid (HV4.out.ext hx5); have hs45 := hx5.size; clear f0 f1 f2 f3 f4 f5 f6 f7 f8 f9 f10 f11 f12 f13 f14 f15 f16 f17 f18 f19 f20 f21 f22 f23 f24 f25 f26; obtain ⟨f0, f1, f2, f3, f4, f5, f6, f7, f8, f9, f10, f11, f12, f13, f14, f15, f16, f17, f18, f19, f20, f21, f22, f23, f24, f25, f26⟩ := HSA.out _ HX5.out
         clear hx5)
      | fail)
     refine bodyPost_ret (v := .tuple #[.agg #[.slice R1 B.rules.length r1, .int .i64 B.time, .slice R2 B.given.length r2, .slice R3 B.hist.length r3], .int .i64 5]) (by simp [results, Tryz.results149, go_sem, f0, f1, f2, f3, f4, f5, f6, f7, f8, f9, f10, f11, f12, f13, f14, f15, f16, f17, f18, f19, f20, f21, f22, f23, f24, f25, f26]) rfl ?_; rw [HEQ.out]; exact ⟨⟨_, rfl, base_out (n := w.heap.size) (g := w.heap.size + 1 + 1) (Z := fun i => W.heap.size ≤ i ∧ i < w1.heap.size) (fun i h => by have := HZW.out; omega) (HRZ.out.ext HX5.out) (HGZ.out.ext HX5.out) (ListK.ext (k := kChange) HHZ.out HX5.out)⟩, Ext.setNew (Ext.setNew (Ext.setNew (Ext.setNew (HX.out.trans' (HE1.out.trans' HX5.out)) (by show w.heap.size ≤ w.heap.size + 1 + 1; omega) _) (by show w.heap.size ≤ w.heap.size + 1 + 1; omega) _) (by show w.heap.size ≤ w.heap.size + 1 + 1; omega) _) (by show w.heap.size ≤ w.heap.size + 1 + 1; omega) _⟩
   have HN2 := Lib.hid h2; have HDN := Lib.hid (show endL B t = (⟨B.rules, B.time + 1, dst, if 30 < B.hist.length + 1 then (B.hist ++ [t.change]).drop 1 else B.hist ++ [t.change]⟩, 0) from by rw [HED.out, if_neg (by have h := HN0.out; omega), if_neg (by decide), if_neg (by have h := HN1.out; omega), if_neg (by decide), if_neg (by decide), if_neg (by have h := HN2.out; omega)]); clear HED
   go_upto_region 15 with (first
    | (go_at_call 209; refine (HTX.out _ (Ext.refl _)).mono ?_; rintro e w2 ⟨rfl, hx2⟩
       have HX2 := Lib.hid hx2; clear f0 f1 f2 f3 f4 f5 f6 f7 f8 f9 f10 f11 f12 f13 f14 f15 f16 f17 f18 f19 f20 f21 f22 f23 f24 f25 f26; obtain ⟨f0, f1, f2, f3, f4, f5, f6, f7, f8, f9, f10, f11, f12, f13, f14, f15, f16, f17, f18, f19, f20, f21, f22, f23, f24, f25, f26⟩ := HSA.out _ HX2.out
       clear hx2)
    | (go_at_call 210; refine (HCL.out _ HX2.out).mono ?_; rintro e w3 ⟨rfl, hx3⟩
       have HX3 := Lib.hid (HX2.out.trans' hx3); clear f0 f1 f2 f3 f4 f5 f6 f7 f8 f9 f10 f11 f12 f13 f14 f15 f16 f17 f18 f19 f20 f21 f22 f23 f24 f25 f26; obtain ⟨f0, f1, f2, f3, f4, f5, f6, f7, f8, f9, f10, f11, f12, f13, f14, f15, f16, f17, f18, f19, f20, f21, f22, f23, f24, f25, f26⟩ := HSA.out _ HX3.out
       clear hx3)
    | (go_at_call 105; refine (HDO.out _ HX3.out).mono ?_; rintro e w4 ⟨⟨v4, rfl, hv4⟩, hx4⟩
       obtain ⟨O4, o4, rfl, _, _⟩ := SliceR.form hv4; have HX4 := Lib.hid (HX3.out.trans' hx4); have HV4 := Lib.hid (show AtomsR (fun i => W1.heap.size ≤ i ∧ i < w4.heap.size) w4 (.slice O4 dst.length o4) dst from AtomsR.sub (ListK.low (k := kAtom) hv4) (fun i h => ⟨Nat.le_trans HX3.out.size h.1, h.2⟩)); clear f0 f1 f2 f3 f4 f5 f6 f7 f8 f9 f10 f11 f12 f13 f14 f15 f16 f17 f18 f19 f20 f21 f22 f23 f24 f25 f26; obtain ⟨f0, f1, f2, f3, f4, f5, f6, f7, f8, f9, f10, f11, f12, f13, f14, f15, f16, f17, f18, f19, f20, f21, f22, f23, f24, f25, f26⟩ := HSA.out _ HX4.out
       clear hv4 hx4)
    | (go_at_call 46; refine (HFI.out _ HX4.out _ _ HV4.out).mono ?_; rintro e w5 ⟨rfl, hx5⟩
       have HX5 := Lib.hid (HX4.out.trans' hx5); have HV5 := Lib.hid (HV4.out.ext hx5); have hs45 := hx5.size; clear f0 f1 f2 f3 f4 f5 f6 f7 f8 f9 f10 f11 f12 f13 f14 f15 f16 f17 f18 f19 f20 f21 f22 f23 f24 f25 f26; obtain ⟨f0, f1, f2, f3, f4, f5, f6, f7, f8, f9, f10, f11, f12, f13, f14, f15, f16, f17, f18, f19, f20, f21, f22, f23, f24, f25, f26⟩ := HSA.out _ HX5.out
       clear hx5)
    | fail)
   obtain ⟨w6, hw6⟩ : ∃ w6, w6 = (w5.setCell ⟨w1.heap.size, 2, none⟩ (.slice O4 dst.length o4)).setCell ⟨w1.heap.size, 1, none⟩ (.int .i64 (B.time + 1)) := ⟨_, rfl⟩
   have HB7 := Lib.hid (show Blk w6 w1.heap.size 45 #[.slice R1 B.rules.length r1, .int .i64 (B.time + 1), .slice O4 dst.length o4, .slice R3 B.hist.length r3] from by rw [hw6]; simpa using ((HB6.out.ext HX5.out).set_ 2 (.slice O4 dst.length o4)).set_ 1 (.int .i64 (B.time + 1))); have HX6 := Lib.hid (show Ext w1 w6 from by rw [hw6]; exact Ext.setNew (Ext.setNew (HE1'.out.trans' HX5.out) (Nat.le_refl w1.heap.size) _) (Nat.le_refl w1.heap.size) _)
   have hs56 : w6.heap.size = w5.heap.size := by rw [hw6]; simp [World.setCell]
   have hAg : ∀ (Z : Nat → Prop), (∀ i, Z i → i ≠ w1.heap.size) → Agree Z w5 w6 := fun Z hz => by rw [hw6]; exact ((Agree.refl _ _).setCell (fun h => hz _ h rfl) _).setCell (fun h => hz _ h rfl) _
   have hW1s := HE1'.out.size; have hW1n : W1.heap.size = w1.heap.size + 1 := HW1S.out; have HV6 := Lib.hid (show AtomsR (fun i => W1.heap.size ≤ i ∧ i < w4.heap.size) w6 (.slice O4 dst.length o4) dst from HV5.out.imp (fun _ h => h) (hAg _ (fun i h => by omega)) (by omega)); have HR6 := Lib.hid (show RulesR (fun i => W.heap.size ≤ i ∧ i < w1.heap.size) w6 (.slice R1 B.rules.length r1) B.rules from (HRZ.out.ext HX5.out).impL (fun _ h _ => h) (hAg _ (fun i h => by omega)) (by omega))
   have HH6 := Lib.hid (show OwnK kChange n1 32 (fun i => From n1 i ∧ i ≠ w1.heap.size) w6 (.slice R3 B.hist.length r3) B.hist from by
    have h := HC.out.hist; have hat := h.at_; have h1 : OwnK kChange n1 32 (fun i => From n1 i ∧ i ≠ w1.heap.size) w5 (.slice R3 B.hist.length r3) B.hist := ((OwnK.low h).sub (Nat.le_refl _) (fun i h => ⟨h.1, by have := h.2; omega⟩)).ext (HE1'.out.trans' HX5.out); rw [hw6]
    exact (h1.setFar (p := ⟨w1.heap.size, 2, none⟩) (fun g hg e => by have := (hat g hg).2; have e : g = w1.heap.size := e; omega) (fun h => h.2 rfl) _).setFar (p := ⟨w1.heap.size, 1, none⟩) (fun g hg e => by have := (hat g hg).2; have e : g = w1.heap.size := e; omega) (fun h => h.2 rfl) _)
   have HLC6 := Lib.hid (fun (W' : World) (hW' : Ext w6 W') => l7Change_any t.change _ _ W' (HC1.out.ext (HX1.out.trans' (HX6.out.trans' hW'))) (HC2.out.ext (HX1.out.trans' (HX6.out.trans' hW'))) ⟨by have := HLT.out.comes.1; omega, HLT.out.comes.2⟩ ⟨by have := HLT.out.goes.1; omega, HLT.out.goes.2⟩)
   have HT6 := Lib.hid (fun (W' : World) (hW' : Ext w6 W') => (show W'.cell? ⟨w.heap.size + 1, 1, none⟩ = some (.slice X t.change.comes.length cx) ∧ W'.cell? ⟨w.heap.size + 1, 2, none⟩ = some (.slice Y t.change.goes.length cy) from
    ⟨(HB2.out.ext (HX1.out.trans' (HX6.out.trans' hW'))).cell 1, (HB2.out.ext (HX1.out.trans' (HX6.out.trans' hW'))).cell 2⟩))
   obtain ⟨i0, hi0, hz0, hz1, hz2⟩ := info_parts change_info3; have g3 := HB7.out.cell 3; have g3f := HB7.out.frozen 3; have gl := HB7.out.lt; have HZ6 := Lib.hid hs56; have HHB := Lib.hid hhl; have HHL := Lib.hid (show ∀ j, (Value.slice R3 B.hist.length r3).ownBlock = some j → j < w1.heap.size from fun j hj => (HC.out.hist.at_ j hj).2); rw [← hw6]; clear hw6 hAg hs56 f0 f1 f2 f3 f4 f5 f6 f7 f8 f9 f10 f11 f12 f13 f14 f15 f16 f17 f18 f19 f20 f21 f22 f23 f24 f25 f26
   go_cut [72] (fun s wx => ∃ (A8 : Option Addr) (n8 c8 : Nat), s = .slice A8 n8 c8 ∧ Hid (n8 = (B.hist ++ [t.change]).length) ∧ n8 ≤ c8 ∧ c8 ≤ 9223372036854775807 ∧ Hid (Blk wx w1.heap.size 45 #[.slice R1 B.rules.length r1, .int .i64 (B.time + 1), .slice O4 dst.length o4, .slice A8 n8 c8]) ∧
    Hid (OwnK kChange n1 32 (fun i => From n1 i ∧ i ≠ w1.heap.size) wx (.slice A8 n8 c8) (B.hist ++ [t.change])) ∧ Hid (Ext W wx) ∧ Hid (AtomsR (fun i => W1.heap.size ≤ i ∧ i < w4.heap.size) wx (.slice O4 dst.length o4) dst) ∧ Hid (RulesR (fun i => W.heap.size ≤ i ∧ i < w1.heap.size) wx (.slice R1 B.rules.length r1) B.rules) ∧
    Hid (∀ g, (Value.slice A8 n8 c8).ownBlock = some g → g ≠ w1.heap.size))
   case first =>
    go_wp2_with fail
    refine wp_region_noPanic ?_; refine wp_region_held_drew (S := (fun W' => W'.cell? ⟨w.heap.size + 1, 1, none⟩ = some (.slice X t.change.comes.length cx) ∧ W'.cell? ⟨w.heap.size + 1, 2, none⟩ = some (.slice Y t.change.goes.length cy))) (by kernel_rfl) ?_ (fun hHeld => ?_)
    · (try dsimp only); (first | exact HT8.out _ | exact HT7.out | exact HT6.out _ (HX7.out.alloc _) | exact HT6.out _ HX7.out | exact HT6.out _ (Ext.refl w6).drew)
    refine tk 0 (v := ?_) rfl ?_ ?_; rotate_left; ((intro w hSw; (try dsimp only at hSw); go_simp) <;> with_reducible rfl); (try simp only [Act.put, stz])
    refine tk 2 (v := ?_) rfl ?_ ?_; rotate_left; ((intro w hSw; (try dsimp only at hSw); go_simp) <;> with_reducible rfl); (try simp only [Act.put, stz])
    refine tk 3 (v := ?_) rfl ?_ ?_; rotate_left; ((intro w hSw; (try dsimp only at hSw); go_simp) <;> with_reducible rfl); (try simp only [Act.put, stz])
    refine wpAnyH_ready (rs := [1, 4]) (by kernel_rfl) (by simp) ?_; refine AllReadyH.cons (o := _) rfl (fun K hK => ?_) ?_
    · go_simp
      refine hK.out _ _ ?_ (fun hNew => ?_)
      · (try dsimp only); (first | exact HT8.out _ | exact HT7.out | exact HT6.out _ (HX7.out.alloc _) | exact HT6.out _ HX7.out | exact HT6.out _ (Ext.refl w6).drew)
      clear hK K hHeld; have hHeld := hNew; clear hNew
      try simp only [Act.put, stz]
      refine wpAnyH_ready (rs := [4]) (by kernel_rfl) (by simp) ?_; refine AllReadyH.cons (o := _) rfl (fun K hK => ?_) ?_
      · go_simp
        go_at_call 204; refine (HLC6.out _ (Ext.refl w6).drew).mono ?_; rintro e w7 ⟨⟨x3, y3, rfl, hx3', hy3'⟩, hx7⟩
        obtain ⟨O1, o1, rfl, _, _⟩ := SliceR.form hx3'; obtain ⟨O2, o2, rfl, _, _⟩ := SliceR.form hy3'; have HX7 := Lib.hid (show Ext w6 w7 from (Ext.refl w6).drew.trans' hx7); have HO1 := Lib.hid (show AtomsR (From w6.heap.size) w7 (.slice O1 t.change.comes.length o1) t.change.comes from hx3'); have HO2 := Lib.hid (show AtomsR (From w6.heap.size) w7 (.slice O2 t.change.goes.length o2) t.change.goes from hy3'); have HB8 := Lib.hid (HB7.out.ext HX7.out); have z3 := HB8.out.cell 3; have zl := HB8.out.lt; have hs67 := HX7.out.size; clear hx3' hy3' hx7; refine hK.out _ _ ?_ (fun hNew => ?_)
        · (try dsimp only); (first | exact HT8.out _ | exact HT7.out | exact HT6.out _ (HX7.out.alloc _) | exact HT6.out _ HX7.out | exact HT6.out _ (Ext.refl w6).drew)
        clear hK K hHeld; have hHeld := hNew; clear hNew
        try simp only [Act.put, stz]
        refine wpAnyH_ready (rs := [5]) (by kernel_rfl) (by simp) ?_; refine AllReadyH.cons (o := _) rfl (fun K hK => ?_) ?_
        · go_simp
          refine hK.out _ _ ?_ (fun hNew => ?_)
          · (try dsimp only); (first | exact HT8.out _ | exact HT7.out | exact HT6.out _ (HX7.out.alloc _) | exact HT6.out _ HX7.out | exact HT6.out _ (Ext.refl w6).drew)
          clear hK K hHeld; have hHeld := hNew; clear hNew
          try simp only [Act.put, stz]
          refine wpAnyH_ready (rs := [6]) (by kernel_rfl) (by simp) ?_; refine AllReadyH.cons (o := _) rfl (fun K hK => ?_) ?_
          · refine step_appK (o := ⟨some 72, _, _, _, _, _⟩) (k := kChange) (S := fun i => From n1 i ∧ i ≠ w1.heap.size) (T := From w6.heap.size) (base := n1) (xs := B.hist) (ys := [t.change]) (by rfl) (.tmp 67) (.tmp 71) 24 (by rfl) i0 _ 48 Tryz.underlying24 hi0 hz0 hz1 hz2 (by rfl) (by rfl) ((HH6.out.ext HX7.out).alloc _) _ 1 1 (by rfl) (ElemsK.one (k := kChange) (x := t.change) (l := [.slice O1 t.change.comes.length o1, .slice O2 t.change.goes.length o2]) (Blk.new _ _ _) ⟨_, _, rfl, HO1.out.ext ((Ext.refl _).alloc _), HO2.out.ext ((Ext.refl _).alloc _)⟩) (fun b hb _ => by have hb : w6.heap.size ≤ b := hb; exact ⟨by show n1 ≤ b; omega, by omega⟩) (fun g' hg' hT => by have hT : w6.heap.size ≤ g' := hT; have := HHL.out g' hg'; omega) (maxOf (by have := HHB.out; omega)) (by have := HHB.out; omega) (by go_size) ?_
            intro v8 w8 hap; obtain ⟨A8, n8, c8, rfl, hn8, h81, h82⟩ := hap.own.form2; have HAP := Lib.hid hap; have HQ8 := Lib.hid (show Blk w8 w1.heap.size 45 #[.slice R1 B.rules.length r1, .int .i64 (B.time + 1), .slice O4 dst.length o4, .slice R3 B.hist.length r3] from (hap.grown.block w1.heap.size (by go_size) (fun e => absurd (HHL.out _ e.symm) (Nat.lt_irrefl _))).trans (HB8.out.alloc _)); have x0 := HQ8.out.cell 0; have x1 := HQ8.out.cell 1; have x2 := HQ8.out.cell 2; have x3' := HQ8.out.cell 3; have xf := HQ8.out.frozen 3; have xl := HQ8.out.lt; have HX8 := Lib.hid (show Ext W w8 from hap.toExt (w0 := W) ((HX1.out.trans' (HX6.out.trans' HX7.out)).alloc _) hn1.1)
            have HT7 := Lib.hid (show w8.cell? ⟨w.heap.size + 1, 1, none⟩ = some (.slice X t.change.comes.length cx) ∧ w8.cell? ⟨w.heap.size + 1, 2, none⟩ = some (.slice Y t.change.goes.length cy) from
             ⟨(HB2.out.ext HX8.out).cell 1, (HB2.out.ext HX8.out).cell 2⟩)
            have HT8 := Lib.hid (fun (u : Value) => (show (w8.setCell ⟨w1.heap.size, 3, none⟩ u).cell? ⟨w.heap.size + 1, 1, none⟩ = some (.slice X t.change.comes.length cx) ∧ (w8.setCell ⟨w1.heap.size, 3, none⟩ u).cell? ⟨w.heap.size + 1, 2, none⟩ = some (.slice Y t.change.goes.length cy) from by
             have h := (HB2.out.ext HX8.out).far (p := ⟨w1.heap.size, 3, none⟩) (by have := HZW.out; show w.heap.size + 1 ≠ w1.heap.size; omega) u
             exact ⟨h.cell 1, h.cell 2⟩))
            clear hap; refine hK.out _ _ ?_ (fun hNew => ?_)
            · (try dsimp only); (first | exact HT8.out _ | exact HT7.out | exact HT6.out _ (HX7.out.alloc _) | exact HT6.out _ HX7.out | exact HT6.out _ (Ext.refl w6).drew)
            clear hK K hHeld; have hHeld := hNew; clear hNew
            try simp only [Act.put, stz]
            refine tk 7 (v := ?_) rfl ?_ ?_; rotate_left; ((intro w hSw; (try dsimp only at hSw); go_simp) <;> with_reducible rfl); (try simp only [Act.put, stz])
            refine wpAnyH_ready (rs := [8]) (by kernel_rfl) (by simp) ?_; refine AllReadyH.cons (o := _) rfl (fun K hK => ?_) ?_
            · go_simp
              refine hK.out _ _ ?_ (fun hNew => ?_)
              · (try dsimp only); (first | exact HT8.out _ | exact HT7.out | exact HT6.out _ (HX7.out.alloc _) | exact HT6.out _ HX7.out | exact HT6.out _ (Ext.refl w6).drew)
              clear hK K hHeld; have hHeld := hNew; clear hNew
              try simp only [Act.put, stz]
              refine wpAnyH_done (by kernel_rfl) ?_ _; refine NoPanic.normal ?_
              go_wp2_with fail
              obtain ⟨w9, hw9⟩ : ∃ w9, w9 = w8.setCell ⟨w1.heap.size, 3, none⟩ (.slice A8 n8 c8) := ⟨_, rfl⟩
              have HB9 := Lib.hid (show Blk w9 w1.heap.size 45 #[.slice R1 B.rules.length r1, .int .i64 (B.time + 1), .slice O4 dst.length o4, .slice A8 n8 c8] from by rw [hw9]; simpa using HQ8.out.set_ 3 (.slice A8 n8 c8))
              have hown : ∀ g, (Value.slice A8 n8 c8).ownBlock = some g → g ≠ w1.heap.size := fun g hg e => by
               rcases HAP.out.at_ with h | h
               · rw [h] at hg; have := HHL.out g hg; omega
               rw [h] at hg; injection hg with hg; have : w7.heap.size < g := by rw [← hg]; go_size
               have := HX6.out.size; omega
              have HH9 := Lib.hid (show OwnK kChange n1 32 (fun i => From n1 i ∧ i ≠ w1.heap.size) w9 (.slice A8 n8 c8) (B.hist ++ [t.change]) from by rw [hw9]; exact HAP.out.own.setFar (p := ⟨w1.heap.size, 3, none⟩) hown (fun h => h.2 rfl) _); have HX9 := Lib.hid (show Ext W w9 from by rw [hw9]; exact Ext.setNew HX8.out hs01 _); have hs16 := HX6.out.size
              have HV9 := Lib.hid (show AtomsR (fun i => W1.heap.size ≤ i ∧ i < w4.heap.size) w9 (.slice O4 dst.length o4) dst from by
               have h1 := (HV6.out.ext HX7.out).ext ((Ext.refl w7).alloc (.cells #[.slice O1 t.change.comes.length o1, .slice O2 t.change.goes.length o2] 32)); have h2 := h1.imp (fun _ h => h) (show Agree (fun i => W1.heap.size ≤ i ∧ i < w4.heap.size) _ w8 from fun b hb hlt => HAP.out.grown.block b hlt (fun e => by have := HHL.out b e.symm; omega)) HAP.out.grown.size; rw [hw9]
               exact h2.imp (fun _ h => h) ((Agree.refl _ _).setCell (fun h => by have h : W1.heap.size ≤ w1.heap.size := h.1; omega) _) (by simp [World.setCell]))
              have HR9 := Lib.hid (show RulesR (fun i => W.heap.size ≤ i ∧ i < w1.heap.size) w9 (.slice R1 B.rules.length r1) B.rules from by
               have hlow := HC.out.low; have h1 := (HC.out.rules.ext (HX6.out.trans' HX7.out)).ext ((Ext.refl w7).alloc (.cells #[.slice O1 t.change.comes.length o1, .slice O2 t.change.goes.length o2] 32)); have h2 : RulesR Z w8 _ B.rules := h1.impL (fun _ h _ => h) (fun b hb hlt => HAP.out.below.block b (hlow b hb).2.1) HAP.out.grown.size; rw [hw9]
               exact h2.impL (fun i h _ => ⟨(hlow i h).1, Nat.lt_of_lt_of_le (hlow i h).2.1 hn1.2⟩) ((Agree.refl _ _).setCell (fun h => by have h : w1.heap.size < n1 := (hlow _ h).2.1; omega) _) (by simp [World.setCell]))
              rw [← hw9]
              go_meet
              exact ⟨_, _, _, rfl, hn8, h81, h82, HB9, HH9, HX9, HV9, HR9, Lib.hid hown⟩
            exact AllReadyH.nil
          exact AllReadyH.nil
        exact AllReadyH.nil
      exact AllReadyH.nil
    refine AllReadyH.cons (o := _) rfl (fun K hK => ?_) ?_
    · go_simp
      go_at_call 204; refine (HLC6.out _ (Ext.refl w6).drew).mono ?_; rintro e w7 ⟨⟨x3, y3, rfl, hx3', hy3'⟩, hx7⟩
      obtain ⟨O1, o1, rfl, _, _⟩ := SliceR.form hx3'; obtain ⟨O2, o2, rfl, _, _⟩ := SliceR.form hy3'; have HX7 := Lib.hid (show Ext w6 w7 from (Ext.refl w6).drew.trans' hx7); have HO1 := Lib.hid (show AtomsR (From w6.heap.size) w7 (.slice O1 t.change.comes.length o1) t.change.comes from hx3'); have HO2 := Lib.hid (show AtomsR (From w6.heap.size) w7 (.slice O2 t.change.goes.length o2) t.change.goes from hy3'); have HB8 := Lib.hid (HB7.out.ext HX7.out); have z3 := HB8.out.cell 3; have zl := HB8.out.lt; have hs67 := HX7.out.size; clear hx3' hy3' hx7; refine hK.out _ _ ?_ (fun hNew => ?_)
      · (try dsimp only); (first | exact HT8.out _ | exact HT7.out | exact HT6.out _ (HX7.out.alloc _) | exact HT6.out _ HX7.out | exact HT6.out _ (Ext.refl w6).drew)
      clear hK K hHeld; have hHeld := hNew; clear hNew
      try simp only [Act.put, stz]
      refine wpAnyH_ready (rs := [1, 5]) (by kernel_rfl) (by simp) ?_; refine AllReadyH.cons (o := _) rfl (fun K hK => ?_) ?_
      · go_simp
        refine hK.out _ _ ?_ (fun hNew => ?_)
        · (try dsimp only); (first | exact HT8.out _ | exact HT7.out | exact HT6.out _ (HX7.out.alloc _) | exact HT6.out _ HX7.out | exact HT6.out _ (Ext.refl w6).drew)
        clear hK K hHeld; have hHeld := hNew; clear hNew
        try simp only [Act.put, stz]
        refine wpAnyH_ready (rs := [5]) (by kernel_rfl) (by simp) ?_; refine AllReadyH.cons (o := _) rfl (fun K hK => ?_) ?_
        · go_simp
          refine hK.out _ _ ?_ (fun hNew => ?_)
          · (try dsimp only); (first | exact HT8.out _ | exact HT7.out | exact HT6.out _ (HX7.out.alloc _) | exact HT6.out _ HX7.out | exact HT6.out _ (Ext.refl w6).drew)
          clear hK K hHeld; have hHeld := hNew; clear hNew
          try simp only [Act.put, stz]
          refine wpAnyH_ready (rs := [6]) (by kernel_rfl) (by simp) ?_; refine AllReadyH.cons (o := _) rfl (fun K hK => ?_) ?_
          · refine step_appK (o := ⟨some 72, _, _, _, _, _⟩) (k := kChange) (S := fun i => From n1 i ∧ i ≠ w1.heap.size) (T := From w6.heap.size) (base := n1) (xs := B.hist) (ys := [t.change]) (by rfl) (.tmp 67) (.tmp 71) 24 (by rfl) i0 _ 48 Tryz.underlying24 hi0 hz0 hz1 hz2 (by rfl) (by rfl) ((HH6.out.ext HX7.out).alloc _) _ 1 1 (by rfl) (ElemsK.one (k := kChange) (x := t.change) (l := [.slice O1 t.change.comes.length o1, .slice O2 t.change.goes.length o2]) (Blk.new _ _ _) ⟨_, _, rfl, HO1.out.ext ((Ext.refl _).alloc _), HO2.out.ext ((Ext.refl _).alloc _)⟩) (fun b hb _ => by have hb : w6.heap.size ≤ b := hb; exact ⟨by show n1 ≤ b; omega, by omega⟩) (fun g' hg' hT => by have hT : w6.heap.size ≤ g' := hT; have := HHL.out g' hg'; omega) (maxOf (by have := HHB.out; omega)) (by have := HHB.out; omega) (by go_size) ?_
            intro v8 w8 hap; obtain ⟨A8, n8, c8, rfl, hn8, h81, h82⟩ := hap.own.form2; have HAP := Lib.hid hap; have HQ8 := Lib.hid (show Blk w8 w1.heap.size 45 #[.slice R1 B.rules.length r1, .int .i64 (B.time + 1), .slice O4 dst.length o4, .slice R3 B.hist.length r3] from (hap.grown.block w1.heap.size (by go_size) (fun e => absurd (HHL.out _ e.symm) (Nat.lt_irrefl _))).trans (HB8.out.alloc _)); have x0 := HQ8.out.cell 0; have x1 := HQ8.out.cell 1; have x2 := HQ8.out.cell 2; have x3' := HQ8.out.cell 3; have xf := HQ8.out.frozen 3; have xl := HQ8.out.lt; have HX8 := Lib.hid (show Ext W w8 from hap.toExt (w0 := W) ((HX1.out.trans' (HX6.out.trans' HX7.out)).alloc _) hn1.1)
            have HT7 := Lib.hid (show w8.cell? ⟨w.heap.size + 1, 1, none⟩ = some (.slice X t.change.comes.length cx) ∧ w8.cell? ⟨w.heap.size + 1, 2, none⟩ = some (.slice Y t.change.goes.length cy) from
             ⟨(HB2.out.ext HX8.out).cell 1, (HB2.out.ext HX8.out).cell 2⟩)
            have HT8 := Lib.hid (fun (u : Value) => (show (w8.setCell ⟨w1.heap.size, 3, none⟩ u).cell? ⟨w.heap.size + 1, 1, none⟩ = some (.slice X t.change.comes.length cx) ∧ (w8.setCell ⟨w1.heap.size, 3, none⟩ u).cell? ⟨w.heap.size + 1, 2, none⟩ = some (.slice Y t.change.goes.length cy) from by
             have h := (HB2.out.ext HX8.out).far (p := ⟨w1.heap.size, 3, none⟩) (by have := HZW.out; show w.heap.size + 1 ≠ w1.heap.size; omega) u
             exact ⟨h.cell 1, h.cell 2⟩))
            clear hap; refine hK.out _ _ ?_ (fun hNew => ?_)
            · (try dsimp only); (first | exact HT8.out _ | exact HT7.out | exact HT6.out _ (HX7.out.alloc _) | exact HT6.out _ HX7.out | exact HT6.out _ (Ext.refl w6).drew)
            clear hK K hHeld; have hHeld := hNew; clear hNew
            try simp only [Act.put, stz]
            refine tk 7 (v := ?_) rfl ?_ ?_; rotate_left; ((intro w hSw; (try dsimp only at hSw); go_simp) <;> with_reducible rfl); (try simp only [Act.put, stz])
            refine wpAnyH_ready (rs := [8]) (by kernel_rfl) (by simp) ?_; refine AllReadyH.cons (o := _) rfl (fun K hK => ?_) ?_
            · go_simp
              refine hK.out _ _ ?_ (fun hNew => ?_)
              · (try dsimp only); (first | exact HT8.out _ | exact HT7.out | exact HT6.out _ (HX7.out.alloc _) | exact HT6.out _ HX7.out | exact HT6.out _ (Ext.refl w6).drew)
              clear hK K hHeld; have hHeld := hNew; clear hNew
              try simp only [Act.put, stz]
              refine wpAnyH_done (by kernel_rfl) ?_ _; refine NoPanic.normal ?_
              go_wp2_with fail
              obtain ⟨w9, hw9⟩ : ∃ w9, w9 = w8.setCell ⟨w1.heap.size, 3, none⟩ (.slice A8 n8 c8) := ⟨_, rfl⟩
              have HB9 := Lib.hid (show Blk w9 w1.heap.size 45 #[.slice R1 B.rules.length r1, .int .i64 (B.time + 1), .slice O4 dst.length o4, .slice A8 n8 c8] from by rw [hw9]; simpa using HQ8.out.set_ 3 (.slice A8 n8 c8))
              have hown : ∀ g, (Value.slice A8 n8 c8).ownBlock = some g → g ≠ w1.heap.size := fun g hg e => by
               rcases HAP.out.at_ with h | h
               · rw [h] at hg; have := HHL.out g hg; omega
               rw [h] at hg; injection hg with hg; have : w7.heap.size < g := by rw [← hg]; go_size
               have := HX6.out.size; omega
              have HH9 := Lib.hid (show OwnK kChange n1 32 (fun i => From n1 i ∧ i ≠ w1.heap.size) w9 (.slice A8 n8 c8) (B.hist ++ [t.change]) from by rw [hw9]; exact HAP.out.own.setFar (p := ⟨w1.heap.size, 3, none⟩) hown (fun h => h.2 rfl) _); have HX9 := Lib.hid (show Ext W w9 from by rw [hw9]; exact Ext.setNew HX8.out hs01 _); have hs16 := HX6.out.size
              have HV9 := Lib.hid (show AtomsR (fun i => W1.heap.size ≤ i ∧ i < w4.heap.size) w9 (.slice O4 dst.length o4) dst from by
               have h1 := (HV6.out.ext HX7.out).ext ((Ext.refl w7).alloc (.cells #[.slice O1 t.change.comes.length o1, .slice O2 t.change.goes.length o2] 32)); have h2 := h1.imp (fun _ h => h) (show Agree (fun i => W1.heap.size ≤ i ∧ i < w4.heap.size) _ w8 from fun b hb hlt => HAP.out.grown.block b hlt (fun e => by have := HHL.out b e.symm; omega)) HAP.out.grown.size; rw [hw9]
               exact h2.imp (fun _ h => h) ((Agree.refl _ _).setCell (fun h => by have h : W1.heap.size ≤ w1.heap.size := h.1; omega) _) (by simp [World.setCell]))
              have HR9 := Lib.hid (show RulesR (fun i => W.heap.size ≤ i ∧ i < w1.heap.size) w9 (.slice R1 B.rules.length r1) B.rules from by
               have hlow := HC.out.low; have h1 := (HC.out.rules.ext (HX6.out.trans' HX7.out)).ext ((Ext.refl w7).alloc (.cells #[.slice O1 t.change.comes.length o1, .slice O2 t.change.goes.length o2] 32)); have h2 : RulesR Z w8 _ B.rules := h1.impL (fun _ h _ => h) (fun b hb hlt => HAP.out.below.block b (hlow b hb).2.1) HAP.out.grown.size; rw [hw9]
               exact h2.impL (fun i h _ => ⟨(hlow i h).1, Nat.lt_of_lt_of_le (hlow i h).2.1 hn1.2⟩) ((Agree.refl _ _).setCell (fun h => by have h : w1.heap.size < n1 := (hlow _ h).2.1; omega) _) (by simp [World.setCell]))
              rw [← hw9]
              go_meet
              exact ⟨_, _, _, rfl, hn8, h81, h82, HB9, HH9, HX9, HV9, HR9, Lib.hid hown⟩
            exact AllReadyH.nil
          exact AllReadyH.nil
        exact AllReadyH.nil
      refine AllReadyH.cons (o := _) rfl (fun K hK => ?_) ?_
      · go_simp
        refine hK.out _ _ ?_ (fun hNew => ?_)
        · (try dsimp only); (first | exact HT8.out _ | exact HT7.out | exact HT6.out _ (HX7.out.alloc _) | exact HT6.out _ HX7.out | exact HT6.out _ (Ext.refl w6).drew)
        clear hK K hHeld; have hHeld := hNew; clear hNew
        try simp only [Act.put, stz]
        refine wpAnyH_ready (rs := [1]) (by kernel_rfl) (by simp) ?_; refine AllReadyH.cons (o := _) rfl (fun K hK => ?_) ?_
        · go_simp
          refine hK.out _ _ ?_ (fun hNew => ?_)
          · (try dsimp only); (first | exact HT8.out _ | exact HT7.out | exact HT6.out _ (HX7.out.alloc _) | exact HT6.out _ HX7.out | exact HT6.out _ (Ext.refl w6).drew)
          clear hK K hHeld; have hHeld := hNew; clear hNew
          try simp only [Act.put, stz]
          refine wpAnyH_ready (rs := [6]) (by kernel_rfl) (by simp) ?_; refine AllReadyH.cons (o := _) rfl (fun K hK => ?_) ?_
          · refine step_appK (o := ⟨some 72, _, _, _, _, _⟩) (k := kChange) (S := fun i => From n1 i ∧ i ≠ w1.heap.size) (T := From w6.heap.size) (base := n1) (xs := B.hist) (ys := [t.change]) (by rfl) (.tmp 67) (.tmp 71) 24 (by rfl) i0 _ 48 Tryz.underlying24 hi0 hz0 hz1 hz2 (by rfl) (by rfl) ((HH6.out.ext HX7.out).alloc _) _ 1 1 (by rfl) (ElemsK.one (k := kChange) (x := t.change) (l := [.slice O1 t.change.comes.length o1, .slice O2 t.change.goes.length o2]) (Blk.new _ _ _) ⟨_, _, rfl, HO1.out.ext ((Ext.refl _).alloc _), HO2.out.ext ((Ext.refl _).alloc _)⟩) (fun b hb _ => by have hb : w6.heap.size ≤ b := hb; exact ⟨by show n1 ≤ b; omega, by omega⟩) (fun g' hg' hT => by have hT : w6.heap.size ≤ g' := hT; have := HHL.out g' hg'; omega) (maxOf (by have := HHB.out; omega)) (by have := HHB.out; omega) (by go_size) ?_
            intro v8 w8 hap; obtain ⟨A8, n8, c8, rfl, hn8, h81, h82⟩ := hap.own.form2; have HAP := Lib.hid hap; have HQ8 := Lib.hid (show Blk w8 w1.heap.size 45 #[.slice R1 B.rules.length r1, .int .i64 (B.time + 1), .slice O4 dst.length o4, .slice R3 B.hist.length r3] from (hap.grown.block w1.heap.size (by go_size) (fun e => absurd (HHL.out _ e.symm) (Nat.lt_irrefl _))).trans (HB8.out.alloc _)); have x0 := HQ8.out.cell 0; have x1 := HQ8.out.cell 1; have x2 := HQ8.out.cell 2; have x3' := HQ8.out.cell 3; have xf := HQ8.out.frozen 3; have xl := HQ8.out.lt; have HX8 := Lib.hid (show Ext W w8 from hap.toExt (w0 := W) ((HX1.out.trans' (HX6.out.trans' HX7.out)).alloc _) hn1.1)
            have HT7 := Lib.hid (show w8.cell? ⟨w.heap.size + 1, 1, none⟩ = some (.slice X t.change.comes.length cx) ∧ w8.cell? ⟨w.heap.size + 1, 2, none⟩ = some (.slice Y t.change.goes.length cy) from
             ⟨(HB2.out.ext HX8.out).cell 1, (HB2.out.ext HX8.out).cell 2⟩)
            have HT8 := Lib.hid (fun (u : Value) => (show (w8.setCell ⟨w1.heap.size, 3, none⟩ u).cell? ⟨w.heap.size + 1, 1, none⟩ = some (.slice X t.change.comes.length cx) ∧ (w8.setCell ⟨w1.heap.size, 3, none⟩ u).cell? ⟨w.heap.size + 1, 2, none⟩ = some (.slice Y t.change.goes.length cy) from by
             have h := (HB2.out.ext HX8.out).far (p := ⟨w1.heap.size, 3, none⟩) (by have := HZW.out; show w.heap.size + 1 ≠ w1.heap.size; omega) u
             exact ⟨h.cell 1, h.cell 2⟩))
            clear hap; refine hK.out _ _ ?_ (fun hNew => ?_)
            · (try dsimp only); (first | exact HT8.out _ | exact HT7.out | exact HT6.out _ (HX7.out.alloc _) | exact HT6.out _ HX7.out | exact HT6.out _ (Ext.refl w6).drew)
            clear hK K hHeld; have hHeld := hNew; clear hNew
            try simp only [Act.put, stz]
            refine tk 7 (v := ?_) rfl ?_ ?_; rotate_left; ((intro w hSw; (try dsimp only at hSw); go_simp) <;> with_reducible rfl); (try simp only [Act.put, stz])
            refine wpAnyH_ready (rs := [8]) (by kernel_rfl) (by simp) ?_; refine AllReadyH.cons (o := _) rfl (fun K hK => ?_) ?_
            · go_simp
              refine hK.out _ _ ?_ (fun hNew => ?_)
              · (try dsimp only); (first | exact HT8.out _ | exact HT7.out | exact HT6.out _ (HX7.out.alloc _) | exact HT6.out _ HX7.out | exact HT6.out _ (Ext.refl w6).drew)
              clear hK K hHeld; have hHeld := hNew; clear hNew
              try simp only [Act.put, stz]
              refine wpAnyH_done (by kernel_rfl) ?_ _; refine NoPanic.normal ?_
              go_wp2_with fail
              obtain ⟨w9, hw9⟩ : ∃ w9, w9 = w8.setCell ⟨w1.heap.size, 3, none⟩ (.slice A8 n8 c8) := ⟨_, rfl⟩
              have HB9 := Lib.hid (show Blk w9 w1.heap.size 45 #[.slice R1 B.rules.length r1, .int .i64 (B.time + 1), .slice O4 dst.length o4, .slice A8 n8 c8] from by rw [hw9]; simpa using HQ8.out.set_ 3 (.slice A8 n8 c8))
              have hown : ∀ g, (Value.slice A8 n8 c8).ownBlock = some g → g ≠ w1.heap.size := fun g hg e => by
               rcases HAP.out.at_ with h | h
               · rw [h] at hg; have := HHL.out g hg; omega
               rw [h] at hg; injection hg with hg; have : w7.heap.size < g := by rw [← hg]; go_size
               have := HX6.out.size; omega
              have HH9 := Lib.hid (show OwnK kChange n1 32 (fun i => From n1 i ∧ i ≠ w1.heap.size) w9 (.slice A8 n8 c8) (B.hist ++ [t.change]) from by rw [hw9]; exact HAP.out.own.setFar (p := ⟨w1.heap.size, 3, none⟩) hown (fun h => h.2 rfl) _); have HX9 := Lib.hid (show Ext W w9 from by rw [hw9]; exact Ext.setNew HX8.out hs01 _); have hs16 := HX6.out.size
              have HV9 := Lib.hid (show AtomsR (fun i => W1.heap.size ≤ i ∧ i < w4.heap.size) w9 (.slice O4 dst.length o4) dst from by
               have h1 := (HV6.out.ext HX7.out).ext ((Ext.refl w7).alloc (.cells #[.slice O1 t.change.comes.length o1, .slice O2 t.change.goes.length o2] 32)); have h2 := h1.imp (fun _ h => h) (show Agree (fun i => W1.heap.size ≤ i ∧ i < w4.heap.size) _ w8 from fun b hb hlt => HAP.out.grown.block b hlt (fun e => by have := HHL.out b e.symm; omega)) HAP.out.grown.size; rw [hw9]
               exact h2.imp (fun _ h => h) ((Agree.refl _ _).setCell (fun h => by have h : W1.heap.size ≤ w1.heap.size := h.1; omega) _) (by simp [World.setCell]))
              have HR9 := Lib.hid (show RulesR (fun i => W.heap.size ≤ i ∧ i < w1.heap.size) w9 (.slice R1 B.rules.length r1) B.rules from by
               have hlow := HC.out.low; have h1 := (HC.out.rules.ext (HX6.out.trans' HX7.out)).ext ((Ext.refl w7).alloc (.cells #[.slice O1 t.change.comes.length o1, .slice O2 t.change.goes.length o2] 32)); have h2 : RulesR Z w8 _ B.rules := h1.impL (fun _ h _ => h) (fun b hb hlt => HAP.out.below.block b (hlow b hb).2.1) HAP.out.grown.size; rw [hw9]
               exact h2.impL (fun i h _ => ⟨(hlow i h).1, Nat.lt_of_lt_of_le (hlow i h).2.1 hn1.2⟩) ((Agree.refl _ _).setCell (fun h => by have h : w1.heap.size < n1 := (hlow _ h).2.1; omega) _) (by simp [World.setCell]))
              rw [← hw9]
              go_meet
              exact ⟨_, _, _, rfl, hn8, h81, h82, HB9, HH9, HX9, HV9, HR9, Lib.hid hown⟩
            exact AllReadyH.nil
          exact AllReadyH.nil
        exact AllReadyH.nil
      exact AllReadyH.nil
    exact AllReadyH.nil
   case rest =>
    rename World => w9
    obtain ⟨A8, n8, c8, rfl, hn8, h81, h82, HB9, HH9, HX9, HV9, HR9, HOW⟩ := hcut; have HB49 := Lib.hid (HB4.out.ext HX9.out); clear g3 g3f gl; have y0 := HB9.out.cell 0; have y1 := HB9.out.cell 1; have y2 := HB9.out.cell 2; have y3 := HB9.out.cell 3; have yf := HB9.out.frozen 3; have yl := HB9.out.lt; have v0 := HB49.out.cell 0; have v1 := HB49.out.cell 1; have v2 := HB49.out.cell 2; have v3 := HB49.out.cell 3; have vf0 := HB49.out.frozen 0; have vf1 := HB49.out.frozen 1; have vf2 := HB49.out.frozen 2; have vf3 := HB49.out.frozen 3; have vl := HB49.out.lt
    have hnl : n8 = B.hist.length + 1 := by rw [hn8.out, List.length_append]; rfl
    have HNL := Lib.hid hnl; clear hnl
    have hfinal : ∀ (wE : World) (hv : Value) (hist : List GC), endL B t = (⟨B.rules, B.time + 1, dst, hist⟩, 0) → Ext W wE → RulesR (fun i => W.heap.size ≤ i ∧ i < w1.heap.size) wE (.slice R1 B.rules.length r1) B.rules → AtomsR (fun i => W1.heap.size ≤ i ∧ i < w4.heap.size) wE (.slice O4 dst.length o4) dst → ChangesR (fun i => W.heap.size ≤ i) wE hv hist →
     (∃ y, (Ending.returned (.tuple #[.agg #[.slice R1 B.rules.length r1, .int .i64 (B.time + 1), .slice O4 dst.length o4, hv], .int .i64 0])) = .returned (.tuple #[y, .int .i64 (((endL B t).2 : Nat) : Int)]) ∧ BaseR (From w.heap.size) ((((wE.setCell ⟨w.heap.size + 1 + 1, 0, none⟩ (.slice R1 B.rules.length r1)).setCell ⟨w.heap.size + 1 + 1, 1, none⟩ (.int .i64 (B.time + 1))).setCell ⟨w.heap.size + 1 + 1, 2, none⟩ (.slice O4 dst.length o4)).setCell ⟨w.heap.size + 1 + 1, 3, none⟩ hv) y (endL B t).1) ∧
      Ext w ((((wE.setCell ⟨w.heap.size + 1 + 1, 0, none⟩ (.slice R1 B.rules.length r1)).setCell ⟨w.heap.size + 1 + 1, 1, none⟩ (.int .i64 (B.time + 1))).setCell ⟨w.heap.size + 1 + 1, 2, none⟩ (.slice O4 dst.length o4)).setCell ⟨w.heap.size + 1 + 1, 3, none⟩ hv) := by
     intro wE hv hist he hx hr hd hh; rw [he]; refine ⟨⟨_, rfl, base_out (B := ⟨B.rules, B.time + 1, dst, hist⟩) (n := w.heap.size) (g := w.heap.size + 1 + 1) (Z := fun i => W.heap.size ≤ i) (fun i h => by have := HZW.out; omega) (ListK.sub (k := kRule) hr (fun i h => h.1)) (AtomsR.sub hd (fun i h => by omega)) hh⟩, ?_⟩; have hx' := HX.out.trans' hx; exact Ext.setNew (Ext.setNew (Ext.setNew (Ext.setNew hx' (by show w.heap.size ≤ w.heap.size + 1 + 1; omega) _) (by show w.heap.size ≤ w.heap.size + 1 + 1; omega) _) (by show w.heap.size ≤ w.heap.size + 1 + 1; omega) _) (by show w.heap.size ≤ w.heap.size + 1 + 1; omega) _
    have HFIN := Lib.hid hfinal; clear hfinal
    by_cases h3 : 30 < n8
    · have h3i : (30 : Int) < (n8 : Int) := by omega
      have h3j : 1 ≤ n8 := by omega
      have HDE := Lib.hid (show endL B t = (⟨B.rules, B.time + 1, dst, (B.hist ++ [t.change]).drop 1⟩, 0) from by rw [HDN.out, if_pos (by have := HNL.out; omega)])
      go_upto_region 18 with fail
      obtain ⟨w10, hw10⟩ : ∃ w10, w10 = w9.setCell ⟨w1.heap.size, 3, none⟩ (.slice (Option.map (fun x : Addr => ({ block := x.block, off := x.off + 2 } : Addr)) A8) (n8 - 1) (c8 - 1)) := ⟨_, rfl⟩
      rw [← hw10]
      have hB10 : Blk w10 w1.heap.size 45 #[.slice R1 B.rules.length r1, .int .i64 (B.time + 1), .slice O4 dst.length o4, .slice (Option.map (fun x : Addr => ({ block := x.block, off := x.off + 2 } : Addr)) A8) (n8 - 1) (c8 - 1)] := by rw [hw10]; simpa using HB9.out.set_ 3 (.slice (Option.map (fun x : Addr => ({ block := x.block, off := x.off + 2 } : Addr)) A8) (n8 - 1) (c8 - 1))
      have HX10 := Lib.hid (show Ext W w10 from by rw [hw10]; exact Ext.setNew HX9.out hs01 _); have hB410 := HB4.out.ext HX10.out; have hW1n' : W1.heap.size = w1.heap.size + 1 := HW1S.out; have HV10 := Lib.hid (show AtomsR (fun i => W1.heap.size ≤ i ∧ i < w4.heap.size) w10 (.slice O4 dst.length o4) dst from by rw [hw10]; exact HV9.out.imp (fun _ h => h) ((Agree.refl _ _).setCell (fun h => by have h : W1.heap.size ≤ w1.heap.size := h.1; omega) _) (by simp [World.setCell])); have HR10 := Lib.hid (show RulesR (fun i => W.heap.size ≤ i ∧ i < w1.heap.size) w10 (.slice R1 B.rules.length r1) B.rules from by rw [hw10]; exact HR9.out.impL (fun _ h _ => h) ((Agree.refl _ _).setCell (fun h => by have h : w1.heap.size < w1.heap.size := h.2; omega) _) (by simp [World.setCell]))
      have HH10 := Lib.hid (show ChangesR (fun i => W.heap.size ≤ i) w10 (.slice (Option.map (fun x : Addr => ({ block := x.block, off := x.off + 2 } : Addr)) A8) (n8 - 1) (c8 - 1)) ((B.hist ++ [t.change]).drop 1) from by
       have h1 : OwnK kChange n1 32 (fun i => From n1 i ∧ i ≠ w1.heap.size) w10 (.slice A8 n8 c8) (B.hist ++ [t.change]) := by rw [hw10]; exact HH9.out.setFar (p := ⟨w1.heap.size, 3, none⟩) HOW.out (fun h => h.2 rfl) _
       have h2 : ChangesR (fun i => W.heap.size ≤ i) w10 (.slice A8 n8 c8) (B.hist ++ [t.change]) := h1.list (fun i h => Nat.le_trans hn1.1 h.1) (fun i h => Nat.le_trans hn1.1 h); have h3 := SliceR.drop h2 1 h3j; rw [if_neg (by omega)] at h3
       exact h3)
      have y0 := hB10.cell 0; have y1 := hB10.cell 1; have y2 := hB10.cell 2; have y3 := hB10.cell 3; have yl := hB10.lt; have v0 := hB410.cell 0; have v1 := hB410.cell 1; have v2 := hB410.cell 2; have v3 := hB410.cell 3; have vf0 := hB410.frozen 0; have vf1 := hB410.frozen 1; have vf2 := hB410.frozen 2; have vf3 := hB410.frozen 3; have vl := hB410.lt; clear hw10 hB10 hB410
      go_wp2_with fail
      refine bodyPost_ret (v := .tuple #[.agg #[.slice R1 B.rules.length r1, .int .i64 (B.time + 1), .slice O4 dst.length o4, .slice (Option.map (fun x : Addr => ({ block := x.block, off := x.off + 2 } : Addr)) A8) (n8 - 1) (c8 - 1)], .int .i64 0]) (by simp [results, Tryz.results149, go_sem, v0, v1, v2, v3, vf0, vf1, vf2, vf3, vl]) rfl ?_; exact HFIN.out _ _ _ HDE.out HX10.out HR10.out HV10.out HH10.out
    have h3i : ¬ (30 : Int) < (n8 : Int) := by omega
    have HDE := Lib.hid (show endL B t = (⟨B.rules, B.time + 1, dst, B.hist ++ [t.change]⟩, 0) from by rw [HDN.out, if_neg (by have := HNL.out; omega)])
    go_wp2_with fail
    refine bodyPost_ret (v := .tuple #[.agg #[.slice R1 B.rules.length r1, .int .i64 (B.time + 1), .slice O4 dst.length o4, .slice A8 n8 c8], .int .i64 0]) (by simp [results, Tryz.results149, go_sem, v0, v1, v2, v3, vf0, vf1, vf2, vf3, vl]) rfl ?_; exact HFIN.out _ _ _ HDE.out HX9.out HR9.out HV9.out (HH9.out.list (fun i h => Nat.le_trans hn1.1 h.1) (fun i h => Nat.le_trans hn1.1 h))
 skip
 have HEQ := Lib.hid (show endL B t = (B, 4) from by rw [HED.out, if_neg (by have h := HN0.out; omega), if_neg (by decide), if_neg (by have h := HN1.out; omega), if_pos rfl]); clear HED
 go_wp2_with (first
  | (go_at_call 209; refine (HTX.out _ (Ext.refl _)).mono ?_; rintro e w2 ⟨rfl, hx2⟩
     have HX2 := Lib.hid hx2; clear f0 f1 f2 f3 f4 f5 f6 f7 f8 f9 f10 f11 f12 f13 f14 f15 f16 f17 f18 f19 f20 f21 f22 f23 f24 f25 f26; obtain ⟨f0, f1, f2, f3, f4, f5, f6, f7, f8, f9, f10, f11, f12, f13, f14, f15, f16, f17, f18, f19, f20, f21, f22, f23, f24, f25, f26⟩ := HSA.out _ HX2.out
     clear hx2)
  | (go_at_call 210; refine (HCL.out _ HX2.out).mono ?_; rintro e w3 ⟨rfl, hx3⟩
     have HX3 := Lib.hid (HX2.out.trans' hx3); clear f0 f1 f2 f3 f4 f5 f6 f7 f8 f9 f10 f11 f12 f13 f14 f15 f16 f17 f18 f19 f20 f21 f22 f23 f24 f25 f26; obtain ⟨f0, f1, f2, f3, f4, f5, f6, f7, f8, f9, f10, f11, f12, f13, f14, f15, f16, f17, f18, f19, f20, f21, f22, f23, f24, f25, f26⟩ := HSA.out _ HX3.out
     clear hx3)
  | (go_at_call 105; refine (HDO.out _ HX3.out).mono ?_; rintro e w4 ⟨⟨v4, rfl, hv4⟩, hx4⟩
     obtain ⟨O4, o4, rfl, _, _⟩ := SliceR.form hv4; have HX4 := Lib.hid (HX3.out.trans' hx4); have HV4 := Lib.hid (show AtomsR (fun i => W1.heap.size ≤ i ∧ i < w4.heap.size) w4 (.slice O4 dst.length o4) dst from AtomsR.sub (ListK.low (k := kAtom) hv4) (fun i h => ⟨Nat.le_trans HX3.out.size h.1, h.2⟩)); clear f0 f1 f2 f3 f4 f5 f6 f7 f8 f9 f10 f11 f12 f13 f14 f15 f16 f17 f18 f19 f20 f21 f22 f23 f24 f25 f26; obtain ⟨f0, f1, f2, f3, f4, f5, f6, f7, f8, f9, f10, f11, f12, f13, f14, f15, f16, f17, f18, f19, f20, f21, f22, f23, f24, f25, f26⟩ := HSA.out _ HX4.out
     clear hv4 hx4)
  | (go_at_call 46; refine (HFI.out _ HX4.out _ _ HV4.out).mono ?_; rintro e w5 ⟨rfl, hx5⟩
     have HX5 := Lib.hid (HX4.out.trans' hx5); have HV5 := Lib.hid (HV4.out.ext hx5); have hs45 := hx5.size; clear f0 f1 f2 f3 f4 f5 f6 f7 f8 f9 f10 f11 f12 f13 f14 f15 f16 f17 f18 f19 f20 f21 f22 f23 f24 f25 f26; obtain ⟨f0, f1, f2, f3, f4, f5, f6, f7, f8, f9, f10, f11, f12, f13, f14, f15, f16, f17, f18, f19, f20, f21, f22, f23, f24, f25, f26⟩ := HSA.out _ HX5.out
     clear hx5)
  | fail)
 refine bodyPost_ret (v := .tuple #[.agg #[.slice R1 B.rules.length r1, .int .i64 B.time, .slice R2 B.given.length r2, .slice R3 B.hist.length r3], .int .i64 4]) (by simp [results, Tryz.results149, go_sem, f0, f1, f2, f3, f4, f5, f6, f7, f8, f9, f10, f11, f12, f13, f14, f15, f16, f17, f18, f19, f20, f21, f22, f23, f24, f25, f26]) rfl ?_; rw [HEQ.out]; exact ⟨⟨_, rfl, base_out (n := w.heap.size) (g := w.heap.size + 1 + 1) (Z := fun i => W.heap.size ≤ i ∧ i < w1.heap.size) (fun i h => by have := HZW.out; omega) (HRZ.out.ext HX3.out) (HGZ.out.ext HX3.out) (ListK.ext (k := kChange) HHZ.out HX3.out)⟩, Ext.setNew (Ext.setNew (Ext.setNew (Ext.setNew (HX.out.trans' (HE1.out.trans' HX3.out)) (by show w.heap.size ≤ w.heap.size + 1 + 1; omega) _) (by show w.heap.size ≤ w.heap.size + 1 + 1; omega) _) (by show w.heap.size ≤ w.heap.size + 1 + 1; omega) _) (by show w.heap.size ≤ w.heap.size + 1 + 1; omega) _⟩
end Go.Proofs.YtmihponoillihaaGreatDoor
