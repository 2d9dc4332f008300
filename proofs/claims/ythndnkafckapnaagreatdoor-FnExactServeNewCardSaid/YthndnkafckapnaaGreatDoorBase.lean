/- Bases: the walks of the laws' eqBase, markBase, heldBase. -/
import Derived.Test.YthndnkafckapnaaGreatDoorMarkR
import Derived.Test.YthndnkafckapnaaGreatDoorRules
namespace Go.Proofs.YthndnkafckapnaaGreatDoor
open Go.RowKit

structure GB where
  rules : List GR
  time : Int
  given : List GA
  hist : List GC
def BaseR (S : Nat → Prop) (w : World) (v : Value) (B : GB) : Prop := ∃ a b c : Value, v = .agg #[a, .int .i64 B.time, b, c] ∧ RulesR S w a B.rules ∧ AtomsR S w b B.given ∧ ChangesR S w c B.hist
theorem BaseR.ext {S : Nat → Prop} {w w' : World} {v : Value} {B : GB} (h : BaseR S w v B) (he : Ext w w') : BaseR S w' v B := by
  obtain ⟨a, b, c, h1, h2, h3, h4⟩ := h
  exact ⟨a, b, c, h1, h2.ext he, h3.ext he, h4.ext he⟩
theorem BaseR.form {S : Nat → Prop} {w : World} {v : Value} {B : GB} (h : BaseR S w v B) : ∃ A1 c1 A2 c2 A3 c3, v = .agg #[.slice A1 B.rules.length c1, .int .i64 B.time, .slice A2 B.given.length c2, .slice A3 B.hist.length c3] := by
  obtain ⟨a, b, c, rfl, h2, h3, h4⟩ := h
  obtain ⟨A1, c1, rfl, _⟩ := SliceR.form h2
  obtain ⟨A2, c2, rfl, _⟩ := SliceR.form h3
  obtain ⟨A3, c3, rfl, _⟩ := SliceR.form h4
  exact ⟨_, _, _, _, _, _, rfl⟩
def BaseO (S : Nat → Prop) (w : World) (v : Value) (B : GB) : Prop :=
  ∃ (a b c : Value) (S1 S2 S3 : Nat → Prop), v = .agg #[a, .int .i64 B.time, b, c] ∧ RulesO S1 w a B.rules ∧ AtomsO S2 w b B.given ∧ ChangesO S3 w c B.hist ∧ (∀ i, S1 i ∨ S2 i ∨ S3 i → S i) ∧ (∀ i, S1 i → ¬ S2 i) ∧ (∀ i, S1 i → ¬ S3 i) ∧ ∀ i, S2 i → ¬ S3 i
theorem BaseO.read {S : Nat → Prop} {w : World} {v : Value} {B : GB} (h : BaseO S w v B) : BaseR S w v B := by
  obtain ⟨a, b, c, S1, S2, S3, h1, h2, h3, h4, h5, _⟩ := h
  exact ⟨a, b, c, h1, h2.read.sub (fun i h => h5 i (.inl h)), h3.read.sub (fun i h => h5 i (.inr (.inl h))), h4.read.sub (fun i h => h5 i (.inr (.inr h)))⟩
theorem BaseO.imp {S S' : Nat → Prop} {w w' : World} {v : Value} {B : GB} (h : BaseO S w v B) (hS : ∀ b, S b → b < w.heap.size → S' b) (he : Agree S w w') (hsz : w.heap.size ≤ w'.heap.size) : BaseO S' w' v B := by
  obtain ⟨a, b, c, S1, S2, S3, h1, h2, h3, h4, h5, h6, h7, h8⟩ := h
  refine ⟨a, b, c, fun i => S1 i ∧ i < w.heap.size, fun i => S2 i ∧ i < w.heap.size, fun i => S3 i ∧ i < w.heap.size, h1, SliceO.imp h2 (fun i h k => ⟨h, k⟩) (fun i h k => he i (h5 i (.inl h)) k) hsz, SliceO.imp h3 (fun i h k => ⟨h, k⟩) (fun i h k => he i (h5 i (.inr (.inl h))) k) hsz, SliceO.imp h4 (fun i h k => ⟨h, k⟩) (fun i h k => he i (h5 i (.inr (.inr h))) k) hsz, ?_, fun i h k => h6 i h.1 k.1, fun i h k => h7 i h.1 k.1, fun i h k => h8 i h.1 k.1⟩
  rintro i (h | h | h)
  · exact hS i (h5 i (.inl h.1)) h.2
  · exact hS i (h5 i (.inr (.inl h.1))) h.2
  · exact hS i (h5 i (.inr (.inr h.1))) h.2
theorem BaseO.ext {S : Nat → Prop} {w w' : World} {v : Value} {B : GB} (h : BaseO S w v B) (he : Ext w w') : BaseO S w' v B := h.imp (fun _ h _ => h) (.of_ext he) he.size
theorem BaseO.low {S : Nat → Prop} {w : World} {v : Value} {B : GB} (h : BaseO S w v B) : BaseO (fun i => S i ∧ i < w.heap.size) w v B := h.imp (fun _ h k => ⟨h, k⟩) (.refl _ _) (Nat.le_refl _)
theorem BaseR.low {S : Nat → Prop} {w : World} {v : Value} {B : GB} (h : BaseR S w v B) : BaseR (fun i => i < w.heap.size) w v B := by
  obtain ⟨a, b, c, h1, h2, h3, h4⟩ := h
  exact ⟨a, b, c, h1, ListK.sub (k := kRule) (ListK.low (k := kRule) h2) (fun _ h => h.2), ListK.sub (k := kAtom) (ListK.low (k := kAtom) h3) (fun _ h => h.2), ListK.sub (k := kChange) (ListK.low (k := kChange) h4) (fun _ h => h.2)⟩
theorem BaseR.imp {S S' : Nat → Prop} {w w' : World} {v : Value} {B : GB} (h : BaseR S w v B) (hS : ∀ b, S b → S' b) (he : Agree S w w') (hsz : w.heap.size ≤ w'.heap.size) : BaseR S' w' v B := by
  obtain ⟨a, b, c, h1, h2, h3, h4⟩ := h
  exact ⟨a, b, c, h1, h2.imp hS he hsz, h3.imp hS he hsz, ListK.imp (k := kChange) h4 (fun b h _ => hS b h) he hsz⟩
def costB (B : GB) : Nat := costL costR B.rules + costAs B.given + costL costC B.hist
def mBase (k : Nat) (B : GB) : GB := ⟨mList mRule costR k B.rules, B.time, mAtoms (k + costL costR B.rules) B.given, mList mChange costC (k + costL costR B.rules + costAs B.given) B.hist⟩

set_option maxRecDepth 100000 in
set_option maxHeartbeats 4000000 in
theorem eqBase_same (B : GB) (v u : Value) (w : World) {S T : Nat → Prop} (hv : BaseR S w v B) (hu : BaseR T w u B) :
    Calls Tryz.prog 19 #[v, u] w fun e w' => e = .returned (.bool true) ∧ Ext w w' := by
  obtain ⟨a1, b1, c1, rfl, ha1, hb1, hc1⟩ := hv
  obtain ⟨a2, b2, c2, rfl, ha2, hb2, hc2⟩ := hu
  obtain ⟨A1, p1, rfl, hp1, hp1'⟩ := SliceR.form ha1
  obtain ⟨B1, q1, rfl, hq1, hq1'⟩ := SliceR.form hb1
  obtain ⟨C1, r1, rfl, hr1, hr1'⟩ := SliceR.form hc1
  obtain ⟨A2, p2, rfl, hp2, hp2'⟩ := SliceR.form ha2
  obtain ⟨B2, q2, rfl, hq2, hq2'⟩ := SliceR.form hb2
  obtain ⟨C2, r2, rfl, hr2, hr2'⟩ := SliceR.form hc2
  have HA1 := Lib.hid ha1
  have HB1 := Lib.hid hb1
  have HC1 := Lib.hid hc1
  have HA2 := Lib.hid ha2
  have HB2 := Lib.hid hb2
  have HC2 := Lib.hid hc2
  clear ha1 hb1 hc1 ha2 hb2 hc2
  go_enter Tryz.func19, Tryz.ntmps19
  go_wp2_with (first
    | (go_at_call 20; refine (eqRuleS_same _ _ B.rules _ (HA1.out.ext (((Ext.refl _).alloc _).alloc _)) (HA2.out.ext (((Ext.refl _).alloc _).alloc _))).mono ?_; rintro e w1 ⟨rfl, hx1⟩; obtain ⟨hcc, hcf⟩ := hx1.cells)
    | (go_at_call 56; refine (eqAtomS_same _ _ B.given _ (HB1.out.ext ((((Ext.refl _).alloc _).alloc _).trans' hx1)) (HB2.out.ext ((((Ext.refl _).alloc _).alloc _).trans' hx1))).mono ?_; rintro e w2 ⟨rfl, hx2⟩; have hx12 := hx1.trans' hx2; obtain ⟨hcc2, hcf2⟩ := hx12.cells)
    | (go_at_call 31; refine (eqChangeS_same _ _ B.hist _ (HC1.out.ext ((((Ext.refl _).alloc _).alloc _).trans' hx12)) (HC2.out.ext ((((Ext.refl _).alloc _).alloc _).trans' hx12))).mono ?_; rintro e w3 ⟨rfl, hx3⟩))
  go_ret
  exact ⟨rfl, ((((Ext.refl _).alloc _).alloc _).trans' hx12).trans' hx3⟩

set_option maxRecDepth 100000 in
set_option maxHeartbeats 4000000 in
theorem markBase_any (B : GB) (v : Value) (k : Nat) (w : World) {S : Nat → Prop} (hv : BaseO S w v B) (h1 : 1 ≤ k) (h2 : k + costB B ≤ 100000000) :
    Calls Tryz.prog 22 #[v, .int .i64 k] w fun e w' => (∃ q : Nat, q = k + costB B ∧ e = .returned (.int .i64 q)) ∧ BaseO S w' v (mBase k B) ∧ Inside S w w' := by
  have hlow := hv.imp (S' := fun i => S i ∧ i < w.heap.size) (fun i h k => ⟨h, k⟩) (Agree.refl _ _) (Nat.le_refl _)
  obtain ⟨a, b, c, S1, S2, S3, rfl, ha, hb, hc, hS, h12, h13, h23⟩ := hlow
  clear hv
  obtain ⟨A1, p1, rfl, hp1, hp1'⟩ := SliceO.form ha
  obtain ⟨B1, q1, rfl, hq1, hq1'⟩ := SliceO.form hb
  obtain ⟨C1, r1, rfl, hr1, hr1'⟩ := SliceO.form hc
  have hcost : k + (costL costR B.rules + costAs B.given + costL costC B.hist) ≤ 100000000 := h2
  have HBk := Lib.hid (Blk.new w 39 #[.slice A1 B.rules.length p1, .int .i64 B.time, .slice B1 B.given.length q1, .slice C1 B.hist.length r1])
  have HA := Lib.hid ha
  have HB := Lib.hid hb
  have HC := Lib.hid hc
  have HS := Lib.hid hS
  have H12 := Lib.hid h12
  have H13 := Lib.hid h13
  have H23 := Lib.hid h23
  clear ha hb hc hS h12 h13 h23 h2
  go_enter Tryz.func22, Tryz.ntmps22
  go_wp2_with (first
    | (go_at_call 21; refine (markRuleS_any (S := S1) _ B.rules k _ (SliceO.ext HA.out ((Ext.refl _).alloc _)) h1 (by omega)).mono ?_; rintro e w1 ⟨⟨q, hq, rfl⟩, hv1, hi1⟩
       have hb1 := hi1.blk HBk.out (fun h => by have := (HS.out _ (.inl h)).2; omega)
       have s0 := hb1.cell 0
       have s1 := hb1.cell 1
       have s2 := hb1.cell 2
       have s3 := hb1.cell 3
       have HV1 := Lib.hid hv1; have HI1 := Lib.hid hi1; have HQ := Lib.hid hq
       have HB1 := Lib.hid hb1
       have hq0 : 1 ≤ q := (by omega); have hq1 : q + (costAs B.given + costL costC B.hist) ≤ 100000000 := (by omega); clear hq hv1 hi1 hb1)
    | (go_at_call 61; refine (markAtomS_any (S := S2) _ B.given q _ (SliceO.imp (SliceO.ext HB.out ((Ext.refl _).alloc _)) (fun _ h _ => h) (fun i hi hlt => HI1.out.block i hlt (fun h => H12.out i h hi)) HI1.out.size) hq0 (by omega)).mono ?_; rintro e w2 ⟨⟨q2, hq2, rfl⟩, hv2, hi2⟩
       have hb2 := hi2.blk HB1.out (fun h => by have := (HS.out _ (.inr (.inl h))).2; omega)
       have r0 := hb2.cell 0
       have r1 := hb2.cell 1
       have r2 := hb2.cell 2
       have r3 := hb2.cell 3
       have HV2 := Lib.hid hv2; have HI2 := Lib.hid hi2; have HQ2 := Lib.hid hq2
       have hq3 : 1 ≤ q2 := (by omega); have hq4 : q2 + costL costC B.hist ≤ 100000000 := (by omega); clear hq2 hv2 hi2 hb2)
    | (go_at_call 32; refine (markChangeS_any (S := S3) _ B.hist q2 _ (SliceO.imp (SliceO.imp (SliceO.ext HC.out ((Ext.refl _).alloc _)) (fun _ h _ => h) (fun i hi hlt => HI1.out.block i hlt (fun h => H13.out i h hi)) HI1.out.size) (fun _ h _ => h) (fun i hi hlt => HI2.out.block i hlt (fun h => H23.out i h hi)) HI2.out.size) hq3 hq4).mono ?_; rintro e w3 ⟨⟨q3, hq3', rfl⟩, hv3, hi3⟩
       have HV3 := Lib.hid hv3; have HI3 := Lib.hid hi3; have HQ3 := Lib.hid hq3'; clear hv3 hi3 hq3'))
  go_ret
  have e1 := HQ.out
  have e2 := HQ2.out
  have e3 := HQ3.out
  have hV2 := HV2.out
  rw [e1] at hV2
  have hV3 := HV3.out
  rw [e2, e1] at hV3
  refine ⟨⟨q3, by show q3 = k + (costL costR B.rules + costAs B.given + costL costC B.hist); omega, rfl⟩, ⟨_, _, _, S1, S2, S3, rfl, ?_, ?_, hV3, fun i h => (HS.out i h).1, H12.out, H13.out, H23.out⟩, ?_⟩
  · exact SliceO.imp (SliceO.imp HV1.out (fun _ h _ => h) (fun i hi hlt => HI2.out.block i hlt (fun h => H12.out i hi h)) HI2.out.size) (fun _ h _ => h) (fun i hi hlt => HI3.out.block i hlt (fun h => H13.out i hi h)) HI3.out.size
  · exact SliceO.imp hV2 (fun _ h _ => h) (fun i hi hlt => HI3.out.block i hlt (fun h => H23.out i hi h)) HI3.out.size
  · exact (((Inside.of_ext ((Ext.refl _).alloc _)).trans' (HI1.out.sub (fun i h _ => (HS.out i (.inl h)).1))).trans' (HI2.out.sub (fun i h _ => (HS.out i (.inr (.inl h))).1))).trans' (HI3.out.sub (fun i h _ => (HS.out i (.inr (.inr h))).1))

set_option maxRecDepth 100000 in
set_option maxHeartbeats 4000000 in
theorem heldBase_any (B : GB) (v : Value) (k : Nat) (w : World) {S : Nat → Prop} (hv : BaseR S w v (mBase k B)) (h1 : 1 ≤ k) (h2 : k + costB B ≤ 100000000) :
    Calls Tryz.prog 23 #[v, .int .i64 k] w fun e w' => (∃ q : Nat, q = k + costB B ∧ e = .returned (.int .i64 q)) ∧ Ext w w' := by
  obtain ⟨a, b, c, rfl, ha, hb, hc⟩ := hv
  have ha' : RulesR S w a (mList mRule costR k B.rules) := ha
  have hb' : AtomsR S w b (mAtoms (k + costL costR B.rules) B.given) := hb
  have hc' : ChangesR S w c (mList mChange costC (k + costL costR B.rules + costAs B.given) B.hist) := hc
  clear ha hb hc
  obtain ⟨A1, p1, rfl, hp1, hp1'⟩ := SliceR.form ha'
  obtain ⟨B1, q1, rfl, hq1, hq1'⟩ := SliceR.form hb'
  obtain ⟨C1, r1, rfl, hr1, hr1'⟩ := SliceR.form hc'
  obtain ⟨n1, hn1⟩ : ∃ n, n = (mList mRule costR k B.rules).length := ⟨_, rfl⟩
  obtain ⟨n2, hn2⟩ : ∃ n, n = (mAtoms (k + costL costR B.rules) B.given).length := ⟨_, rfl⟩
  obtain ⟨n3, hn3⟩ : ∃ n, n = (mList mChange costC (k + costL costR B.rules + costAs B.given) B.hist).length := ⟨_, rfl⟩
  rw [← hn1] at ha' hp1 ⊢
  rw [← hn2] at hb' hq1 ⊢
  rw [← hn3] at hc' hr1 ⊢
  obtain ⟨tm, htm⟩ : ∃ tm, tm = (mBase k B).time := ⟨_, rfl⟩
  rw [← htm]
  have hcost : k + (costL costR B.rules + costAs B.given + costL costC B.hist) ≤ 100000000 := h2
  have HBk := Lib.hid (Blk.new w 39 #[.slice A1 n1 p1, .int .i64 tm, .slice B1 n2 q1, .slice C1 n3 r1])
  have hx0 := (Ext.refl w).alloc (.cells #[.slice A1 n1 p1, .int .i64 tm, .slice B1 n2 q1, .slice C1 n3 r1] 39)
  have HA := Lib.hid (ha'.ext hx0)
  have HB := Lib.hid (hb'.ext hx0)
  have HC := Lib.hid (hc'.ext hx0)
  clear ha' hb' hc' hn1 hn2 hn3 htm h2 hx0
  go_enter Tryz.func23, Tryz.ntmps23
  go_wp2_with (first
    | (go_at_call 62; refine (heldRuleS_any (S := S) _ B.rules k _ HA.out h1 (by omega)).mono ?_; rintro e w1 ⟨⟨q, hq, rfl⟩, hx1⟩
       have hb1 := HBk.out.ext hx1
       have s0 := hb1.cell 0
       have s1 := hb1.cell 1
       have s2 := hb1.cell 2
       have s3 := hb1.cell 3
       have HX1 := Lib.hid hx1; have HQ := Lib.hid hq
       have HB1 := Lib.hid hb1
       have hq0 : 1 ≤ q := (by omega); have hq1 : q + (costAs B.given + costL costC B.hist) ≤ 100000000 := (by omega); clear hq hx1 hb1)
    | (go_at_call 63; refine (heldAtomS_any (S := S) _ B.given q _ (by rw [HQ.out]; exact HB.out.ext HX1.out) hq0 (by omega)).mono ?_; rintro e w2 ⟨⟨q2, hq2, rfl⟩, hx2⟩
       have hb2 := HB1.out.ext hx2
       have r0 := hb2.cell 0
       have r1 := hb2.cell 1
       have r2 := hb2.cell 2
       have r3 := hb2.cell 3
       have HX2 := Lib.hid (HX1.out.trans' hx2); have HQ2 := Lib.hid hq2
       have hq3 : 1 ≤ q2 := (by omega); have hq4 : q2 + costL costC B.hist ≤ 100000000 := (by omega); clear hq2 hx2 hb2)
    | (go_at_call 33; refine (heldChangeS_any (S := S) _ B.hist q2 _ (by rw [HQ2.out, HQ.out]; exact HC.out.ext HX2.out) hq3 hq4).mono ?_; rintro e w3 ⟨⟨q3, hq3', rfl⟩, hx3⟩
       have HQ3 := Lib.hid hq3'; have hq5 : 1 ≤ q3 := (by omega); clear hq3'))
  go_ret
  exact ⟨⟨q3, by have := HQ.out; have := HQ2.out; have := HQ3.out; show q3 = k + (costL costR B.rules + costAs B.given + costL costC B.hist); omega, rfl⟩, ((Ext.refl _).alloc _).trans' (HX2.out.trans' hx3)⟩

end Go.Proofs.YthndnkafckapnaaGreatDoor
