/- A new server: the walks of the laws' eqServer, markServer, heldServer at it, and of ServeNew. -/
import Derived.Test.YthndnkafckapnaaGreatDoorBaseN
namespace Go.Proofs.YthndnkafckapnaaGreatDoor
set_option linter.unusedSimpArgs false
set_option linter.unusedVariables false
open Go.RowKit

def ServR (S : Nat → Prop) (w : World) (v : Value) (B : GB) : Prop := ∃ a b c : Value, v = .agg #[a, .int .i64 B.time, b, c, .string ⟨#[]⟩, .slice none 0 0, .slice none 0 0] ∧ BaseR S w (.agg #[a, .int .i64 B.time, b, c]) B
def ServO (S : Nat → Prop) (w : World) (v : Value) (B : GB) : Prop := ∃ a b c : Value, v = .agg #[a, .int .i64 B.time, b, c, .string ⟨#[]⟩, .slice none 0 0, .slice none 0 0] ∧ BaseO S w (.agg #[a, .int .i64 B.time, b, c]) B
theorem ServR.ext {S : Nat → Prop} {w w' : World} {v : Value} {B : GB} (h : ServR S w v B) (he : Ext w w') : ServR S w' v B := by
  obtain ⟨a, b, c, h1, h2⟩ := h; exact ⟨a, b, c, h1, h2.ext he⟩
theorem ServR.imp {S S' : Nat → Prop} {w w' : World} {v : Value} {B : GB} (h : ServR S w v B) (hS : ∀ b, S b → S' b) (he : Agree S w w') (hsz : w.heap.size ≤ w'.heap.size) : ServR S' w' v B := by
  obtain ⟨a, b, c, h1, h2⟩ := h; exact ⟨a, b, c, h1, h2.imp hS he hsz⟩
theorem ServR.low {S : Nat → Prop} {w : World} {v : Value} {B : GB} (h : ServR S w v B) : ServR (fun i => i < w.heap.size) w v B := by
  obtain ⟨a, b, c, h1, h2⟩ := h; exact ⟨a, b, c, h1, h2.low⟩
theorem ServR.form {S : Nat → Prop} {w : World} {v : Value} {B : GB} (h : ServR S w v B) : ∃ A1 c1 A2 c2 A3 c3, v = .agg #[.slice A1 B.rules.length c1, .int .i64 B.time, .slice A2 B.given.length c2, .slice A3 B.hist.length c3, .string ⟨#[]⟩, .slice none 0 0, .slice none 0 0] := by
  obtain ⟨a, b, c, rfl, h2⟩ := h
  obtain ⟨A1, c1, A2, c2, A3, c3, h3⟩ := h2.form
  injection h3 with h3
  simp only [Array.mk.injEq, List.cons.injEq, and_true] at h3
  obtain ⟨rfl, _, rfl, rfl⟩ := h3
  exact ⟨_, _, _, _, _, _, rfl⟩
theorem ServO.read {S : Nat → Prop} {w : World} {v : Value} {B : GB} (h : ServO S w v B) : ServR S w v B := by
  obtain ⟨a, b, c, h1, h2⟩ := h; exact ⟨a, b, c, h1, h2.read⟩
theorem ServO.imp {S S' : Nat → Prop} {w w' : World} {v : Value} {B : GB} (h : ServO S w v B) (hS : ∀ b, S b → b < w.heap.size → S' b) (he : Agree S w w') (hsz : w.heap.size ≤ w'.heap.size) : ServO S' w' v B := by
  obtain ⟨a, b, c, h1, h2⟩ := h; exact ⟨a, b, c, h1, h2.imp hS he hsz⟩
theorem ServO.ext {S : Nat → Prop} {w w' : World} {v : Value} {B : GB} (h : ServO S w v B) (he : Ext w w') : ServO S w' v B := h.imp (fun _ h _ => h) (.of_ext he) he.size

/-! ### Nobody has begun, nobody watches -/
theorem eqOpenS_nil (w : World) : Calls Tryz.prog 64 #[.slice none 0 0, .slice none 0 0] w fun e w' => e = .returned (.bool true) ∧ Ext w w' := by
  go_enter Tryz.func64, Tryz.ntmps64
  go_wp2
  refine wp_loop_rounds 1 ?_
  rw [rounds_succ]
  go_wp2
  go_ret
  exact ⟨rfl, Ext.refl _⟩
theorem eqWatchS_nil (w : World) : Calls Tryz.prog 65 #[.slice none 0 0, .slice none 0 0] w fun e w' => e = .returned (.bool true) ∧ Ext w w' := by
  go_enter Tryz.func65, Tryz.ntmps65
  go_wp2
  refine wp_loop_rounds 1 ?_
  rw [rounds_succ]
  go_wp2
  go_ret
  exact ⟨rfl, Ext.refl _⟩
theorem markOpenS_nil (k : Int) (w : World) : Calls Tryz.prog 66 #[.slice none 0 0, .int .i64 k] w fun e w' => e = .returned (.int .i64 k) ∧ Ext w w' := by
  go_enter Tryz.func66, Tryz.ntmps66
  go_wp2
  refine wp_loop_rounds 1 ?_
  rw [rounds_succ]
  go_wp2
  go_ret
  exact ⟨rfl, Ext.refl _⟩
theorem markWatchS_nil (k : Int) (w : World) : Calls Tryz.prog 67 #[.slice none 0 0, .int .i64 k] w fun e w' => e = .returned (.int .i64 k) ∧ Ext w w' := by
  go_enter Tryz.func67, Tryz.ntmps67
  go_wp2
  refine wp_loop_rounds 1 ?_
  rw [rounds_succ]
  go_wp2
  go_ret
  exact ⟨rfl, Ext.refl _⟩
theorem heldOpenS_nil (k : Int) (w : World) : Calls Tryz.prog 68 #[.slice none 0 0, .int .i64 k] w fun e w' => e = .returned (.int .i64 k) ∧ Ext w w' := by
  go_enter Tryz.func68, Tryz.ntmps68
  go_wp2
  refine wp_loop_rounds 1 ?_
  rw [rounds_succ]
  go_wp2
  go_ret
  exact ⟨rfl, Ext.refl _⟩
theorem heldWatchS_nil (k : Int) (w : World) : Calls Tryz.prog 69 #[.slice none 0 0, .int .i64 k] w fun e w' => e = .returned (.int .i64 k) ∧ Ext w w' := by
  go_enter Tryz.func69, Tryz.ntmps69
  go_wp2
  refine wp_loop_rounds 1 ?_
  rw [rounds_succ]
  go_wp2
  go_ret
  exact ⟨rfl, Ext.refl _⟩

set_option maxRecDepth 100000 in
set_option maxHeartbeats 4000000 in
theorem eqServer_same (B : GB) (v u : Value) (w : World) {S T : Nat → Prop} (hv : ServR S w v B) (hu : ServR T w u B) :
    Calls Tryz.prog 26 #[v, u] w fun e w' => e = .returned (.bool true) ∧ Ext w w' := by
  obtain ⟨A1, p1, A2, p2, A3, p3, rfl⟩ := hv.form
  obtain ⟨B1, q1, B2, q2, B3, q3, rfl⟩ := hu.form
  obtain ⟨_, _, _, e1, hv'⟩ := hv
  obtain ⟨_, _, _, e2, hu'⟩ := hu
  injection e1 with e1
  simp only [Array.mk.injEq, List.cons.injEq, and_true, true_and] at e1
  obtain ⟨rfl, rfl, rfl⟩ := e1
  injection e2 with e2
  simp only [Array.mk.injEq, List.cons.injEq, and_true, true_and] at e2
  obtain ⟨rfl, rfl, rfl⟩ := e2
  have HE := Lib.hid (((Ext.refl w).alloc (.cells #[.slice A1 B.rules.length p1, .int .i64 B.time, .slice A2 B.given.length p2, .slice A3 B.hist.length p3, .string ⟨#[]⟩, .slice none 0 0, .slice none 0 0] 50)).alloc (.cells #[.slice B1 B.rules.length q1, .int .i64 B.time, .slice B2 B.given.length q2, .slice B3 B.hist.length q3, .string ⟨#[]⟩, .slice none 0 0, .slice none 0 0] 50))
  have HB := Lib.hid (eqBase_same B _ _ _ (hv'.ext HE.out) (hu'.ext HE.out))
  have HK1 := Lib.hid ((Blk.new w 50 #[.slice A1 B.rules.length p1, .int .i64 B.time, .slice A2 B.given.length p2, .slice A3 B.hist.length p3, .string ⟨#[]⟩, .slice none 0 0, .slice none 0 0]).alloc (.cells #[.slice B1 B.rules.length q1, .int .i64 B.time, .slice B2 B.given.length q2, .slice B3 B.hist.length q3, .string ⟨#[]⟩, .slice none 0 0, .slice none 0 0] 50))
  have HK2 := Lib.hid (Blk.new (w.alloc (.cells #[.slice A1 B.rules.length p1, .int .i64 B.time, .slice A2 B.given.length p2, .slice A3 B.hist.length p3, .string ⟨#[]⟩, .slice none 0 0, .slice none 0 0] 50)) 50 #[.slice B1 B.rules.length q1, .int .i64 B.time, .slice B2 B.given.length q2, .slice B3 B.hist.length q3, .string ⟨#[]⟩, .slice none 0 0, .slice none 0 0])
  simp only [World.size_alloc] at HK2
  clear hv' hu'
  go_enter Tryz.func26, Tryz.ntmps26
  go_wp2_with (first
    | (go_at_call 19; refine HB.out.mono ?_; rintro e w1 ⟨rfl, hx1⟩
       have HX1 := Lib.hid (HE.out.trans' hx1)
       have HA1 := Lib.hid (HK1.out.ext hx1)
       have HB1 := Lib.hid (HK2.out.ext hx1)
       have a4 := HA1.out.cell 4
       have a5 := HA1.out.cell 5
       have b4 := HB1.out.cell 4
       have b5 := HB1.out.cell 5
       clear hx1)
    | (go_at_call 64; refine (eqOpenS_nil _).mono ?_; rintro e w2 ⟨rfl, hx2⟩
       have HX2 := Lib.hid (HX1.out.trans' hx2)
       have a6 := (HA1.out.ext hx2).cell 6
       have b6 := (HB1.out.ext hx2).cell 6
       clear hx2)
    | (go_at_call 65; refine (eqWatchS_nil _).mono ?_; rintro e w3 ⟨rfl, hx3⟩
       have HX3 := Lib.hid (HX2.out.trans' hx3)
       clear hx3))
  go_ret
  exact ⟨rfl, HX3.out⟩

set_option maxRecDepth 100000 in
set_option maxHeartbeats 4000000 in
theorem markServer_any (B : GB) (v : Value) (k : Nat) (w : World) {S : Nat → Prop} (hv : ServO S w v B) (h1 : 1 ≤ k) (h2 : k + costB B ≤ 100000000) :
    Calls Tryz.prog 27 #[v, .int .i64 k] w fun e w' => (∃ q : Nat, q = k + costB B ∧ e = .returned (.int .i64 q)) ∧ ServO S w' v (mBase k B) ∧ Inside S w w' := by
  have hlow := hv.imp (S' := fun i => S i ∧ i < w.heap.size) (fun i h k => ⟨h, k⟩) (Agree.refl _ _) (Nat.le_refl _)
  obtain ⟨A1, p1, A2, p2, A3, p3, rfl⟩ := hv.read.form
  obtain ⟨_, _, _, e1, hv'⟩ := hlow
  injection e1 with e1
  simp only [Array.mk.injEq, List.cons.injEq, and_true, true_and] at e1
  obtain ⟨rfl, rfl, rfl⟩ := e1
  have HE := Lib.hid ((Ext.refl w).alloc (.cells #[.slice A1 B.rules.length p1, .int .i64 B.time, .slice A2 B.given.length p2, .slice A3 B.hist.length p3, .string ⟨#[]⟩, .slice none 0 0, .slice none 0 0] 50))
  have HB := Lib.hid (markBase_any B _ k _ (hv'.ext HE.out) h1 h2)
  have HK1 := Lib.hid (Blk.new w 50 #[.slice A1 B.rules.length p1, .int .i64 B.time, .slice A2 B.given.length p2, .slice A3 B.hist.length p3, .string ⟨#[]⟩, .slice none 0 0, .slice none 0 0])
  clear hv' hv
  go_enter Tryz.func27, Tryz.ntmps27
  go_wp2_with (first
    | (go_at_call 22; refine HB.out.mono ?_; rintro e w1 ⟨⟨q, hq, rfl⟩, hv1, hi1⟩
       have HA1 := Lib.hid (hi1.blk HK1.out (fun h => Nat.lt_irrefl _ h.2))
       have HV1 := Lib.hid hv1
       have HI1 := Lib.hid hi1
       have HQ := Lib.hid hq
       have a5 := HA1.out.cell 5
       clear hv1 hi1 hq)
    | (go_at_call 66; refine (markOpenS_nil _ _).mono ?_; rintro e w2 ⟨rfl, hx2⟩
       have HX2 := Lib.hid hx2
       have a6 := (HA1.out.ext hx2).cell 6
       clear hx2)
    | (go_at_call 67; refine (markWatchS_nil _ _).mono ?_; rintro e w3 ⟨rfl, hx3⟩
       have HX3 := Lib.hid (HX2.out.trans' hx3)
       clear hx3))
  go_ret
  obtain ⟨a, b, c, S1, S2, S3, e1, r1, r2, r3, r4, r5, r6, r7⟩ := (HV1.out.ext HX3.out).imp (S' := S) (fun i h _ => h.1) (.refl _ _) (Nat.le_refl _)
  injection e1 with e1
  simp only [Array.mk.injEq, List.cons.injEq, and_true] at e1
  obtain ⟨rfl, et, rfl, rfl⟩ := e1
  refine ⟨⟨q, HQ.out, rfl⟩, ⟨_, _, _, by rw [et], _, _, _, S1, S2, S3, rfl, r1, r2, r3, r4, r5, r6, r7⟩, ?_⟩
  exact ((Inside.of_ext HE.out).trans' (HI1.out.sub (fun i h _ => h.1))).trans' (Inside.of_ext HX3.out)

set_option maxRecDepth 100000 in
set_option maxHeartbeats 4000000 in
theorem heldServer_any (B : GB) (v : Value) (k : Nat) (w : World) {S : Nat → Prop} (hv : ServR S w v (mBase k B)) (h1 : 1 ≤ k) (h2 : k + costB B ≤ 100000000) :
    Calls Tryz.prog 28 #[v, .int .i64 k] w fun e w' => (∃ q : Nat, q = k + costB B ∧ e = .returned (.int .i64 q)) ∧ Ext w w' := by
  obtain ⟨A1, p1, A2, p2, A3, p3, rfl⟩ := hv.form
  obtain ⟨_, _, _, e1, hv'⟩ := hv
  injection e1 with e1
  simp only [Array.mk.injEq, List.cons.injEq, and_true, true_and] at e1
  obtain ⟨rfl, rfl, rfl⟩ := e1
  obtain ⟨n1, hn1⟩ : ∃ n, n = (mBase k B).rules.length := ⟨_, rfl⟩
  obtain ⟨n2, hn2⟩ : ∃ n, n = (mBase k B).given.length := ⟨_, rfl⟩
  obtain ⟨n3, hn3⟩ : ∃ n, n = (mBase k B).hist.length := ⟨_, rfl⟩
  obtain ⟨tm, htm⟩ : ∃ tm, tm = (mBase k B).time := ⟨_, rfl⟩
  have HE := Lib.hid ((Ext.refl w).alloc (.cells #[.slice A1 n1 p1, .int .i64 tm, .slice A2 n2 p2, .slice A3 n3 p3, .string ⟨#[]⟩, .slice none 0 0, .slice none 0 0] 50))
  have HB := Lib.hid (heldBase_any B _ k _ (hv'.ext HE.out) h1 h2)
  rw [← hn1, ← hn2, ← hn3, ← htm] at HB ⊢
  have HK1 := Lib.hid (Blk.new w 50 #[.slice A1 n1 p1, .int .i64 tm, .slice A2 n2 p2, .slice A3 n3 p3, .string ⟨#[]⟩, .slice none 0 0, .slice none 0 0])
  clear hv' hn1 hn2 hn3 htm
  go_enter Tryz.func28, Tryz.ntmps28
  go_wp2_with (first
    | (go_at_call 23; refine HB.out.mono ?_; rintro e w1 ⟨⟨q, hq, rfl⟩, hx1⟩
       have HX1 := Lib.hid (HE.out.trans' hx1)
       have HA1 := Lib.hid (HK1.out.ext hx1)
       have HQ := Lib.hid hq
       have hq0 : (0 : Int) ≤ (q : Int) := (by omega)
       have a5 := HA1.out.cell 5
       clear hx1 hq)
    | (go_at_call 68; refine (heldOpenS_nil _ _).mono ?_; rintro e w2 ⟨rfl, hx2⟩
       have HX2 := Lib.hid (HX1.out.trans' hx2)
       have a6 := (HA1.out.ext hx2).cell 6
       clear hx2)
    | (go_at_call 69; refine (heldWatchS_nil _ _).mono ?_; rintro e w3 ⟨rfl, hx3⟩
       have HX3 := Lib.hid (HX2.out.trans' hx3)
       clear hx3))
  go_ret
  exact ⟨⟨q, HQ.out, rfl⟩, HX3.out⟩

set_option maxRecDepth 100000 in
set_option maxHeartbeats 4000000 in
theorem specServeNew_any (v : Value) (l : List GR) (w : World) {S : Nat → Prop} (hv : RulesR S w v l) (hw : wRules l ≤ 1048576) :
    Calls Tryz.prog 24 #[v] w fun e w' => (∃ u, e = .returned u ∧ ServR Any w' u (baseN l)) ∧ Ext w w' := by
  obtain ⟨A, c, rfl, hc1, hc2⟩ := SliceR.form hv
  have HB0 := Lib.hid (Blk.new w 50 #[.slice none 0 0, .int .i64 0, .slice none 0 0, .slice none 0 0, .string ⟨#[]⟩, .slice none 0 0, .slice none 0 0])
  have HX0 := Lib.hid ((Ext.refl w).alloc (.cells #[.slice none 0 0, .int .i64 0, .slice none 0 0, .slice none 0 0, .string ⟨#[]⟩, .slice none 0 0, .slice none 0 0] 50))
  obtain ⟨B, hB⟩ : ∃ B, B = baseN l := ⟨_, rfl⟩
  have HC := Lib.hid (specBaseNew_from _ l _ (hv.ext HX0.out) hw)
  rw [← hB] at HC ⊢
  clear hv hw hB
  go_enter Tryz.func24, Tryz.ntmps24
  go_wp2_with (first
    | (go_at_call 16; refine HC.out.mono ?_; rintro e w1 ⟨⟨u, rfl, hu⟩, hx1⟩
       have HU := Lib.hid hu
       obtain ⟨A1, c1, A2, c2, A3, c3, rfl⟩ := BaseR.form hu
       have HB1 := Lib.hid (HB0.out.ext hx1)
       have hl1 := HB1.out.lt
       have p0 := HB1.out.cell 0; have f0 := HB1.out.frozen 0
       have p1 := HB1.out.cell 1; have f1 := HB1.out.frozen 1
       have p2 := HB1.out.cell 2; have f2 := HB1.out.frozen 2
       have p3 := HB1.out.cell 3; have f3 := HB1.out.frozen 3
       have p4 := HB1.out.cell 4; have f4 := HB1.out.frozen 4
       have p5 := HB1.out.cell 5; have f5 := HB1.out.frozen 5
       have p6 := HB1.out.cell 6; have f6 := HB1.out.frozen 6
       have HLT := Lib.hid (show w.heap.size < (w.alloc (.cells #[.slice none 0 0, .int .i64 0, .slice none 0 0, .slice none 0 0, .string ⟨#[]⟩, .slice none 0 0, .slice none 0 0] 50)).heap.size by simp)
       have HX1 := Lib.hid (HX0.out.trans' hx1)
       clear hu hx1))
  refine bodyPost_ret (v := .agg #[.slice A1 B.rules.length c1, .int .i64 B.time, .slice A2 B.given.length c2, .slice A3 B.hist.length c3, .string ⟨#[]⟩, .slice none 0 0, .slice none 0 0]) (by simp [results, Tryz.results24, go_sem, p0, p1, p2, p3, p4, p5, p6]) rfl ⟨⟨_, rfl, ?_⟩, ?_⟩
  · exact ⟨_, _, _, rfl, BaseR.imp HU.out (fun _ _ => trivial) ((((((((Agree.refl _ _).set (p := ⟨w.heap.size, _, none⟩) HLT.out _).set (p := ⟨w.heap.size, _, none⟩) HLT.out _).set (p := ⟨w.heap.size, _, none⟩) HLT.out _).set (p := ⟨w.heap.size, _, none⟩) HLT.out _).set (p := ⟨w.heap.size, _, none⟩) HLT.out _).set (p := ⟨w.heap.size, _, none⟩) HLT.out _).set (p := ⟨w.heap.size, _, none⟩) HLT.out _) (by go_size)⟩
  · exact Ext.setNew (a := w) (Ext.setNew (a := w) (Ext.setNew (a := w) (Ext.setNew (a := w) (Ext.setNew (a := w) (Ext.setNew (a := w) (Ext.setNew (a := w) (HX1.out) (Nat.le_refl _) _) (Nat.le_refl _) _) (Nat.le_refl _) _) (Nat.le_refl _) _) (Nat.le_refl _) _) (Nat.le_refl _) _) (Nat.le_refl _) _

set_option maxRecDepth 100000 in
set_option maxHeartbeats 4000000 in
theorem serveNew_any (v : Value) (l : List GR) (w : World) {S : Nat → Prop} (hv : RulesR S w v l) (he : ErrIs w) (hw : wRules l ≤ 1048576) :
    Calls Tryz.prog 25 #[v] w fun e w' => (∃ u, e = .returned u ∧ ServO (From w.heap.size) w' u (baseN l)) ∧ Ext w w' := by
  obtain ⟨A, c, rfl, hc1, hc2⟩ := SliceR.form hv
  have HB0 := Lib.hid (Blk.new w 50 #[.slice none 0 0, .int .i64 0, .slice none 0 0, .slice none 0 0, .string ⟨#[]⟩, .slice none 0 0, .slice none 0 0])
  have HX0 := Lib.hid ((Ext.refl w).alloc (.cells #[.slice none 0 0, .int .i64 0, .slice none 0 0, .slice none 0 0, .string ⟨#[]⟩, .slice none 0 0, .slice none 0 0] 50))
  obtain ⟨B, hB⟩ : ∃ B, B = baseN l := ⟨_, rfl⟩
  have HC := Lib.hid (baseNew_any _ l _ (hv.ext HX0.out) (he.ext HX0.out) hw)
  rw [← hB] at HC ⊢
  clear hv he hw hB
  go_enter Tryz.func25, Tryz.ntmps25
  go_wp2_with (first
    | (go_at_call 18; refine HC.out.mono ?_; rintro e w1 ⟨⟨u, rfl, hu⟩, hx1⟩
       have HU := Lib.hid hu
       obtain ⟨A1, c1, A2, c2, A3, c3, rfl⟩ := BaseR.form (BaseO.read hu)
       have HB1 := Lib.hid (HB0.out.ext hx1)
       have hl1 := HB1.out.lt
       have p0 := HB1.out.cell 0; have f0 := HB1.out.frozen 0
       have p1 := HB1.out.cell 1; have f1 := HB1.out.frozen 1
       have p2 := HB1.out.cell 2; have f2 := HB1.out.frozen 2
       have p3 := HB1.out.cell 3; have f3 := HB1.out.frozen 3
       have p4 := HB1.out.cell 4; have f4 := HB1.out.frozen 4
       have p5 := HB1.out.cell 5; have f5 := HB1.out.frozen 5
       have p6 := HB1.out.cell 6; have f6 := HB1.out.frozen 6
       have HLT := Lib.hid (show w.heap.size < (w.alloc (.cells #[.slice none 0 0, .int .i64 0, .slice none 0 0, .slice none 0 0, .string ⟨#[]⟩, .slice none 0 0, .slice none 0 0] 50)).heap.size by simp)
       have HX1 := Lib.hid (HX0.out.trans' hx1)
       clear hu hx1))
  refine bodyPost_ret (v := .agg #[.slice A1 B.rules.length c1, .int .i64 B.time, .slice A2 B.given.length c2, .slice A3 B.hist.length c3, .string ⟨#[]⟩, .slice none 0 0, .slice none 0 0]) (by simp [results, Tryz.results25, go_sem, p0, p1, p2, p3, p4, p5, p6]) rfl ⟨⟨_, rfl, ?_⟩, ?_⟩
  · exact ⟨_, _, _, rfl, BaseO.imp HU.out (fun _ h _ => Nat.le_trans (Nat.le_of_lt HLT.out) h) ((((((((Agree.refl _ _).set (p := ⟨w.heap.size, _, none⟩) HLT.out _).set (p := ⟨w.heap.size, _, none⟩) HLT.out _).set (p := ⟨w.heap.size, _, none⟩) HLT.out _).set (p := ⟨w.heap.size, _, none⟩) HLT.out _).set (p := ⟨w.heap.size, _, none⟩) HLT.out _).set (p := ⟨w.heap.size, _, none⟩) HLT.out _).set (p := ⟨w.heap.size, _, none⟩) HLT.out _) (by go_size)⟩
  · exact Ext.setNew (a := w) (Ext.setNew (a := w) (Ext.setNew (a := w) (Ext.setNew (a := w) (Ext.setNew (a := w) (Ext.setNew (a := w) (Ext.setNew (a := w) (HX1.out) (Nat.le_refl _) _) (Nat.le_refl _) _) (Nat.le_refl _) _) (Nat.le_refl _) _) (Nat.le_refl _) _) (Nat.le_refl _) _) (Nat.le_refl _) _

end Go.Proofs.YthndnkafckapnaaGreatDoor
