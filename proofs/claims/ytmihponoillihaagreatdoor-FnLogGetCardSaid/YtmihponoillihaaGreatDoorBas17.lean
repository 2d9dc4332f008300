/- Part of the texts of a proof; what they say stands at each theorem. -/
import Derived.Test.YtmihponoillihaaGreatDoorBas16
set_option linter.unusedSimpArgs false
set_option linter.unusedVariables false
namespace Go.Proofs.YtmihponoillihaaGreatDoor
open Go.RowKit
noncomputable def addL (B : GB) (t : GX) (a : GA) : GX × Nat := if factB a && fitB B.rules [a] then (if hasA (seesL B t) a then (t, 2) else toL B t (putA (seesL B t) a)) else (t, 1)
noncomputable def goneL (B : GB) (t : GX) (a : GA) : GX × Nat := if factB a && hasA (seesL B t) a then toL B t (withoutA (seesL B t) a) else (t, 3)
theorem sees_lite {B : GB} {t : GX} (hB : LiteB B) (hT : LiteX t) : (seesL B t).length ≤ 36000 ∧ ∀ x ∈ seesL B t, wAtom x ≤ 80 := by
 have h1 := at_lite hB t.from_; refine ⟨Nat.le_trans (doL_len _ _) (by have := hT.comes.1; omega), fun x hx => ?_⟩
 rcases doL_mem hx with h | h
 · exact h1.2 x h
 exact hT.comes.2 x h
theorem withoutA_mem {xs : List GA} {a x : GA} (h : x ∈ withoutA xs a) : x ∈ xs := by
 unfold withoutA at h
 split at h
 · rcases List.mem_append.1 h with h | h
   · exact List.mem_of_mem_take h
   exact List.mem_of_mem_drop h
 exact h
theorem withoutA_len (xs : List GA) (a : GA) : (withoutA xs a).length ≤ xs.length + 1 := by
 unfold withoutA
 split
 · simp only [List.length_append, List.length_take, List.length_drop]; omega
 omega
set_option maxRecDepth 100000 in
set_option maxHeartbeats 8000000 in
theorem l7Gone_any (B : GB) (t : GX) (a : GA) (v u x : Value) (w : World) {S T U : Nat → Prop} (hv : BaseR S w v B) (hu : TxnR T w u t) (hx : TermsR U w x a.args) (hs : a.n.size ≤ maxLen) (hB : LiteB B) (hT : LiteX t) (hwa : wAtom a ≤ 80) :
 Calls Tryz.prog 146 #[v, u, .agg #[.string a.n, x]] w fun e w' => (∃ y, e = .returned (.tuple #[y, .int .i64 (((goneL B t a).2 : Nat) : Int)]) ∧ TxnR (From w.heap.size) w' y (goneL B t a).1) ∧ Ext w w' := by
 obtain ⟨A1, c1, A2, c2, A3, c3, rfl⟩ := hv.form; obtain ⟨ta, tb, rfl, ha, hb⟩ := hu; obtain ⟨X, cx, rfl, _, _⟩ := SliceR.form ha; obtain ⟨Y, cy, rfl, _, _⟩ := SliceR.form hb; obtain ⟨D, f, rfl, _, _⟩ := SliceR.form hx
 obtain ⟨W, hW⟩ : ∃ W, W = (((w.alloc (.cells #[.slice A1 B.rules.length c1, .int .i64 B.time, .slice A2 B.given.length c2, .slice A3 B.hist.length c3] 45)).alloc (.cells #[.int .i64 t.from_, .slice X t.change.comes.length cx, .slice Y t.change.goes.length cy] 205)).alloc (.cells #[.string a.n, .slice D a.args.length f] 54)).alloc (.cells #[.int .i64 0, .slice none 0 0, .slice none 0 0] 205) := ⟨_, rfl⟩
 have HB1 := Lib.hid (show Blk W w.heap.size 45 #[.slice A1 B.rules.length c1, .int .i64 B.time, .slice A2 B.given.length c2, .slice A3 B.hist.length c3] from by rw [hW]; exact (((Blk.new _ _ _).alloc _).alloc _).alloc _); have HB2 := Lib.hid (show Blk W (w.heap.size + 1) 205 #[.int .i64 t.from_, .slice X t.change.comes.length cx, .slice Y t.change.goes.length cy] from by rw [hW]; exact ((Blk.at_new (by simp)).alloc _).alloc _); have HB3 := Lib.hid (show Blk W (w.heap.size + 1 + 1) 54 #[.string a.n, .slice D a.args.length f] from by rw [hW]; exact (Blk.at_new (by simp)).alloc _); have HB4 := Lib.hid (show Blk W (w.heap.size + 1 + 1 + 1) 205 #[.int .i64 0, .slice none 0 0, .slice none 0 0] from by rw [hW]; exact Blk.at_new (by simp)); have HX := Lib.hid (show Ext w W from by rw [hW]; exact ((((Ext.refl _).alloc _).alloc _).alloc _).alloc _)
 have hz : W.heap.size = w.heap.size + 1 + 1 + 1 + 1 := by rw [hW]; simp
 have HBR := Lib.hid (hv.ext HX.out); have HTX := Lib.hid (show TxnR T W (.agg #[.int .i64 t.from_, .slice X t.change.comes.length cx, .slice Y t.change.goes.length cy]) t from ⟨_, _, rfl, ha.ext HX.out, hb.ext HX.out⟩)
 have hrl : ∃ Z2 : Nat → Prop, RulesR Z2 w (.slice A1 B.rules.length c1) B.rules := by
  obtain ⟨p, q, r, h1, h2, _, _⟩ := hv
  injection h1 with h1
  simp only [Array.mk.injEq, List.cons.injEq] at h1; exact ⟨_, by rw [h1.1]; exact h2⟩
 obtain ⟨Z2, hrl⟩ := hrl; have HRL := Lib.hid (hrl.ext HX.out); have HC1 := Lib.hid (ha.ext HX.out); have HC2 := Lib.hid (hb.ext HX.out); have HAX := Lib.hid (hx.ext HX.out)
 have HSW := Lib.hid (fun (W' : World) (hW' : Ext W W') => (show W'.cell? ⟨w.heap.size, 0, none⟩ = some (.slice A1 B.rules.length c1) ∧ W'.cell? ⟨w.heap.size, 1, none⟩ = some (.int .i64 B.time) ∧ W'.cell? ⟨w.heap.size, 2, none⟩ = some (.slice A2 B.given.length c2) ∧ W'.cell? ⟨w.heap.size, 3, none⟩ = some (.slice A3 B.hist.length c3) ∧ W'.cell? ⟨w.heap.size + 1, 0, none⟩ = some (.int .i64 t.from_) ∧ W'.cell? ⟨w.heap.size + 1, 1, none⟩ = some (.slice X t.change.comes.length cx) ∧ W'.cell? ⟨w.heap.size + 1, 2, none⟩ = some (.slice Y t.change.goes.length cy) ∧ W'.cell? ⟨w.heap.size + 1 + 1, 0, none⟩ = some (.string a.n) ∧ W'.cell? ⟨w.heap.size + 1 + 1, 1, none⟩ = some (.slice D a.args.length f) from
  ⟨(HB1.out.ext hW').cell 0, (HB1.out.ext hW').cell 1, (HB1.out.ext hW').cell 2, (HB1.out.ext hW').cell 3, (HB2.out.ext hW').cell 0, (HB2.out.ext hW').cell 1, (HB2.out.ext hW').cell 2, (HB3.out.ext hW').cell 0, (HB3.out.ext hW').cell 1⟩))
 have HSY := Lib.hid (fun (W' : World) (hW' : Ext W W') (x y z : Value) => (show (((W'.setCell ⟨w.heap.size + 1 + 1 + 1, 0, none⟩ x).setCell ⟨w.heap.size + 1 + 1 + 1, 1, none⟩ y).setCell ⟨w.heap.size + 1 + 1 + 1, 2, none⟩ z).cell? ⟨w.heap.size, 0, none⟩ = some (.slice A1 B.rules.length c1) ∧ (((W'.setCell ⟨w.heap.size + 1 + 1 + 1, 0, none⟩ x).setCell ⟨w.heap.size + 1 + 1 + 1, 1, none⟩ y).setCell ⟨w.heap.size + 1 + 1 + 1, 2, none⟩ z).cell? ⟨w.heap.size, 1, none⟩ = some (.int .i64 B.time) ∧ (((W'.setCell ⟨w.heap.size + 1 + 1 + 1, 0, none⟩ x).setCell ⟨w.heap.size + 1 + 1 + 1, 1, none⟩ y).setCell ⟨w.heap.size + 1 + 1 + 1, 2, none⟩ z).cell? ⟨w.heap.size, 2, none⟩ = some (.slice A2 B.given.length c2) ∧ (((W'.setCell ⟨w.heap.size + 1 + 1 + 1, 0, none⟩ x).setCell ⟨w.heap.size + 1 + 1 + 1, 1, none⟩ y).setCell ⟨w.heap.size + 1 + 1 + 1, 2, none⟩ z).cell? ⟨w.heap.size, 3, none⟩ = some (.slice A3 B.hist.length c3) ∧ (((W'.setCell ⟨w.heap.size + 1 + 1 + 1, 0, none⟩ x).setCell ⟨w.heap.size + 1 + 1 + 1, 1, none⟩ y).setCell ⟨w.heap.size + 1 + 1 + 1, 2, none⟩ z).cell? ⟨w.heap.size + 1, 0, none⟩ = some (.int .i64 t.from_) ∧ (((W'.setCell ⟨w.heap.size + 1 + 1 + 1, 0, none⟩ x).setCell ⟨w.heap.size + 1 + 1 + 1, 1, none⟩ y).setCell ⟨w.heap.size + 1 + 1 + 1, 2, none⟩ z).cell? ⟨w.heap.size + 1, 1, none⟩ = some (.slice X t.change.comes.length cx) ∧ (((W'.setCell ⟨w.heap.size + 1 + 1 + 1, 0, none⟩ x).setCell ⟨w.heap.size + 1 + 1 + 1, 1, none⟩ y).setCell ⟨w.heap.size + 1 + 1 + 1, 2, none⟩ z).cell? ⟨w.heap.size + 1, 2, none⟩ = some (.slice Y t.change.goes.length cy) ∧ (((W'.setCell ⟨w.heap.size + 1 + 1 + 1, 0, none⟩ x).setCell ⟨w.heap.size + 1 + 1 + 1, 1, none⟩ y).setCell ⟨w.heap.size + 1 + 1 + 1, 2, none⟩ z).cell? ⟨w.heap.size + 1 + 1, 0, none⟩ = some (.string a.n) ∧ (((W'.setCell ⟨w.heap.size + 1 + 1 + 1, 0, none⟩ x).setCell ⟨w.heap.size + 1 + 1 + 1, 1, none⟩ y).setCell ⟨w.heap.size + 1 + 1 + 1, 2, none⟩ z).cell? ⟨w.heap.size + 1 + 1, 1, none⟩ = some (.slice D a.args.length f) from by
  have h1 := (((HB1.out.ext hW').far (p := ⟨w.heap.size + 1 + 1 + 1, 0, none⟩) (by simp; omega) x).far (p := ⟨w.heap.size + 1 + 1 + 1, 1, none⟩) (by simp; omega) y).far (p := ⟨w.heap.size + 1 + 1 + 1, 2, none⟩) (by simp; omega) z; have h2 := (((HB2.out.ext hW').far (p := ⟨w.heap.size + 1 + 1 + 1, 0, none⟩) (by simp) x).far (p := ⟨w.heap.size + 1 + 1 + 1, 1, none⟩) (by simp) y).far (p := ⟨w.heap.size + 1 + 1 + 1, 2, none⟩) (by simp) z; have h3 := (((HB3.out.ext hW').far (p := ⟨w.heap.size + 1 + 1 + 1, 0, none⟩) (by simp) x).far (p := ⟨w.heap.size + 1 + 1 + 1, 1, none⟩) (by simp) y).far (p := ⟨w.heap.size + 1 + 1 + 1, 2, none⟩) (by simp) z
  exact ⟨h1.cell 0, h1.cell 1, h1.cell 2, h1.cell 3, h2.cell 0, h2.cell 1, h2.cell 2, h3.cell 0, h3.cell 1⟩))
 have HSE := Lib.hid (l7Sees_any B t _ _ W HBR.out HTX.out hB hT); have hsl := sees_lite hB hT; have HPL := Lib.hid (show goneL B t a = if factB a && hasA (seesL B t) a then toL B t (withoutA (seesL B t) a) else (t, 3) from rfl)
 obtain ⟨sl, hsle⟩ : ∃ sl, sl = seesL B t := ⟨_, rfl⟩
 rw [← hsle] at HSE hsl HPL; have HGR := Lib.hid (fun (W' : World) (hW' : Ext W W') => l3Ground_any a _ W' hs (HAX.out.ext hW')); have HHA := Lib.hid (fun (v' : Value) (W' : World) (Z : Nat → Prop) (hW' : Ext W W') (hv' : AtomsR Z W' v' sl) => l3Has_any v' _ sl a W' hv' (HAX.out.ext hW')); have HLC := Lib.hid (fun (W' : World) (hW' : Ext W W') => l7Change_any t.change _ _ W' (HC1.out.ext hW') (HC2.out.ext hW') ⟨by have := hT.comes.1; omega, hT.comes.2⟩ ⟨by have := hT.goes.1; omega, hT.goes.2⟩); have HTO := Lib.hid (fun (dst : List GA) (v' : Value) (W' : World) (Z : Nat → Prop) (hW' : Ext W W') (hv' : AtomsR Z W' v' dst) => l7To_any B t dst _ _ v' W' (HBR.out.ext hW') (HTX.out.ext hW') hv' hB hT)
 obtain ⟨gr, hgr⟩ : ∃ gr, gr = factB a := ⟨_, rfl⟩
 obtain ⟨has, hhas⟩ : ∃ has, has = hasA sl a := ⟨_, rfl⟩
 rw [← hgr] at HGR HPL; rw [← hhas] at HHA HPL; have gl := HB1.out.lt; have gl2 := HB2.out.lt; have gl3 := HB3.out.lt; have p0 := (HSW.out _ (Ext.refl W)).1; have p1 := (HSW.out _ (Ext.refl W)).2.1; have p2 := (HSW.out _ (Ext.refl W)).2.2.1; have p3 := (HSW.out _ (Ext.refl W)).2.2.2.1; have q0 := (HSW.out _ (Ext.refl W)).2.2.2.2.1; have q1 := (HSW.out _ (Ext.refl W)).2.2.2.2.2.1; have q2 := (HSW.out _ (Ext.refl W)).2.2.2.2.2.2.1; have s0 := (HSW.out _ (Ext.refl W)).2.2.2.2.2.2.2.1; have s1 := (HSW.out _ (Ext.refl W)).2.2.2.2.2.2.2.2; clear hv ha hb hx hsle hgr hhas hrl
 rcases (show (gr = false ∨ (gr = true ∧ has = false)) ∨ (gr = true ∧ has = true) from by cases gr <;> cases has <;> simp) with (rfl | ⟨rfl, rfl⟩) | ⟨rfl, rfl⟩
 rotate_right
 · have HRES := Lib.hid (show goneL B t a = toL B t (withoutA sl a) from HPL.out)
   have hdl : ∀ y ∈ withoutA sl a, wAtom y ≤ 80 := fun y hy => hsl.2 y (withoutA_mem hy)
   have hdn := withoutA_len sl a; have hsn := hsl.1
   go_enter Tryz.func146, Tryz.ntmps146
   go_upto_region 1 with fail
   rw [← hW]; clear hW
   go_upto_region 4 with (first
    | (go_at_call 202; refine HSE.out.mono ?_; rintro e w1 ⟨⟨v1, rfl, hv1⟩, hx1⟩
       obtain ⟨O1, o1, rfl, _, _⟩ := SliceR.form hv1; have HV1 := Lib.hid hv1; have HX1 := Lib.hid hx1; have p0 := (HSW.out _ hx1).1; have p1 := (HSW.out _ hx1).2.1; have p2 := (HSW.out _ hx1).2.2.1; have p3 := (HSW.out _ hx1).2.2.2.1; have q0 := (HSW.out _ hx1).2.2.2.2.1; have q1 := (HSW.out _ hx1).2.2.2.2.2.1; have q2 := (HSW.out _ hx1).2.2.2.2.2.2.1; have s0 := (HSW.out _ hx1).2.2.2.2.2.2.2.1; have s1 := (HSW.out _ hx1).2.2.2.2.2.2.2.2; have g1 := Nat.lt_of_lt_of_le gl hx1.size; have g2 := Nat.lt_of_lt_of_le gl2 hx1.size; have g3 := Nat.lt_of_lt_of_le gl3 hx1.size
       clear hv1 hx1)
    | (go_at_call 203; refine (HGR.out _ HX1.out).mono ?_; rintro e w2 ⟨rfl, hx2⟩
       have HX2 := Lib.hid (HX1.out.trans' hx2); have HV2 := Lib.hid (HV1.out.ext hx2); have p0 := (HSW.out _ HX2.out).1; have p1 := (HSW.out _ HX2.out).2.1; have p2 := (HSW.out _ HX2.out).2.2.1; have p3 := (HSW.out _ HX2.out).2.2.2.1; have q0 := (HSW.out _ HX2.out).2.2.2.2.1; have q1 := (HSW.out _ HX2.out).2.2.2.2.2.1; have q2 := (HSW.out _ HX2.out).2.2.2.2.2.2.1; have s0 := (HSW.out _ HX2.out).2.2.2.2.2.2.2.1; have s1 := (HSW.out _ HX2.out).2.2.2.2.2.2.2.2; have g4 := Nat.lt_of_lt_of_le gl HX2.out.size; have g5 := Nat.lt_of_lt_of_le gl2 HX2.out.size; have g6 := Nat.lt_of_lt_of_le gl3 HX2.out.size
       clear hx2)
    | (go_at_call 104; refine (HHA.out _ _ _ HX2.out HV2.out).mono ?_; rintro e w3 ⟨rfl, hx3⟩
       have HX3 := Lib.hid (HX2.out.trans' hx3); have HV3 := Lib.hid (HV2.out.ext hx3); have p0 := (HSW.out _ HX3.out).1; have p1 := (HSW.out _ HX3.out).2.1; have p2 := (HSW.out _ HX3.out).2.2.1; have p3 := (HSW.out _ HX3.out).2.2.2.1; have q0 := (HSW.out _ HX3.out).2.2.2.2.1; have q1 := (HSW.out _ HX3.out).2.2.2.2.2.1; have q2 := (HSW.out _ HX3.out).2.2.2.2.2.2.1; have s0 := (HSW.out _ HX3.out).2.2.2.2.2.2.2.1; have s1 := (HSW.out _ HX3.out).2.2.2.2.2.2.2.2; have g7 := Nat.lt_of_lt_of_le gl HX3.out.size; have g8 := Nat.lt_of_lt_of_le gl2 HX3.out.size; have g9 := Nat.lt_of_lt_of_le gl3 HX3.out.size
       clear hx3)
    | fail)
   go_region_held3 (fun W' => W'.cell? ⟨w.heap.size, 0, none⟩ = some (.slice A1 B.rules.length c1) ∧ W'.cell? ⟨w.heap.size, 1, none⟩ = some (.int .i64 B.time) ∧ W'.cell? ⟨w.heap.size, 2, none⟩ = some (.slice A2 B.given.length c2) ∧ W'.cell? ⟨w.heap.size, 3, none⟩ = some (.slice A3 B.hist.length c3) ∧ W'.cell? ⟨w.heap.size + 1, 0, none⟩ = some (.int .i64 t.from_) ∧ W'.cell? ⟨w.heap.size + 1, 1, none⟩ = some (.slice X t.change.comes.length cx) ∧ W'.cell? ⟨w.heap.size + 1, 2, none⟩ = some (.slice Y t.change.goes.length cy) ∧ W'.cell? ⟨w.heap.size + 1 + 1, 0, none⟩ = some (.string a.n) ∧ W'.cell? ⟨w.heap.size + 1 + 1, 1, none⟩ = some (.slice D a.args.length f))
    (first | exact HSY.out _ HXX.out _ _ _ | exact HSW.out _ HXX.out | exact HSW.out _ HX8.out | exact HSW.out _ HX7.out | exact HSW.out _ (HX3.out.trans' (Ext.refl w3).drew))
    (first
     | (go_at_call 206; refine (l3Without_any _ _ sl a _ (HV3.out.ext (Ext.refl w3).drew) ((HAX.out.ext HX3.out).ext (Ext.refl w3).drew) (by omega)).mono ?_; rintro e w7 ⟨⟨v7, rfl, hv7⟩, hx7⟩
        obtain ⟨P7, k7, rfl, _, _⟩ := SliceR.form hv7; have HX7 := Lib.hid (HX3.out.trans' ((Ext.refl w3).drew.trans' hx7)); have HV7 := Lib.hid hv7
        clear hv7 hx7)
     | (go_at_call 168; refine (l3Copy_any _ _ _ HV7.out (by omega) (fun y hy => by have := wAtom_args y; have := hdl y hy; omega)).mono ?_; rintro e w8 ⟨⟨v8, rfl, hv8⟩, hx8⟩
        obtain ⟨P8, k8, rfl, _, _⟩ := SliceR.form hv8; have HX8 := Lib.hid (HX7.out.trans' hx8); have HV8 := Lib.hid hv8
        clear hv8 hx8)
     | (go_at_call 205; refine (HTO.out _ _ _ _ HX8.out HV8.out).mono ?_; rintro e w9 ⟨⟨y9, rfl, hy9⟩, hx9⟩
        obtain ⟨xa, xb, rfl, h91, h92⟩ := hy9; obtain ⟨P1, k1, rfl, _, _⟩ := SliceR.form h91; obtain ⟨P2, k2, rfl, _, _⟩ := SliceR.form h92; have HXX := Lib.hid (HX8.out.trans' hx9); have HO1 := Lib.hid (AtomsR.sub h91 (fromLe HX8.out.size)); have HO2 := Lib.hid (AtomsR.sub h92 (fromLe HX8.out.size)); have HB9 := Lib.hid (HB4.out.ext HXX.out); have y0 := HB9.out.cell 0; have y1 := HB9.out.cell 1; have y2 := HB9.out.cell 2; have yf0 := HB9.out.frozen 0; have yf1 := HB9.out.frozen 1; have yf2 := HB9.out.frozen 2; have yl := HB9.out.lt
        clear h91 h92 hx9))
   all_goals go_wp2_with fail
   all_goals
    refine bodyPost_ret (v := .tuple #[.agg #[.int .i64 (toL B t (withoutA sl a)).1.from_, .slice P1 (toL B t (withoutA sl a)).1.change.comes.length k1, .slice P2 (toL B t (withoutA sl a)).1.change.goes.length k2], .int .i64 (((toL B t (withoutA sl a)).2 : Nat) : Int)]) (by simp [results, Tryz.results146, go_sem, y0, y1, y2, yf0, yf1, yf2, yl]) rfl ?_; have hfin := txn_out (w := w) (W := W) (g := w.heap.size + 1 + 1 + 1) (t := (toL B t (withoutA sl a)).1) (f := (toL B t (withoutA sl a)).1.from_) rfl (HX.out.trans' HXX.out) (by omega) (by omega) HO1.out HO2.out (by omega); rw [HRES.out]; exact ⟨⟨_, rfl, hfin.1⟩, hfin.2⟩
 · have HRES := Lib.hid (show goneL B t a = (t, 3) from HPL.out)
   go_enter Tryz.func146, Tryz.ntmps146
   go_upto_region 1 with fail
   rw [← hW]; clear hW
   go_upto_region 3 with (first
    | (go_at_call 202; refine HSE.out.mono ?_; rintro e w1 ⟨⟨v1, rfl, hv1⟩, hx1⟩
       obtain ⟨O1, o1, rfl, _, _⟩ := SliceR.form hv1; have HV1 := Lib.hid hv1; have HX1 := Lib.hid hx1; have p0 := (HSW.out _ hx1).1; have p1 := (HSW.out _ hx1).2.1; have p2 := (HSW.out _ hx1).2.2.1; have p3 := (HSW.out _ hx1).2.2.2.1; have q0 := (HSW.out _ hx1).2.2.2.2.1; have q1 := (HSW.out _ hx1).2.2.2.2.2.1; have q2 := (HSW.out _ hx1).2.2.2.2.2.2.1; have s0 := (HSW.out _ hx1).2.2.2.2.2.2.2.1; have s1 := (HSW.out _ hx1).2.2.2.2.2.2.2.2; have g1 := Nat.lt_of_lt_of_le gl hx1.size; have g2 := Nat.lt_of_lt_of_le gl2 hx1.size; have g3 := Nat.lt_of_lt_of_le gl3 hx1.size
       clear hv1 hx1)
    | (go_at_call 203; refine (HGR.out _ HX1.out).mono ?_; rintro e w2 ⟨rfl, hx2⟩
       have HX2 := Lib.hid (HX1.out.trans' hx2); have HV2 := Lib.hid (HV1.out.ext hx2); have p0 := (HSW.out _ HX2.out).1; have p1 := (HSW.out _ HX2.out).2.1; have p2 := (HSW.out _ HX2.out).2.2.1; have p3 := (HSW.out _ HX2.out).2.2.2.1; have q0 := (HSW.out _ HX2.out).2.2.2.2.1; have q1 := (HSW.out _ HX2.out).2.2.2.2.2.1; have q2 := (HSW.out _ HX2.out).2.2.2.2.2.2.1; have s0 := (HSW.out _ HX2.out).2.2.2.2.2.2.2.1; have s1 := (HSW.out _ HX2.out).2.2.2.2.2.2.2.2; have g4 := Nat.lt_of_lt_of_le gl HX2.out.size; have g5 := Nat.lt_of_lt_of_le gl2 HX2.out.size; have g6 := Nat.lt_of_lt_of_le gl3 HX2.out.size
       clear hx2)
    | fail)
   go_region_held3 (fun W' => W'.cell? ⟨w.heap.size, 0, none⟩ = some (.slice A1 B.rules.length c1) ∧ W'.cell? ⟨w.heap.size, 1, none⟩ = some (.int .i64 B.time) ∧ W'.cell? ⟨w.heap.size, 2, none⟩ = some (.slice A2 B.given.length c2) ∧ W'.cell? ⟨w.heap.size, 3, none⟩ = some (.slice A3 B.hist.length c3) ∧ W'.cell? ⟨w.heap.size + 1, 0, none⟩ = some (.int .i64 t.from_) ∧ W'.cell? ⟨w.heap.size + 1, 1, none⟩ = some (.slice X t.change.comes.length cx) ∧ W'.cell? ⟨w.heap.size + 1, 2, none⟩ = some (.slice Y t.change.goes.length cy) ∧ W'.cell? ⟨w.heap.size + 1 + 1, 0, none⟩ = some (.string a.n) ∧ W'.cell? ⟨w.heap.size + 1 + 1, 1, none⟩ = some (.slice D a.args.length f))
    (first | exact HSY.out _ (HX2.out.trans' HX7.out) _ _ _ | exact HSW.out _ (HX2.out.trans' HX7.out) | exact HSW.out _ (HX2.out.trans' (Ext.refl w2).drew))
    ((go_at_call 204; refine (HLC.out _ (HX2.out.trans' (Ext.refl w2).drew)).mono ?_; rintro e w7 ⟨⟨x7, y7, rfl, hx7', hy7'⟩, hx7⟩
      obtain ⟨P1, k1, rfl, _, _⟩ := SliceR.form hx7'; obtain ⟨P2, k2, rfl, _, _⟩ := SliceR.form hy7'; have HX7 := Lib.hid ((Ext.refl w2).drew.trans' hx7); have hwx := (HX2.out.trans' (Ext.refl w2).drew).size; have HO1 := Lib.hid (show AtomsR (From W.heap.size) w7 (.slice P1 t.change.comes.length k1) t.change.comes from AtomsR.sub hx7' (fromLe hwx)); have HO2 := Lib.hid (show AtomsR (From W.heap.size) w7 (.slice P2 t.change.goes.length k2) t.change.goes from AtomsR.sub hy7' (fromLe hwx)); have HXX := Lib.hid (HX2.out.trans' HX7.out); have HB9 := Lib.hid (HB4.out.ext HXX.out); have y0 := HB9.out.cell 0; have y1 := HB9.out.cell 1; have y2 := HB9.out.cell 2; have yf0 := HB9.out.frozen 0; have yf1 := HB9.out.frozen 1; have yf2 := HB9.out.frozen 2; have yl := HB9.out.lt
      clear hx7' hy7' hx7))
   all_goals go_wp2_with fail
   all_goals
    refine bodyPost_ret (v := .tuple #[.agg #[.int .i64 t.from_, .slice P1 t.change.comes.length k1, .slice P2 t.change.goes.length k2], .int .i64 3]) (by simp [results, Tryz.results146, go_sem, y0, y1, y2, yf0, yf1, yf2, yl]) rfl ?_; have hfin := txn_out (w := w) (W := W) (g := w.heap.size + 1 + 1 + 1) (t := t) (f := t.from_) rfl (HX.out.trans' HXX.out) (by omega) (by omega) HO1.out HO2.out (by omega); rw [HRES.out]; exact ⟨⟨_, rfl, hfin.1⟩, hfin.2⟩
 have HRES := Lib.hid (show goneL B t a = (t, 3) from HPL.out)
 go_enter Tryz.func146, Tryz.ntmps146
 go_upto_region 1 with fail
 rw [← hW]; clear hW
 go_upto_region 3 with (first
  | (go_at_call 202; refine HSE.out.mono ?_; rintro e w1 ⟨⟨v1, rfl, hv1⟩, hx1⟩
     obtain ⟨O1, o1, rfl, _, _⟩ := SliceR.form hv1; have HV1 := Lib.hid hv1; have HX1 := Lib.hid hx1; have p0 := (HSW.out _ hx1).1; have p1 := (HSW.out _ hx1).2.1; have p2 := (HSW.out _ hx1).2.2.1; have p3 := (HSW.out _ hx1).2.2.2.1; have q0 := (HSW.out _ hx1).2.2.2.2.1; have q1 := (HSW.out _ hx1).2.2.2.2.2.1; have q2 := (HSW.out _ hx1).2.2.2.2.2.2.1; have s0 := (HSW.out _ hx1).2.2.2.2.2.2.2.1; have s1 := (HSW.out _ hx1).2.2.2.2.2.2.2.2; have g1 := Nat.lt_of_lt_of_le gl hx1.size; have g2 := Nat.lt_of_lt_of_le gl2 hx1.size; have g3 := Nat.lt_of_lt_of_le gl3 hx1.size
     clear hv1 hx1)
  | (go_at_call 203; refine (HGR.out _ HX1.out).mono ?_; rintro e w2 ⟨rfl, hx2⟩
     have HX2 := Lib.hid (HX1.out.trans' hx2); have HV2 := Lib.hid (HV1.out.ext hx2); have p0 := (HSW.out _ HX2.out).1; have p1 := (HSW.out _ HX2.out).2.1; have p2 := (HSW.out _ HX2.out).2.2.1; have p3 := (HSW.out _ HX2.out).2.2.2.1; have q0 := (HSW.out _ HX2.out).2.2.2.2.1; have q1 := (HSW.out _ HX2.out).2.2.2.2.2.1; have q2 := (HSW.out _ HX2.out).2.2.2.2.2.2.1; have s0 := (HSW.out _ HX2.out).2.2.2.2.2.2.2.1; have s1 := (HSW.out _ HX2.out).2.2.2.2.2.2.2.2; have g4 := Nat.lt_of_lt_of_le gl HX2.out.size; have g5 := Nat.lt_of_lt_of_le gl2 HX2.out.size; have g6 := Nat.lt_of_lt_of_le gl3 HX2.out.size
     clear hx2)
  | (go_at_call 104; refine (HHA.out _ _ _ HX2.out HV2.out).mono ?_; rintro e w3 ⟨rfl, hx3⟩
     have HX3 := Lib.hid (HX2.out.trans' hx3); have HV3 := Lib.hid (HV2.out.ext hx3); have p0 := (HSW.out _ HX3.out).1; have p1 := (HSW.out _ HX3.out).2.1; have p2 := (HSW.out _ HX3.out).2.2.1; have p3 := (HSW.out _ HX3.out).2.2.2.1; have q0 := (HSW.out _ HX3.out).2.2.2.2.1; have q1 := (HSW.out _ HX3.out).2.2.2.2.2.1; have q2 := (HSW.out _ HX3.out).2.2.2.2.2.2.1; have s0 := (HSW.out _ HX3.out).2.2.2.2.2.2.2.1; have s1 := (HSW.out _ HX3.out).2.2.2.2.2.2.2.2; have g7 := Nat.lt_of_lt_of_le gl HX3.out.size; have g8 := Nat.lt_of_lt_of_le gl2 HX3.out.size; have g9 := Nat.lt_of_lt_of_le gl3 HX3.out.size
     clear hx3)
  | fail)
 go_region_held3 (fun W' => W'.cell? ⟨w.heap.size, 0, none⟩ = some (.slice A1 B.rules.length c1) ∧ W'.cell? ⟨w.heap.size, 1, none⟩ = some (.int .i64 B.time) ∧ W'.cell? ⟨w.heap.size, 2, none⟩ = some (.slice A2 B.given.length c2) ∧ W'.cell? ⟨w.heap.size, 3, none⟩ = some (.slice A3 B.hist.length c3) ∧ W'.cell? ⟨w.heap.size + 1, 0, none⟩ = some (.int .i64 t.from_) ∧ W'.cell? ⟨w.heap.size + 1, 1, none⟩ = some (.slice X t.change.comes.length cx) ∧ W'.cell? ⟨w.heap.size + 1, 2, none⟩ = some (.slice Y t.change.goes.length cy) ∧ W'.cell? ⟨w.heap.size + 1 + 1, 0, none⟩ = some (.string a.n) ∧ W'.cell? ⟨w.heap.size + 1 + 1, 1, none⟩ = some (.slice D a.args.length f))
  (first | exact HSY.out _ (HX3.out.trans' HX7.out) _ _ _ | exact HSW.out _ (HX3.out.trans' HX7.out) | exact HSW.out _ (HX3.out.trans' (Ext.refl w3).drew))
  ((go_at_call 204; refine (HLC.out _ (HX3.out.trans' (Ext.refl w3).drew)).mono ?_; rintro e w7 ⟨⟨x7, y7, rfl, hx7', hy7'⟩, hx7⟩
    obtain ⟨P1, k1, rfl, _, _⟩ := SliceR.form hx7'; obtain ⟨P2, k2, rfl, _, _⟩ := SliceR.form hy7'; have HX7 := Lib.hid ((Ext.refl w3).drew.trans' hx7); have hwx := (HX3.out.trans' (Ext.refl w3).drew).size; have HO1 := Lib.hid (show AtomsR (From W.heap.size) w7 (.slice P1 t.change.comes.length k1) t.change.comes from AtomsR.sub hx7' (fromLe hwx)); have HO2 := Lib.hid (show AtomsR (From W.heap.size) w7 (.slice P2 t.change.goes.length k2) t.change.goes from AtomsR.sub hy7' (fromLe hwx)); have HXX := Lib.hid (HX3.out.trans' HX7.out); have HB9 := Lib.hid (HB4.out.ext HXX.out); have y0 := HB9.out.cell 0; have y1 := HB9.out.cell 1; have y2 := HB9.out.cell 2; have yf0 := HB9.out.frozen 0; have yf1 := HB9.out.frozen 1; have yf2 := HB9.out.frozen 2; have yl := HB9.out.lt
    clear hx7' hy7' hx7))
 all_goals go_wp2_with fail
 all_goals
  refine bodyPost_ret (v := .tuple #[.agg #[.int .i64 t.from_, .slice P1 t.change.comes.length k1, .slice P2 t.change.goes.length k2], .int .i64 3]) (by simp [results, Tryz.results146, go_sem, y0, y1, y2, yf0, yf1, yf2, yl]) rfl ?_; have hfin := txn_out (w := w) (W := W) (g := w.heap.size + 1 + 1 + 1) (t := t) (f := t.from_) rfl (HX.out.trans' HXX.out) (by omega) (by omega) HO1.out HO2.out (by omega); rw [HRES.out]; exact ⟨⟨_, rfl, hfin.1⟩, hfin.2⟩
set_option maxRecDepth 100000 in
set_option maxHeartbeats 8000000 in
theorem l7Add_any (B : GB) (t : GX) (a : GA) (v u x : Value) (w : World) {S T U : Nat → Prop} (hv : BaseR S w v B) (hu : TxnR T w u t) (hx : TermsR U w x a.args) (hs : a.n.size ≤ maxLen) (hB : LiteB B) (hT : LiteX t) (hwa : wAtom a ≤ 80) :
 Calls Tryz.prog 147 #[v, u, .agg #[.string a.n, x]] w fun e w' => (∃ y, e = .returned (.tuple #[y, .int .i64 (((addL B t a).2 : Nat) : Int)]) ∧ TxnR (From w.heap.size) w' y (addL B t a).1) ∧ Ext w w' := by
 obtain ⟨A1, c1, A2, c2, A3, c3, rfl⟩ := hv.form; obtain ⟨ta, tb, rfl, ha, hb⟩ := hu; obtain ⟨X, cx, rfl, _, _⟩ := SliceR.form ha; obtain ⟨Y, cy, rfl, _, _⟩ := SliceR.form hb; obtain ⟨D, f, rfl, _, _⟩ := SliceR.form hx
 obtain ⟨W, hW⟩ : ∃ W, W = (((w.alloc (.cells #[.slice A1 B.rules.length c1, .int .i64 B.time, .slice A2 B.given.length c2, .slice A3 B.hist.length c3] 45)).alloc (.cells #[.int .i64 t.from_, .slice X t.change.comes.length cx, .slice Y t.change.goes.length cy] 205)).alloc (.cells #[.string a.n, .slice D a.args.length f] 54)).alloc (.cells #[.int .i64 0, .slice none 0 0, .slice none 0 0] 205) := ⟨_, rfl⟩
 have HB1 := Lib.hid (show Blk W w.heap.size 45 #[.slice A1 B.rules.length c1, .int .i64 B.time, .slice A2 B.given.length c2, .slice A3 B.hist.length c3] from by rw [hW]; exact (((Blk.new _ _ _).alloc _).alloc _).alloc _); have HB2 := Lib.hid (show Blk W (w.heap.size + 1) 205 #[.int .i64 t.from_, .slice X t.change.comes.length cx, .slice Y t.change.goes.length cy] from by rw [hW]; exact ((Blk.at_new (by simp)).alloc _).alloc _); have HB3 := Lib.hid (show Blk W (w.heap.size + 1 + 1) 54 #[.string a.n, .slice D a.args.length f] from by rw [hW]; exact (Blk.at_new (by simp)).alloc _); have HB4 := Lib.hid (show Blk W (w.heap.size + 1 + 1 + 1) 205 #[.int .i64 0, .slice none 0 0, .slice none 0 0] from by rw [hW]; exact Blk.at_new (by simp)); have HX := Lib.hid (show Ext w W from by rw [hW]; exact ((((Ext.refl _).alloc _).alloc _).alloc _).alloc _)
 have hz : W.heap.size = w.heap.size + 1 + 1 + 1 + 1 := by rw [hW]; simp
 have HBR := Lib.hid (hv.ext HX.out); have HTX := Lib.hid (show TxnR T W (.agg #[.int .i64 t.from_, .slice X t.change.comes.length cx, .slice Y t.change.goes.length cy]) t from ⟨_, _, rfl, ha.ext HX.out, hb.ext HX.out⟩)
 have hrl : ∃ Z2 : Nat → Prop, RulesR Z2 w (.slice A1 B.rules.length c1) B.rules := by
  obtain ⟨p, q, r, h1, h2, _, _⟩ := hv
  injection h1 with h1
  simp only [Array.mk.injEq, List.cons.injEq] at h1; exact ⟨_, by rw [h1.1]; exact h2⟩
 obtain ⟨Z2, hrl⟩ := hrl; have HRL := Lib.hid (hrl.ext HX.out); have HC1 := Lib.hid (ha.ext HX.out); have HC2 := Lib.hid (hb.ext HX.out); have HAX := Lib.hid (hx.ext HX.out)
 have HSW := Lib.hid (fun (W' : World) (hW' : Ext W W') => (show W'.cell? ⟨w.heap.size, 0, none⟩ = some (.slice A1 B.rules.length c1) ∧ W'.cell? ⟨w.heap.size, 1, none⟩ = some (.int .i64 B.time) ∧ W'.cell? ⟨w.heap.size, 2, none⟩ = some (.slice A2 B.given.length c2) ∧ W'.cell? ⟨w.heap.size, 3, none⟩ = some (.slice A3 B.hist.length c3) ∧ W'.cell? ⟨w.heap.size + 1, 0, none⟩ = some (.int .i64 t.from_) ∧ W'.cell? ⟨w.heap.size + 1, 1, none⟩ = some (.slice X t.change.comes.length cx) ∧ W'.cell? ⟨w.heap.size + 1, 2, none⟩ = some (.slice Y t.change.goes.length cy) ∧ W'.cell? ⟨w.heap.size + 1 + 1, 0, none⟩ = some (.string a.n) ∧ W'.cell? ⟨w.heap.size + 1 + 1, 1, none⟩ = some (.slice D a.args.length f) from
  ⟨(HB1.out.ext hW').cell 0, (HB1.out.ext hW').cell 1, (HB1.out.ext hW').cell 2, (HB1.out.ext hW').cell 3, (HB2.out.ext hW').cell 0, (HB2.out.ext hW').cell 1, (HB2.out.ext hW').cell 2, (HB3.out.ext hW').cell 0, (HB3.out.ext hW').cell 1⟩))
 have HSY := Lib.hid (fun (W' : World) (hW' : Ext W W') (x y z : Value) => (show (((W'.setCell ⟨w.heap.size + 1 + 1 + 1, 0, none⟩ x).setCell ⟨w.heap.size + 1 + 1 + 1, 1, none⟩ y).setCell ⟨w.heap.size + 1 + 1 + 1, 2, none⟩ z).cell? ⟨w.heap.size, 0, none⟩ = some (.slice A1 B.rules.length c1) ∧ (((W'.setCell ⟨w.heap.size + 1 + 1 + 1, 0, none⟩ x).setCell ⟨w.heap.size + 1 + 1 + 1, 1, none⟩ y).setCell ⟨w.heap.size + 1 + 1 + 1, 2, none⟩ z).cell? ⟨w.heap.size, 1, none⟩ = some (.int .i64 B.time) ∧ (((W'.setCell ⟨w.heap.size + 1 + 1 + 1, 0, none⟩ x).setCell ⟨w.heap.size + 1 + 1 + 1, 1, none⟩ y).setCell ⟨w.heap.size + 1 + 1 + 1, 2, none⟩ z).cell? ⟨w.heap.size, 2, none⟩ = some (.slice A2 B.given.length c2) ∧ (((W'.setCell ⟨w.heap.size + 1 + 1 + 1, 0, none⟩ x).setCell ⟨w.heap.size + 1 + 1 + 1, 1, none⟩ y).setCell ⟨w.heap.size + 1 + 1 + 1, 2, none⟩ z).cell? ⟨w.heap.size, 3, none⟩ = some (.slice A3 B.hist.length c3) ∧ (((W'.setCell ⟨w.heap.size + 1 + 1 + 1, 0, none⟩ x).setCell ⟨w.heap.size + 1 + 1 + 1, 1, none⟩ y).setCell ⟨w.heap.size + 1 + 1 + 1, 2, none⟩ z).cell? ⟨w.heap.size + 1, 0, none⟩ = some (.int .i64 t.from_) ∧ (((W'.setCell ⟨w.heap.size + 1 + 1 + 1, 0, none⟩ x).setCell ⟨w.heap.size + 1 + 1 + 1, 1, none⟩ y).setCell ⟨w.heap.size + 1 + 1 + 1, 2, none⟩ z).cell? ⟨w.heap.size + 1, 1, none⟩ = some (.slice X t.change.comes.length cx) ∧ (((W'.setCell ⟨w.heap.size + 1 + 1 + 1, 0, none⟩ x).setCell ⟨w.heap.size + 1 + 1 + 1, 1, none⟩ y).setCell ⟨w.heap.size + 1 + 1 + 1, 2, none⟩ z).cell? ⟨w.heap.size + 1, 2, none⟩ = some (.slice Y t.change.goes.length cy) ∧ (((W'.setCell ⟨w.heap.size + 1 + 1 + 1, 0, none⟩ x).setCell ⟨w.heap.size + 1 + 1 + 1, 1, none⟩ y).setCell ⟨w.heap.size + 1 + 1 + 1, 2, none⟩ z).cell? ⟨w.heap.size + 1 + 1, 0, none⟩ = some (.string a.n) ∧ (((W'.setCell ⟨w.heap.size + 1 + 1 + 1, 0, none⟩ x).setCell ⟨w.heap.size + 1 + 1 + 1, 1, none⟩ y).setCell ⟨w.heap.size + 1 + 1 + 1, 2, none⟩ z).cell? ⟨w.heap.size + 1 + 1, 1, none⟩ = some (.slice D a.args.length f) from by
  have h1 := (((HB1.out.ext hW').far (p := ⟨w.heap.size + 1 + 1 + 1, 0, none⟩) (by simp; omega) x).far (p := ⟨w.heap.size + 1 + 1 + 1, 1, none⟩) (by simp; omega) y).far (p := ⟨w.heap.size + 1 + 1 + 1, 2, none⟩) (by simp; omega) z; have h2 := (((HB2.out.ext hW').far (p := ⟨w.heap.size + 1 + 1 + 1, 0, none⟩) (by simp) x).far (p := ⟨w.heap.size + 1 + 1 + 1, 1, none⟩) (by simp) y).far (p := ⟨w.heap.size + 1 + 1 + 1, 2, none⟩) (by simp) z; have h3 := (((HB3.out.ext hW').far (p := ⟨w.heap.size + 1 + 1 + 1, 0, none⟩) (by simp) x).far (p := ⟨w.heap.size + 1 + 1 + 1, 1, none⟩) (by simp) y).far (p := ⟨w.heap.size + 1 + 1 + 1, 2, none⟩) (by simp) z
  exact ⟨h1.cell 0, h1.cell 1, h1.cell 2, h1.cell 3, h2.cell 0, h2.cell 1, h2.cell 2, h3.cell 0, h3.cell 1⟩))
 have HSE := Lib.hid (l7Sees_any B t _ _ W HBR.out HTX.out hB hT); have hsl := sees_lite hB hT; have HPL := Lib.hid (show addL B t a = if factB a && fitB B.rules [a] then (if hasA (seesL B t) a then (t, 2) else toL B t (putA (seesL B t) a)) else (t, 1) from rfl)
 obtain ⟨sl, hsle⟩ : ∃ sl, sl = seesL B t := ⟨_, rfl⟩
 rw [← hsle] at HSE hsl HPL; have HGR := Lib.hid (fun (W' : World) (hW' : Ext W W') => l3Ground_any a _ W' hs (HAX.out.ext hW')); have HHA := Lib.hid (fun (v' : Value) (W' : World) (Z : Nat → Prop) (hW' : Ext W W') (hv' : AtomsR Z W' v' sl) => l3Has_any v' _ sl a W' hv' (HAX.out.ext hW')); have HLC := Lib.hid (fun (W' : World) (hW' : Ext W W') => l7Change_any t.change _ _ W' (HC1.out.ext hW') (HC2.out.ext hW') ⟨by have := hT.comes.1; omega, hT.comes.2⟩ ⟨by have := hT.goes.1; omega, hT.goes.2⟩); have HTO := Lib.hid (fun (dst : List GA) (v' : Value) (W' : World) (Z : Nat → Prop) (hW' : Ext W W') (hv' : AtomsR Z W' v' dst) => l7To_any B t dst _ _ v' W' (HBR.out.ext hW') (HTX.out.ext hW') hv' hB hT)
 obtain ⟨gr, hgr⟩ : ∃ gr, gr = factB a := ⟨_, rfl⟩
 obtain ⟨has, hhas⟩ : ∃ has, has = hasA sl a := ⟨_, rfl⟩
 rw [← hgr] at HGR HPL; rw [← hhas] at HHA HPL; have HFT := Lib.hid (fun (W' : World) (hW' : Ext W W') => l3Fit_any B.rules [a] _ _ (W'.alloc (.cells #[.string a.n, .slice D a.args.length f] 54)) (HRL.out.ext (hW'.alloc _)) (ElemsK.one (k := kAtom) (S := Any) (Blk.new W' 54 #[.string a.n, .slice D a.args.length f]) ⟨_, rfl, hs, TermsR.sub (HAX.out.ext (hW'.alloc _)) (fun _ _ => trivial)⟩) hB.rules.1 (fun r hr => (hB.rules.2 r hr).1))
 obtain ⟨ft, hft⟩ : ∃ ft, ft = fitB B.rules [a] := ⟨_, rfl⟩
 rw [← hft] at HFT HPL; have gl := HB1.out.lt; have gl2 := HB2.out.lt; have gl3 := HB3.out.lt; have p0 := (HSW.out _ (Ext.refl W)).1; have p1 := (HSW.out _ (Ext.refl W)).2.1; have p2 := (HSW.out _ (Ext.refl W)).2.2.1; have p3 := (HSW.out _ (Ext.refl W)).2.2.2.1; have q0 := (HSW.out _ (Ext.refl W)).2.2.2.2.1; have q1 := (HSW.out _ (Ext.refl W)).2.2.2.2.2.1; have q2 := (HSW.out _ (Ext.refl W)).2.2.2.2.2.2.1; have s0 := (HSW.out _ (Ext.refl W)).2.2.2.2.2.2.2.1; have s1 := (HSW.out _ (Ext.refl W)).2.2.2.2.2.2.2.2; clear hv ha hb hx hsle hgr hhas hft hrl
 rcases (show ((gr = false ∨ (gr = true ∧ ft = false)) ∨ (gr = true ∧ ft = true ∧ has = true)) ∨ (gr = true ∧ ft = true ∧ has = false) from by cases gr <;> cases ft <;> cases has <;> simp) with ((rfl | ⟨rfl, rfl⟩) | ⟨rfl, rfl, rfl⟩) | ⟨rfl, rfl, rfl⟩
 · have HRES := Lib.hid (show addL B t a = (t, 1) from HPL.out)
   go_enter Tryz.func147, Tryz.ntmps147
   go_upto_region 1 with fail
   rw [← hW]; clear hW
   go_upto_region 3 with (first
    | (go_at_call 202; refine HSE.out.mono ?_; rintro e w1 ⟨⟨v1, rfl, hv1⟩, hx1⟩
       obtain ⟨O1, o1, rfl, _, _⟩ := SliceR.form hv1; have HV1 := Lib.hid hv1; have HX1 := Lib.hid hx1; have p0 := (HSW.out _ hx1).1; have p1 := (HSW.out _ hx1).2.1; have p2 := (HSW.out _ hx1).2.2.1; have p3 := (HSW.out _ hx1).2.2.2.1; have q0 := (HSW.out _ hx1).2.2.2.2.1; have q1 := (HSW.out _ hx1).2.2.2.2.2.1; have q2 := (HSW.out _ hx1).2.2.2.2.2.2.1; have s0 := (HSW.out _ hx1).2.2.2.2.2.2.2.1; have s1 := (HSW.out _ hx1).2.2.2.2.2.2.2.2; have g1 := Nat.lt_of_lt_of_le gl hx1.size; have g2 := Nat.lt_of_lt_of_le gl2 hx1.size; have g3 := Nat.lt_of_lt_of_le gl3 hx1.size
       clear hv1 hx1)
    | (go_at_call 203; refine (HGR.out _ HX1.out).mono ?_; rintro e w2 ⟨rfl, hx2⟩
       have HX2 := Lib.hid (HX1.out.trans' hx2); have HV2 := Lib.hid (HV1.out.ext hx2); have p0 := (HSW.out _ HX2.out).1; have p1 := (HSW.out _ HX2.out).2.1; have p2 := (HSW.out _ HX2.out).2.2.1; have p3 := (HSW.out _ HX2.out).2.2.2.1; have q0 := (HSW.out _ HX2.out).2.2.2.2.1; have q1 := (HSW.out _ HX2.out).2.2.2.2.2.1; have q2 := (HSW.out _ HX2.out).2.2.2.2.2.2.1; have s0 := (HSW.out _ HX2.out).2.2.2.2.2.2.2.1; have s1 := (HSW.out _ HX2.out).2.2.2.2.2.2.2.2; have g4 := Nat.lt_of_lt_of_le gl HX2.out.size; have g5 := Nat.lt_of_lt_of_le gl2 HX2.out.size; have g6 := Nat.lt_of_lt_of_le gl3 HX2.out.size
       clear hx2)
    | fail)
   go_region_held3 (fun W' => W'.cell? ⟨w.heap.size, 0, none⟩ = some (.slice A1 B.rules.length c1) ∧ W'.cell? ⟨w.heap.size, 1, none⟩ = some (.int .i64 B.time) ∧ W'.cell? ⟨w.heap.size, 2, none⟩ = some (.slice A2 B.given.length c2) ∧ W'.cell? ⟨w.heap.size, 3, none⟩ = some (.slice A3 B.hist.length c3) ∧ W'.cell? ⟨w.heap.size + 1, 0, none⟩ = some (.int .i64 t.from_) ∧ W'.cell? ⟨w.heap.size + 1, 1, none⟩ = some (.slice X t.change.comes.length cx) ∧ W'.cell? ⟨w.heap.size + 1, 2, none⟩ = some (.slice Y t.change.goes.length cy) ∧ W'.cell? ⟨w.heap.size + 1 + 1, 0, none⟩ = some (.string a.n) ∧ W'.cell? ⟨w.heap.size + 1 + 1, 1, none⟩ = some (.slice D a.args.length f))
    (first | exact HSY.out _ (HX2.out.trans' HX7.out) _ _ _ | exact HSW.out _ (HX2.out.trans' HX7.out) | exact HSW.out _ (HX2.out.trans' (Ext.refl w2).drew))
    ((go_at_call 204; refine (HLC.out _ (HX2.out.trans' (Ext.refl w2).drew)).mono ?_; rintro e w7 ⟨⟨x7, y7, rfl, hx7', hy7'⟩, hx7⟩
      obtain ⟨P1, k1, rfl, _, _⟩ := SliceR.form hx7'; obtain ⟨P2, k2, rfl, _, _⟩ := SliceR.form hy7'; have HX7 := Lib.hid ((Ext.refl w2).drew.trans' hx7); have hwx := (HX2.out.trans' (Ext.refl w2).drew).size; have HO1 := Lib.hid (show AtomsR (From W.heap.size) w7 (.slice P1 t.change.comes.length k1) t.change.comes from AtomsR.sub hx7' (fromLe hwx)); have HO2 := Lib.hid (show AtomsR (From W.heap.size) w7 (.slice P2 t.change.goes.length k2) t.change.goes from AtomsR.sub hy7' (fromLe hwx)); have HXX := Lib.hid (HX2.out.trans' HX7.out); have HB9 := Lib.hid (HB4.out.ext HXX.out); have y0 := HB9.out.cell 0; have y1 := HB9.out.cell 1; have y2 := HB9.out.cell 2; have yf0 := HB9.out.frozen 0; have yf1 := HB9.out.frozen 1; have yf2 := HB9.out.frozen 2; have yl := HB9.out.lt
      clear hx7' hy7' hx7))
   all_goals go_wp2_with fail
   all_goals
    refine bodyPost_ret (v := .tuple #[.agg #[.int .i64 t.from_, .slice P1 t.change.comes.length k1, .slice P2 t.change.goes.length k2], .int .i64 1]) (by simp [results, Tryz.results147, go_sem, y0, y1, y2, yf0, yf1, yf2, yl]) rfl ?_; have hfin := txn_out (w := w) (W := W) (g := w.heap.size + 1 + 1 + 1) (t := t) (f := t.from_) rfl (HX.out.trans' HXX.out) (by omega) (by omega) HO1.out HO2.out (by omega); rw [HRES.out]; exact ⟨⟨_, rfl, hfin.1⟩, hfin.2⟩
 · have HRES := Lib.hid (show addL B t a = (t, 1) from HPL.out)
   go_enter Tryz.func147, Tryz.ntmps147
   go_upto_region 1 with fail
   rw [← hW]; clear hW
   go_upto_region 3 with (first
    | (go_at_call 202; refine HSE.out.mono ?_; rintro e w1 ⟨⟨v1, rfl, hv1⟩, hx1⟩
       obtain ⟨O1, o1, rfl, _, _⟩ := SliceR.form hv1; have HV1 := Lib.hid hv1; have HX1 := Lib.hid hx1; have p0 := (HSW.out _ hx1).1; have p1 := (HSW.out _ hx1).2.1; have p2 := (HSW.out _ hx1).2.2.1; have p3 := (HSW.out _ hx1).2.2.2.1; have q0 := (HSW.out _ hx1).2.2.2.2.1; have q1 := (HSW.out _ hx1).2.2.2.2.2.1; have q2 := (HSW.out _ hx1).2.2.2.2.2.2.1; have s0 := (HSW.out _ hx1).2.2.2.2.2.2.2.1; have s1 := (HSW.out _ hx1).2.2.2.2.2.2.2.2; have g1 := Nat.lt_of_lt_of_le gl hx1.size; have g2 := Nat.lt_of_lt_of_le gl2 hx1.size; have g3 := Nat.lt_of_lt_of_le gl3 hx1.size
       clear hv1 hx1)
    | (go_at_call 203; refine (HGR.out _ HX1.out).mono ?_; rintro e w2 ⟨rfl, hx2⟩
       have HX2 := Lib.hid (HX1.out.trans' hx2); have HV2 := Lib.hid (HV1.out.ext hx2); have p0 := (HSW.out _ HX2.out).1; have p1 := (HSW.out _ HX2.out).2.1; have p2 := (HSW.out _ HX2.out).2.2.1; have p3 := (HSW.out _ HX2.out).2.2.2.1; have q0 := (HSW.out _ HX2.out).2.2.2.2.1; have q1 := (HSW.out _ HX2.out).2.2.2.2.2.1; have q2 := (HSW.out _ HX2.out).2.2.2.2.2.2.1; have s0 := (HSW.out _ HX2.out).2.2.2.2.2.2.2.1; have s1 := (HSW.out _ HX2.out).2.2.2.2.2.2.2.2; have g4 := Nat.lt_of_lt_of_le gl HX2.out.size; have g5 := Nat.lt_of_lt_of_le gl2 HX2.out.size; have g6 := Nat.lt_of_lt_of_le gl3 HX2.out.size
       clear hx2)
    | (go_at_call 207; refine (HFT.out _ HX2.out).mono ?_; rintro e w3 ⟨rfl, hx3⟩
       have HX3 := Lib.hid ((HX2.out.alloc _).trans' hx3); have HV3 := Lib.hid ((HV2.out.ext ((Ext.refl _).alloc _)).ext hx3); have p0 := (HSW.out _ HX3.out).1; have p1 := (HSW.out _ HX3.out).2.1; have p2 := (HSW.out _ HX3.out).2.2.1; have p3 := (HSW.out _ HX3.out).2.2.2.1; have q0 := (HSW.out _ HX3.out).2.2.2.2.1; have q1 := (HSW.out _ HX3.out).2.2.2.2.2.1; have q2 := (HSW.out _ HX3.out).2.2.2.2.2.2.1; have s0 := (HSW.out _ HX3.out).2.2.2.2.2.2.2.1; have s1 := (HSW.out _ HX3.out).2.2.2.2.2.2.2.2; have g7 := Nat.lt_of_lt_of_le gl HX3.out.size; have g8 := Nat.lt_of_lt_of_le gl2 HX3.out.size; have g9 := Nat.lt_of_lt_of_le gl3 HX3.out.size
       clear hx3)
    | fail)
   go_region_held3 (fun W' => W'.cell? ⟨w.heap.size, 0, none⟩ = some (.slice A1 B.rules.length c1) ∧ W'.cell? ⟨w.heap.size, 1, none⟩ = some (.int .i64 B.time) ∧ W'.cell? ⟨w.heap.size, 2, none⟩ = some (.slice A2 B.given.length c2) ∧ W'.cell? ⟨w.heap.size, 3, none⟩ = some (.slice A3 B.hist.length c3) ∧ W'.cell? ⟨w.heap.size + 1, 0, none⟩ = some (.int .i64 t.from_) ∧ W'.cell? ⟨w.heap.size + 1, 1, none⟩ = some (.slice X t.change.comes.length cx) ∧ W'.cell? ⟨w.heap.size + 1, 2, none⟩ = some (.slice Y t.change.goes.length cy) ∧ W'.cell? ⟨w.heap.size + 1 + 1, 0, none⟩ = some (.string a.n) ∧ W'.cell? ⟨w.heap.size + 1 + 1, 1, none⟩ = some (.slice D a.args.length f))
    (first | exact HSY.out _ (HX3.out.trans' HX7.out) _ _ _ | exact HSW.out _ (HX3.out.trans' HX7.out) | exact HSW.out _ (HX3.out.trans' (Ext.refl w3).drew))
    ((go_at_call 204; refine (HLC.out _ (HX3.out.trans' (Ext.refl w3).drew)).mono ?_; rintro e w7 ⟨⟨x7, y7, rfl, hx7', hy7'⟩, hx7⟩
      obtain ⟨P1, k1, rfl, _, _⟩ := SliceR.form hx7'; obtain ⟨P2, k2, rfl, _, _⟩ := SliceR.form hy7'; have HX7 := Lib.hid ((Ext.refl w3).drew.trans' hx7); have hwx := (HX3.out.trans' (Ext.refl w3).drew).size; have HO1 := Lib.hid (show AtomsR (From W.heap.size) w7 (.slice P1 t.change.comes.length k1) t.change.comes from AtomsR.sub hx7' (fromLe hwx)); have HO2 := Lib.hid (show AtomsR (From W.heap.size) w7 (.slice P2 t.change.goes.length k2) t.change.goes from AtomsR.sub hy7' (fromLe hwx)); have HXX := Lib.hid (HX3.out.trans' HX7.out); have HB9 := Lib.hid (HB4.out.ext HXX.out); have y0 := HB9.out.cell 0; have y1 := HB9.out.cell 1; have y2 := HB9.out.cell 2; have yf0 := HB9.out.frozen 0; have yf1 := HB9.out.frozen 1; have yf2 := HB9.out.frozen 2; have yl := HB9.out.lt
      clear hx7' hy7' hx7))
   all_goals go_wp2_with fail
   all_goals
    refine bodyPost_ret (v := .tuple #[.agg #[.int .i64 t.from_, .slice P1 t.change.comes.length k1, .slice P2 t.change.goes.length k2], .int .i64 1]) (by simp [results, Tryz.results147, go_sem, y0, y1, y2, yf0, yf1, yf2, yl]) rfl ?_; have hfin := txn_out (w := w) (W := W) (g := w.heap.size + 1 + 1 + 1) (t := t) (f := t.from_) rfl (HX.out.trans' HXX.out) (by omega) (by omega) HO1.out HO2.out (by omega); rw [HRES.out]; exact ⟨⟨_, rfl, hfin.1⟩, hfin.2⟩
 · have HRES := Lib.hid (show addL B t a = (t, 2) from HPL.out)
   go_enter Tryz.func147, Tryz.ntmps147
   go_upto_region 1 with fail
   rw [← hW]; clear hW
   go_upto_region 5 with (first
    | (go_at_call 202; refine HSE.out.mono ?_; rintro e w1 ⟨⟨v1, rfl, hv1⟩, hx1⟩
       obtain ⟨O1, o1, rfl, _, _⟩ := SliceR.form hv1; have HV1 := Lib.hid hv1; have HX1 := Lib.hid hx1; have p0 := (HSW.out _ hx1).1; have p1 := (HSW.out _ hx1).2.1; have p2 := (HSW.out _ hx1).2.2.1; have p3 := (HSW.out _ hx1).2.2.2.1; have q0 := (HSW.out _ hx1).2.2.2.2.1; have q1 := (HSW.out _ hx1).2.2.2.2.2.1; have q2 := (HSW.out _ hx1).2.2.2.2.2.2.1; have s0 := (HSW.out _ hx1).2.2.2.2.2.2.2.1; have s1 := (HSW.out _ hx1).2.2.2.2.2.2.2.2; have g1 := Nat.lt_of_lt_of_le gl hx1.size; have g2 := Nat.lt_of_lt_of_le gl2 hx1.size; have g3 := Nat.lt_of_lt_of_le gl3 hx1.size
       clear hv1 hx1)
    | (go_at_call 203; refine (HGR.out _ HX1.out).mono ?_; rintro e w2 ⟨rfl, hx2⟩
       have HX2 := Lib.hid (HX1.out.trans' hx2); have HV2 := Lib.hid (HV1.out.ext hx2); have p0 := (HSW.out _ HX2.out).1; have p1 := (HSW.out _ HX2.out).2.1; have p2 := (HSW.out _ HX2.out).2.2.1; have p3 := (HSW.out _ HX2.out).2.2.2.1; have q0 := (HSW.out _ HX2.out).2.2.2.2.1; have q1 := (HSW.out _ HX2.out).2.2.2.2.2.1; have q2 := (HSW.out _ HX2.out).2.2.2.2.2.2.1; have s0 := (HSW.out _ HX2.out).2.2.2.2.2.2.2.1; have s1 := (HSW.out _ HX2.out).2.2.2.2.2.2.2.2; have g4 := Nat.lt_of_lt_of_le gl HX2.out.size; have g5 := Nat.lt_of_lt_of_le gl2 HX2.out.size; have g6 := Nat.lt_of_lt_of_le gl3 HX2.out.size
       clear hx2)
    | (go_at_call 207; refine (HFT.out _ HX2.out).mono ?_; rintro e w3 ⟨rfl, hx3⟩
       have HX3 := Lib.hid ((HX2.out.alloc _).trans' hx3); have HV3 := Lib.hid ((HV2.out.ext ((Ext.refl _).alloc _)).ext hx3); have p0 := (HSW.out _ HX3.out).1; have p1 := (HSW.out _ HX3.out).2.1; have p2 := (HSW.out _ HX3.out).2.2.1; have p3 := (HSW.out _ HX3.out).2.2.2.1; have q0 := (HSW.out _ HX3.out).2.2.2.2.1; have q1 := (HSW.out _ HX3.out).2.2.2.2.2.1; have q2 := (HSW.out _ HX3.out).2.2.2.2.2.2.1; have s0 := (HSW.out _ HX3.out).2.2.2.2.2.2.2.1; have s1 := (HSW.out _ HX3.out).2.2.2.2.2.2.2.2; have g7 := Nat.lt_of_lt_of_le gl HX3.out.size; have g8 := Nat.lt_of_lt_of_le gl2 HX3.out.size; have g9 := Nat.lt_of_lt_of_le gl3 HX3.out.size
       clear hx3)
    | (go_at_call 104; refine (HHA.out _ _ _ HX3.out HV3.out).mono ?_; rintro e w4 ⟨rfl, hx4⟩
       have HX4 := Lib.hid (HX3.out.trans' hx4); have HV4 := Lib.hid (HV3.out.ext hx4); have p0 := (HSW.out _ HX4.out).1; have p1 := (HSW.out _ HX4.out).2.1; have p2 := (HSW.out _ HX4.out).2.2.1; have p3 := (HSW.out _ HX4.out).2.2.2.1; have q0 := (HSW.out _ HX4.out).2.2.2.2.1; have q1 := (HSW.out _ HX4.out).2.2.2.2.2.1; have q2 := (HSW.out _ HX4.out).2.2.2.2.2.2.1; have s0 := (HSW.out _ HX4.out).2.2.2.2.2.2.2.1; have s1 := (HSW.out _ HX4.out).2.2.2.2.2.2.2.2; have g10 := Nat.lt_of_lt_of_le gl HX4.out.size; have g11 := Nat.lt_of_lt_of_le gl2 HX4.out.size; have g12 := Nat.lt_of_lt_of_le gl3 HX4.out.size
       clear hx4)
    | fail)
   go_region_held3 (fun W' => W'.cell? ⟨w.heap.size, 0, none⟩ = some (.slice A1 B.rules.length c1) ∧ W'.cell? ⟨w.heap.size, 1, none⟩ = some (.int .i64 B.time) ∧ W'.cell? ⟨w.heap.size, 2, none⟩ = some (.slice A2 B.given.length c2) ∧ W'.cell? ⟨w.heap.size, 3, none⟩ = some (.slice A3 B.hist.length c3) ∧ W'.cell? ⟨w.heap.size + 1, 0, none⟩ = some (.int .i64 t.from_) ∧ W'.cell? ⟨w.heap.size + 1, 1, none⟩ = some (.slice X t.change.comes.length cx) ∧ W'.cell? ⟨w.heap.size + 1, 2, none⟩ = some (.slice Y t.change.goes.length cy) ∧ W'.cell? ⟨w.heap.size + 1 + 1, 0, none⟩ = some (.string a.n) ∧ W'.cell? ⟨w.heap.size + 1 + 1, 1, none⟩ = some (.slice D a.args.length f))
    (first | exact HSY.out _ (HX4.out.trans' HX7.out) _ _ _ | exact HSW.out _ (HX4.out.trans' HX7.out) | exact HSW.out _ (HX4.out.trans' (Ext.refl w4).drew))
    ((go_at_call 204; refine (HLC.out _ (HX4.out.trans' (Ext.refl w4).drew)).mono ?_; rintro e w7 ⟨⟨x7, y7, rfl, hx7', hy7'⟩, hx7⟩
      obtain ⟨P1, k1, rfl, _, _⟩ := SliceR.form hx7'; obtain ⟨P2, k2, rfl, _, _⟩ := SliceR.form hy7'; have HX7 := Lib.hid ((Ext.refl w4).drew.trans' hx7); have hwx := (HX4.out.trans' (Ext.refl w4).drew).size; have HO1 := Lib.hid (show AtomsR (From W.heap.size) w7 (.slice P1 t.change.comes.length k1) t.change.comes from AtomsR.sub hx7' (fromLe hwx)); have HO2 := Lib.hid (show AtomsR (From W.heap.size) w7 (.slice P2 t.change.goes.length k2) t.change.goes from AtomsR.sub hy7' (fromLe hwx)); have HXX := Lib.hid (HX4.out.trans' HX7.out); have HB9 := Lib.hid (HB4.out.ext HXX.out); have y0 := HB9.out.cell 0; have y1 := HB9.out.cell 1; have y2 := HB9.out.cell 2; have yf0 := HB9.out.frozen 0; have yf1 := HB9.out.frozen 1; have yf2 := HB9.out.frozen 2; have yl := HB9.out.lt
      clear hx7' hy7' hx7))
   all_goals go_wp2_with fail
   all_goals
    refine bodyPost_ret (v := .tuple #[.agg #[.int .i64 t.from_, .slice P1 t.change.comes.length k1, .slice P2 t.change.goes.length k2], .int .i64 2]) (by simp [results, Tryz.results147, go_sem, y0, y1, y2, yf0, yf1, yf2, yl]) rfl ?_; have hfin := txn_out (w := w) (W := W) (g := w.heap.size + 1 + 1 + 1) (t := t) (f := t.from_) rfl (HX.out.trans' HXX.out) (by omega) (by omega) HO1.out HO2.out (by omega); rw [HRES.out]; exact ⟨⟨_, rfl, hfin.1⟩, hfin.2⟩
 have HRES := Lib.hid (show addL B t a = toL B t (putA sl a) from HPL.out)
 have hdl : ∀ y ∈ putA sl a, wAtom y ≤ 80 := fun y hy => by
  rcases putA_mem hy with h | rfl
  · exact hsl.2 y h
  exact hwa
 have hdn := putA_one sl a; have hsn := hsl.1
 go_enter Tryz.func147, Tryz.ntmps147
 go_upto_region 1 with fail
 rw [← hW]; clear hW
 go_upto_region 6 with (first
  | (go_at_call 202; refine HSE.out.mono ?_; rintro e w1 ⟨⟨v1, rfl, hv1⟩, hx1⟩
     obtain ⟨O1, o1, rfl, _, _⟩ := SliceR.form hv1; have HV1 := Lib.hid hv1; have HX1 := Lib.hid hx1; have p0 := (HSW.out _ hx1).1; have p1 := (HSW.out _ hx1).2.1; have p2 := (HSW.out _ hx1).2.2.1; have p3 := (HSW.out _ hx1).2.2.2.1; have q0 := (HSW.out _ hx1).2.2.2.2.1; have q1 := (HSW.out _ hx1).2.2.2.2.2.1; have q2 := (HSW.out _ hx1).2.2.2.2.2.2.1; have s0 := (HSW.out _ hx1).2.2.2.2.2.2.2.1; have s1 := (HSW.out _ hx1).2.2.2.2.2.2.2.2; have g1 := Nat.lt_of_lt_of_le gl hx1.size; have g2 := Nat.lt_of_lt_of_le gl2 hx1.size; have g3 := Nat.lt_of_lt_of_le gl3 hx1.size
     clear hv1 hx1)
  | (go_at_call 203; refine (HGR.out _ HX1.out).mono ?_; rintro e w2 ⟨rfl, hx2⟩
     have HX2 := Lib.hid (HX1.out.trans' hx2); have HV2 := Lib.hid (HV1.out.ext hx2); have p0 := (HSW.out _ HX2.out).1; have p1 := (HSW.out _ HX2.out).2.1; have p2 := (HSW.out _ HX2.out).2.2.1; have p3 := (HSW.out _ HX2.out).2.2.2.1; have q0 := (HSW.out _ HX2.out).2.2.2.2.1; have q1 := (HSW.out _ HX2.out).2.2.2.2.2.1; have q2 := (HSW.out _ HX2.out).2.2.2.2.2.2.1; have s0 := (HSW.out _ HX2.out).2.2.2.2.2.2.2.1; have s1 := (HSW.out _ HX2.out).2.2.2.2.2.2.2.2; have g4 := Nat.lt_of_lt_of_le gl HX2.out.size; have g5 := Nat.lt_of_lt_of_le gl2 HX2.out.size; have g6 := Nat.lt_of_lt_of_le gl3 HX2.out.size
     clear hx2)
  | (go_at_call 207; refine (HFT.out _ HX2.out).mono ?_; rintro e w3 ⟨rfl, hx3⟩
     have HX3 := Lib.hid ((HX2.out.alloc _).trans' hx3); have HV3 := Lib.hid ((HV2.out.ext ((Ext.refl _).alloc _)).ext hx3); have p0 := (HSW.out _ HX3.out).1; have p1 := (HSW.out _ HX3.out).2.1; have p2 := (HSW.out _ HX3.out).2.2.1; have p3 := (HSW.out _ HX3.out).2.2.2.1; have q0 := (HSW.out _ HX3.out).2.2.2.2.1; have q1 := (HSW.out _ HX3.out).2.2.2.2.2.1; have q2 := (HSW.out _ HX3.out).2.2.2.2.2.2.1; have s0 := (HSW.out _ HX3.out).2.2.2.2.2.2.2.1; have s1 := (HSW.out _ HX3.out).2.2.2.2.2.2.2.2; have g7 := Nat.lt_of_lt_of_le gl HX3.out.size; have g8 := Nat.lt_of_lt_of_le gl2 HX3.out.size; have g9 := Nat.lt_of_lt_of_le gl3 HX3.out.size
     clear hx3)
  | (go_at_call 104; refine (HHA.out _ _ _ HX3.out HV3.out).mono ?_; rintro e w4 ⟨rfl, hx4⟩
     have HX4 := Lib.hid (HX3.out.trans' hx4); have HV4 := Lib.hid (HV3.out.ext hx4); have p0 := (HSW.out _ HX4.out).1; have p1 := (HSW.out _ HX4.out).2.1; have p2 := (HSW.out _ HX4.out).2.2.1; have p3 := (HSW.out _ HX4.out).2.2.2.1; have q0 := (HSW.out _ HX4.out).2.2.2.2.1; have q1 := (HSW.out _ HX4.out).2.2.2.2.2.1; have q2 := (HSW.out _ HX4.out).2.2.2.2.2.2.1; have s0 := (HSW.out _ HX4.out).2.2.2.2.2.2.2.1; have s1 := (HSW.out _ HX4.out).2.2.2.2.2.2.2.2; have g10 := Nat.lt_of_lt_of_le gl HX4.out.size; have g11 := Nat.lt_of_lt_of_le gl2 HX4.out.size; have g12 := Nat.lt_of_lt_of_le gl3 HX4.out.size
     clear hx4)
  | fail)
 go_region_held3 (fun W' => W'.cell? ⟨w.heap.size, 0, none⟩ = some (.slice A1 B.rules.length c1) ∧ W'.cell? ⟨w.heap.size, 1, none⟩ = some (.int .i64 B.time) ∧ W'.cell? ⟨w.heap.size, 2, none⟩ = some (.slice A2 B.given.length c2) ∧ W'.cell? ⟨w.heap.size, 3, none⟩ = some (.slice A3 B.hist.length c3) ∧ W'.cell? ⟨w.heap.size + 1, 0, none⟩ = some (.int .i64 t.from_) ∧ W'.cell? ⟨w.heap.size + 1, 1, none⟩ = some (.slice X t.change.comes.length cx) ∧ W'.cell? ⟨w.heap.size + 1, 2, none⟩ = some (.slice Y t.change.goes.length cy) ∧ W'.cell? ⟨w.heap.size + 1 + 1, 0, none⟩ = some (.string a.n) ∧ W'.cell? ⟨w.heap.size + 1 + 1, 1, none⟩ = some (.slice D a.args.length f))
  (first | exact HSY.out _ HXX.out _ _ _ | exact HSW.out _ HXX.out | exact HSW.out _ HX8.out | exact HSW.out _ HX7.out | exact HSW.out _ (HX4.out.trans' (Ext.refl w4).drew))
  (first
   | (go_at_call 74; refine (l3PutL_any _ _ sl a _ (HV4.out.ext (Ext.refl w4).drew) ((HAX.out.ext HX4.out).ext (Ext.refl w4).drew) hs (by omega)).mono ?_; rintro e w7 ⟨⟨v7, rfl, hv7⟩, hx7⟩
      obtain ⟨P7, k7, rfl, _, _⟩ := SliceR.form hv7; have HX7 := Lib.hid (HX4.out.trans' ((Ext.refl w4).drew.trans' hx7)); have HV7 := Lib.hid hv7
      clear hv7 hx7)
   | (go_at_call 168; refine (l3Copy_any _ _ _ HV7.out (by omega) (fun y hy => by have := wAtom_args y; have := hdl y hy; omega)).mono ?_; rintro e w8 ⟨⟨v8, rfl, hv8⟩, hx8⟩
      obtain ⟨P8, k8, rfl, _, _⟩ := SliceR.form hv8; have HX8 := Lib.hid (HX7.out.trans' hx8); have HV8 := Lib.hid hv8
      clear hv8 hx8)
   | (go_at_call 205; refine (HTO.out _ _ _ _ HX8.out HV8.out).mono ?_; rintro e w9 ⟨⟨y9, rfl, hy9⟩, hx9⟩
      obtain ⟨xa, xb, rfl, h91, h92⟩ := hy9; obtain ⟨P1, k1, rfl, _, _⟩ := SliceR.form h91; obtain ⟨P2, k2, rfl, _, _⟩ := SliceR.form h92; have HXX := Lib.hid (HX8.out.trans' hx9); have HO1 := Lib.hid (AtomsR.sub h91 (fromLe HX8.out.size)); have HO2 := Lib.hid (AtomsR.sub h92 (fromLe HX8.out.size)); have HB9 := Lib.hid (HB4.out.ext HXX.out); have y0 := HB9.out.cell 0; have y1 := HB9.out.cell 1; have y2 := HB9.out.cell 2; have yf0 := HB9.out.frozen 0; have yf1 := HB9.out.frozen 1; have yf2 := HB9.out.frozen 2; have yl := HB9.out.lt
      clear h91 h92 hx9))
 all_goals go_wp2_with fail
 all_goals
  refine bodyPost_ret (v := .tuple #[.agg #[.int .i64 (toL B t (putA sl a)).1.from_, .slice P1 (toL B t (putA sl a)).1.change.comes.length k1, .slice P2 (toL B t (putA sl a)).1.change.goes.length k2], .int .i64 (((toL B t (putA sl a)).2 : Nat) : Int)]) (by simp [results, Tryz.results147, go_sem, y0, y1, y2, yf0, yf1, yf2, yl]) rfl ?_; have hfin := txn_out (w := w) (W := W) (g := w.heap.size + 1 + 1 + 1) (t := (toL B t (putA sl a)).1) (f := (toL B t (putA sl a)).1.from_) rfl (HX.out.trans' HXX.out) (by omega) (by omega) HO1.out HO2.out (by omega); rw [HRES.out]; exact ⟨⟨_, rfl, hfin.1⟩, hfin.2⟩
end Go.Proofs.YtmihponoillihaaGreatDoor
