/- For every time and change FnExactLogPut returns true and leaves the change as it was. No condition but the card's: what the listed tables hold. -/
import Derived.Test.YtgcknheoojpokaaDoorLogPut
import Derived.Test.YtgcknheoojpokaaDoorSz
import Derived.Test.YtgcknheoojpokaaDoorTo
import Derived.Test.YtgcknheoojpokaaDoorEq
import Derived.Test.YtgcknheoojpokaaDoorRead
import Derived.Deep.RegionHeld3
import Derived.Test.YtgcknheoojpokaaDoorLaw
import Derived.Lib.SmallJoins
import Derived.Test.YtgcknheoojpokaaDoorTie
import Derived.Test.YtgcknheoojpokaaDoorCards
import Derived.LaidMore
import Derived.OpenShut
import Derived.MakeChecks
import Derived.Stop.LaidErr
import Derived.Lib.LaidTab
namespace Go.Proofs.YtgcknheoojpokaaDoor
open Go.RowKit Go.ChangeShapes Go.WideShapes Go.ChangeAt Go.Joins

set_option maxRecDepth 100000 in
set_option maxHeartbeats 4000000 in
theorem exactLogPut_any (t : Int) (g : GC) (v u : Value) (w : World) {S : Nat → Prop} (hv : AtomsR S w v g.comes) (hu : AtomsR S w u g.goes) (htab : Lib.TabIs Tryd.prog w "internal/strconv.uint64pow10" .u64 Lib.pow10Tab) :
    Calls Tryd.prog 3 #[.int .i64 t, .agg #[v, u]] w fun e w' => e = .returned (.bool true) ∧ Ext w w' := by
  obtain ⟨A, c, rfl, hc1, hc2⟩ := SliceR.form hv
  obtain ⟨B, d, rfl, hd1, hd2⟩ := SliceR.form hu
  have hb0 : Blk (w.alloc (.cells #[.slice A g.comes.length c, .slice B g.goes.length d] 24)) w.heap.size 24 #[.slice A g.comes.length c, .slice B g.goes.length d] := Blk.new _ _ _
  have HB := Lib.hid hb0
  have HV := Lib.hid (hv.ext ((Ext.refl w).alloc (.cells #[.slice A g.comes.length c, .slice B g.goes.length d] 24)))
  have HU := Lib.hid (hu.ext ((Ext.refl w).alloc (.cells #[.slice A g.comes.length c, .slice B g.goes.length d] 24)))
  have HP := Lib.hid (pow_ext htab ((Ext.refl w).alloc (.cells #[.slice A g.comes.length c, .slice B g.goes.length d] 24)))
  clear hv hu hb0 htab
  have hw := two_ways (szChange_any g _ _ 1048576 _ ⟨by omega, by omega⟩ HV.out HU.out)
  by_cases hsz : (1048576 : Int) < wChange g
  · have HW := Lib.hid (hw.1 hsz)
    clear hw hsz
    go_enter Tryd.func3, Tryd.ntmps3
    go_wp2_with (go_at_call 5; refine HW.out.mono ?_; rintro e w1 ⟨rfl, hx1⟩)
    go_ret
    exact ⟨rfl, ((Ext.refl _).alloc _).trans' hx1⟩
  · have hle : wChange g ≤ 1048576 := by omega
    have HW := Lib.hid (hw.2 (by omega))
    have HL := Lib.hid hle
    have hr0 : (0 : Int) ≤ 1048576 - (wChange g : Int) := by omega
    clear hw hsz hle
    have tok : True := trivial
    have tok2 : True := trivial
    go_enter Tryd.func3, Tryd.ntmps3
    go_wp2_with (first
      | (go_at_call 5; refine HW.out.mono ?_; clear HW; rintro e w1 ⟨rfl, hx1⟩; have hb1 := HB.out.ext hx1; have q10 := hb1.cell 0; have q11 := hb1.cell 1; have HX1 := Lib.hid hx1; clear hx1 hb1)
      | (go_at_call 7; have _t := tok; refine (toChange_any g _ _ _ (HV.out.ext HX1.out) (HU.out.ext HX1.out) HL.out).mono ?_; clear tok _t; rintro e w2 ⟨⟨v2, u2, rfl, hv2, hu2⟩, hx2⟩; have HV2 := Lib.hid hv2; have HU2 := Lib.hid hu2; have HX2 := Lib.hid (HX1.out.trans' hx2); clear hv2 hu2 hx2)
      | (go_at_call 6; refine (specLogPut_any t g _ _ _ HV2.out HU2.out).mono ?_; rintro e w3 ⟨rfl, hx3⟩; have HX3 := Lib.hid (HX2.out.trans' hx3); have hb3 := HB.out.ext HX3.out; have q30 := hb3.cell 0; have q31 := hb3.cell 1; clear hx3 hb3)
      | (go_at_call 7; have _t := tok2; refine (toChange_any g _ _ _ (HV.out.ext HX3.out) (HU.out.ext HX3.out) HL.out).mono ?_; clear tok2 _t; rintro e w4 ⟨⟨v4, u4, rfl, hv4, hu4⟩, hx4⟩; obtain ⟨A4, c4, rfl, h41, h42⟩ := SliceR.form hv4; obtain ⟨B4, d4, rfl, h43, h44⟩ := SliceR.form hu4; have HV4 := Lib.hid hv4; have HU4 := Lib.hid hu4; have HX4 := Lib.hid (HX3.out.trans' hx4); clear hv4 hu4 hx4)
      | (go_at_call 8; refine (logPut_any t g _ _ _ (HV4.out.ext ((Ext.refl _).alloc _)) (HU4.out.ext ((Ext.refl _).alloc _)) (pow_ext HP.out (HX4.out.alloc _))).mono ?_; rintro e w5 ⟨rfl, hx5⟩; have HX5 := Lib.hid ((HX4.out.alloc _).trans' hx5); have HY5 := Lib.hid hx5; have hb5 := HB.out.ext HX5.out; have q50 := hb5.cell 0; have q51 := hb5.cell 1; have hb6 := (Blk.new w4 29 #[.slice A4 g.comes.length c4, .slice B4 g.goes.length d4]).ext hx5; have q60 := hb6.cell 0; have q61 := hb6.cell 1; have hz5 := hx5.size; clear hx5 hb5 hb6))
    have hl1 : w.heap.size < w5.heap.size := cell_lt q50
    have hl2 : w4.heap.size < w5.heap.size := cell_lt q60
    go_region_held3 (fun w' => w'.cell? ⟨w.heap.size, 0, none⟩ = some (.slice A g.comes.length c) ∧ w'.cell? ⟨w.heap.size, 1, none⟩ = some (.slice B g.goes.length d) ∧
        w'.cell? ⟨w4.heap.size, 0, none⟩ = some (.slice A4 g.comes.length c4) ∧ w'.cell? ⟨w4.heap.size, 1, none⟩ = some (.slice B4 g.goes.length d4))
      (first | exact ⟨q50, q51, q60, q61⟩ | exact ⟨q70, q71, q80, q81⟩ | exact ⟨q90, q91, q92, q93⟩)
      (first
        | (go_at_call 7; refine (toChange_any g _ _ _ (HV.out.ext HX5.out.drew) (HU.out.ext HX5.out.drew) HL.out).mono ?_; rintro e w6 ⟨⟨v6, u6, rfl, hv6, hu6⟩, hx6⟩; have HV6 := Lib.hid hv6; have HU6 := Lib.hid hu6; have HX6 := Lib.hid hx6; have q70 := (KeepR.of_ext (R := Any) hx6).cell trivial q50; have q71 := (KeepR.of_ext (R := Any) hx6).cell trivial q51; have q80 := (KeepR.of_ext (R := Any) hx6).cell trivial q60; have q81 := (KeepR.of_ext (R := Any) hx6).cell trivial q61; clear hv6 hu6 hx6)
        | (go_at_call 9; refine (eqChange_same g _ _ _ _ _ (HV4.out.ext ((((Ext.refl _).alloc _).trans' HY5.out).drew.trans' HX6.out)) (HU4.out.ext ((((Ext.refl _).alloc _).trans' HY5.out).drew.trans' HX6.out)) HV6.out HU6.out).mono ?_; rintro e w7 ⟨rfl, hx7⟩; have q90 := (KeepR.of_ext (R := Any) hx7).cell trivial q70; have q91 := (KeepR.of_ext (R := Any) hx7).cell trivial q71; have q92 := (KeepR.of_ext (R := Any) hx7).cell trivial q80; have q93 := (KeepR.of_ext (R := Any) hx7).cell trivial q81))
    go_wp2
    go_ret
    exact ⟨rfl, ((((Ext.refl _).alloc _).trans' HX5.out).drew.trans' HX6.out).trans' hx7⟩


theorem law_change_cells : Tryd.prog.cellsOf 24 = 2 := by kernel_rfl
theorem law_laid_plain (W : World) : laidMetH Tryd.prog Rows.fnExactLogPutRow.laid W = laidMet Tryd.prog Rows.fnExactLogPutRow.laid W := MakeChecks.laidMetH_plain _ _ _ (by kernel_rfl)
/-- The door's own heap meets the condition. -/
theorem door_met (os : Os) (args : Array Value) : laidMetH Tryd.prog Rows.fnExactLogPutRow.laid ((World.doorLaid Tryd.prog 4000 os).forCall (fun _ _ => 0) ⟨#[], args, []⟩).memory := by
  rw [law_laid_plain]
  exact laidMet_of_run' 8 (by kernel_rfl) (by kernel_rfl)
theorem pow_laid : (Rows.laid_internal_strconv_uint64pow10 : DataW Unit) = Lib.tabData .u64 Lib.pow10Tab := by kernel_rfl
theorem pow_of_laid {W : World} (h : laidMetH Tryd.prog Rows.fnExactLogPutRow.laid W) : Lib.TabIs Tryd.prog W "internal/strconv.uint64pow10" .u64 Lib.pow10Tab := by
  rw [law_laid_plain] at h
  have h2 : laidMet Tryd.prog [("internal/strconv.uint64pow10", Rows.laid_internal_strconv_uint64pow10)] W := laidMet.tail (laidMet.tail h)
  rw [pow_laid] at h2
  exact Lib.tabIs_of_head (g := 1) (t := 136) (e := 125) (n := 20) (by kernel_rfl) (by kernel_rfl) Tryd.underlying136 Tryd.underlying125 (by kernel_rfl) (by kernel_rfl) h2

set_option maxRecDepth 100000 in
theorem exactLogPut_lifted (os : Os) (started : os.Started) (H : Type) (enc : TypeId × Value → H) :
    ReturnsInHanded {} Tryd.checked os 3 .any (fun w args => (Rows.fnExactLogPutSpec.pre enc Tryd.prog Tryd.f3 [] false w args ∧ laidMetH Tryd.prog Rows.fnExactLogPutRow.laid w) ∧ sizedMet enc Tryd.prog Tryd.f3 (OpenSpec.ofChange Rows.fnExactLogPutSpec) false w args)
      (Rows.fnExactLogPutSpec.post enc Tryd.prog Tryd.f3 false true false false) := by
  refine returnsInHanded_of_change_and (C := Tryd.checked) (X := fun w _ => laidMetH Tryd.prog Rows.fnExactLogPutRow.laid w) (fun _ _ _ hh h => h.of_heap hh) law_own started (by kernel_rfl) Tryd.func3
    (ChangeSpec.witness_shaped (enc := enc) (C := Tryd.checked) (os := os) (X := fun w _ => laidMetH Tryd.prog Rows.fnExactLogPutRow.laid w) false (World.doorLaid Tryd.prog 4000 os) #[.int .i64 0, .agg #[.slice none 0 0, .slice none 0 0]] 8 rfl (World.shaped_of_RefB (by kernel_rfl) (by kernel_rfl)) (by kernel_rfl) (by kernel_rfl) (by kernel_rfl) (door_met os _)) ?_
  intro W base args ds gs before hval0 hW _ _ hL _
  have hval : ∀ (j : Nat) t v, Tryd.f3.params[j]? = some t → args[j]? = some v → Value.okWide Tryd.prog W .any base t v := hval0
  have hW' := hW
  obtain ⟨p, q, hA0, hV, rfl, hfz, hnd⟩ := hW
  have hA : DataW.TrodAll enc Tryd.prog W 0 (fun _ => true) true Tryd.f3.params.toList args.toList ds p := hA0
  rw [Tryd.params3] at hA hval
  obtain ⟨v0, v1, d0, d1, p0, p1, rfl, rfl, rfl, h0, h1⟩ := trodAll_two hA
  obtain ⟨rfl, rfl⟩ := trodVars_none hV
  obtain ⟨t, rfl, rfl, rfl, ht⟩ := open_int Tryd.underlying3 (hval 0 3 v0 rfl rfl) h0
  obtain ⟨c0, c1, y0, y1, m, rfl, rfl, rfl, hy0, hy1⟩ := open_agg2 Tryd.underlying24 (by kernel_rfl) law_change_cells (hval 1 24 v1 rfl rfl) h1
  obtain ⟨xs, hxs⟩ := read_atoms hy0
  obtain ⟨ys, hys⟩ := read_atoms hy1
  have hp := pow_of_laid hL
  clear hA0 hval0
  simp only [List.append_nil] at hW'
  refine (exactLogPut_any t ⟨xs, ys⟩ c0 c1 W hxs hys hp).mono fun e W' ⟨he, hw⟩ => ?_
  subst he
  exact ⟨_, rfl, law_post (t := 4) rfl rfl Tryd.underlying4 rfl law_laidOut (by rw [Tryd.params3]; intro t ht; simp at ht; rcases ht with rfl | rfl <;> exact ⟨by kernel_rfl, of_decide_eq_true (by kernel_rfl)⟩) hW' hw⟩

theorem exactLogPut_row : Rows.FnExactLogPutSaid :=
  OpenClaim.holds_of_wide 3 Tryd.f3 rfl rfl rfl rfl rfl rfl rfl ⟨rfl, rfl, rfl, rfl, rfl⟩ rfl rfl rfl rfl rfl (by kernel_rfl) Tryd.func3 (by kernel_rfl)
    (of_decide_eq_true (by kernel_rfl)) (by unfold Func.isWrapper; rw [if_neg (of_decide_eq_false (by kernel_rfl))]; exact ⟨rfl, rfl⟩)
    (fun os started H enc _ => exactLogPut_lifted os started H enc)

theorem exactLogPut_holds : Rows.FnExactLogPutCardSaid :=
  Claim7.holds_tied_plain_at .later [] [.data, .data, .data] true (true, "75d530749fdfda59e3a25ed6b2cc94c63446dd89f3e9f1f0c1a74d7c1d6bfac8") true
    exactLogPut_row (fun _ h => by cases h) (by kernel_rfl) (fun _ h => by cases h) fnExactLogPut_row_tie rfl ⟨rfl, rfl⟩ (by kernel_rfl) rfl
    (fun f fn hf hfn => by
      obtain rfl : f = 3 := Option.some.inj ((show Tryd.prog.funcNamed "loop.example/springhead/laws.FnExactLogPut" = some 3 by kernel_rfl).symm.trans hf) |>.symm
      obtain rfl : fn = Tryd.f3 := (Option.some.inj (Tryd.func3.symm.trans hfn)).symm
      exact ⟨by kernel_rfl, fun j t ht => by
        rw [Tryd.params3] at ht
        have hm : t ∈ [3, 24] := by simpa using Array.mem_of_getElem? ht
        have hall : ([3, 24].all fun u => !Tryd.prog.wantsStandIn u) = true := by kernel_rfl
        exact (show Tryd.prog.wantsStandIn t = false by simpa using List.all_eq_true.1 hall t hm)⟩)
    (by kernel_rfl)

end Go.Proofs.YtgcknheoojpokaaDoor
