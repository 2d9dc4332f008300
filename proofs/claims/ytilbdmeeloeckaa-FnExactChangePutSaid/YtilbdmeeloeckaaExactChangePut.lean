/- For every change FnExactChangePut returns true and leaves the change as it was. No condition. -/
import Derived.Test.YtilbdmeeloeckaaPut
import Derived.Test.YtilbdmeeloeckaaSz
import Derived.Test.YtilbdmeeloeckaaTo
import Derived.Test.YtilbdmeeloeckaaEq
import Derived.Test.YtilbdmeeloeckaaRead
import Derived.Deep.RegionHeld3
import Derived.Test.YtilbdmeeloeckaaLaw
import Derived.Lib.SmallJoins
namespace Go.Proofs.Ytilbdmeeloeckaa
open Go.RowKit Go.ChangeShapes Go.WideShapes Go.ChangeAt Go.Joins

set_option maxRecDepth 100000 in
set_option maxHeartbeats 4000000 in
theorem exactChangePut_any (g : GC) (v u : Value) (w : World) {S : Nat → Prop} (hv : AtomsR S w v g.comes) (hu : AtomsR S w u g.goes) :
    Calls Try.prog 5 #[.agg #[v, u]] w fun e w' => e = .returned (.bool true) ∧ Ext w w' := by
  obtain ⟨A, c, rfl, hc1, hc2⟩ := SliceR.form hv
  obtain ⟨B, d, rfl, hd1, hd2⟩ := SliceR.form hu
  have hb0 : Blk (w.alloc (.cells #[.slice A g.comes.length c, .slice B g.goes.length d] 29)) w.heap.size 29 #[.slice A g.comes.length c, .slice B g.goes.length d] := Blk.new _ _ _
  have HB := Lib.hid hb0
  have HV := Lib.hid (hv.ext ((Ext.refl w).alloc (.cells #[.slice A g.comes.length c, .slice B g.goes.length d] 29)))
  have HU := Lib.hid (hu.ext ((Ext.refl w).alloc (.cells #[.slice A g.comes.length c, .slice B g.goes.length d] 29)))
  clear hv hu hb0
  have hw := two_ways (szChange_any g _ _ 1048576 _ ⟨by omega, by omega⟩ HV.out HU.out)
  by_cases hsz : (1048576 : Int) < wChange g
  · have HW := Lib.hid (hw.1 hsz)
    clear hw hsz
    go_enter Try.func5, Try.ntmps5
    go_wp2_with (go_at_call 9; refine HW.out.mono ?_; rintro e w1 ⟨rfl, hx1⟩)
    go_ret
    exact ⟨rfl, ((Ext.refl _).alloc _).trans' hx1⟩
  · have hle : wChange g ≤ 1048576 := by omega
    have HW := Lib.hid (hw.2 (by omega))
    have HL := Lib.hid hle
    have hr0 : (0 : Int) ≤ 1048576 - (wChange g : Int) := by omega
    clear hw hsz hle
    have tok : True := trivial
    have tok2 : True := trivial
    go_enter Try.func5, Try.ntmps5
    go_wp2_with (first
      | (go_at_call 9; refine HW.out.mono ?_; clear HW; rintro e w1 ⟨rfl, hx1⟩; have hb1 := HB.out.ext hx1; have q10 := hb1.cell 0; have q11 := hb1.cell 1; have HX1 := Lib.hid hx1; clear hx1 hb1)
      | (go_at_call 11; have _t := tok; refine (toChange_any g _ _ _ (HV.out.ext HX1.out) (HU.out.ext HX1.out) HL.out).mono ?_; clear tok _t; rintro e w2 ⟨⟨v2, u2, rfl, hv2, hu2⟩, hx2⟩; have HV2 := Lib.hid hv2; have HU2 := Lib.hid hu2; have HX2 := Lib.hid (HX1.out.trans' hx2); clear hv2 hu2 hx2)
      | (go_at_call 10; refine (specChangePut_any g _ _ _ HV2.out HU2.out).mono ?_; rintro e w3 ⟨rfl, hx3⟩; have HX3 := Lib.hid (HX2.out.trans' hx3); have hb3 := HB.out.ext HX3.out; have q30 := hb3.cell 0; have q31 := hb3.cell 1; clear hx3 hb3)
      | (go_at_call 11; have _t := tok2; refine (toChange_any g _ _ _ (HV.out.ext HX3.out) (HU.out.ext HX3.out) HL.out).mono ?_; clear tok2 _t; rintro e w4 ⟨⟨v4, u4, rfl, hv4, hu4⟩, hx4⟩; obtain ⟨A4, c4, rfl, h41, h42⟩ := SliceR.form hv4; obtain ⟨B4, d4, rfl, h43, h44⟩ := SliceR.form hu4; have HV4 := Lib.hid hv4; have HU4 := Lib.hid hu4; have HX4 := Lib.hid (HX3.out.trans' hx4); clear hv4 hu4 hx4)
      | (go_at_call 12; refine (changePut_any g _ _ _ (HV4.out.ext ((Ext.refl _).alloc _)) (HU4.out.ext ((Ext.refl _).alloc _))).mono ?_; rintro e w5 ⟨rfl, hx5⟩; have HX5 := Lib.hid ((HX4.out.alloc _).trans' hx5); have HY5 := Lib.hid hx5; have hb5 := HB.out.ext HX5.out; have q50 := hb5.cell 0; have q51 := hb5.cell 1; have hb6 := (Blk.new w4 34 #[.slice A4 g.comes.length c4, .slice B4 g.goes.length d4]).ext hx5; have q60 := hb6.cell 0; have q61 := hb6.cell 1; have hz5 := hx5.size; clear hx5 hb5 hb6))
    have hl1 : w.heap.size < w5.heap.size := cell_lt q50
    have hl2 : w4.heap.size < w5.heap.size := cell_lt q60
    go_region_held3 (fun w' => w'.cell? ⟨w.heap.size, 0, none⟩ = some (.slice A g.comes.length c) ∧ w'.cell? ⟨w.heap.size, 1, none⟩ = some (.slice B g.goes.length d) ∧
        w'.cell? ⟨w4.heap.size, 0, none⟩ = some (.slice A4 g.comes.length c4) ∧ w'.cell? ⟨w4.heap.size, 1, none⟩ = some (.slice B4 g.goes.length d4))
      (first | exact ⟨q50, q51, q60, q61⟩ | exact ⟨q70, q71, q80, q81⟩ | exact ⟨q90, q91, q92, q93⟩)
      (first
        | (go_at_call 11; refine (toChange_any g _ _ _ (HV.out.ext HX5.out.drew) (HU.out.ext HX5.out.drew) HL.out).mono ?_; rintro e w6 ⟨⟨v6, u6, rfl, hv6, hu6⟩, hx6⟩; have HV6 := Lib.hid hv6; have HU6 := Lib.hid hu6; have HX6 := Lib.hid hx6; have q70 := (KeepR.of_ext (R := Any) hx6).cell trivial q50; have q71 := (KeepR.of_ext (R := Any) hx6).cell trivial q51; have q80 := (KeepR.of_ext (R := Any) hx6).cell trivial q60; have q81 := (KeepR.of_ext (R := Any) hx6).cell trivial q61; clear hv6 hu6 hx6)
        | (go_at_call 13; refine (eqChange_same g _ _ _ _ _ (HV4.out.ext ((((Ext.refl _).alloc _).trans' HY5.out).drew.trans' HX6.out)) (HU4.out.ext ((((Ext.refl _).alloc _).trans' HY5.out).drew.trans' HX6.out)) HV6.out HU6.out).mono ?_; rintro e w7 ⟨rfl, hx7⟩; have q90 := (KeepR.of_ext (R := Any) hx7).cell trivial q70; have q91 := (KeepR.of_ext (R := Any) hx7).cell trivial q71; have q92 := (KeepR.of_ext (R := Any) hx7).cell trivial q80; have q93 := (KeepR.of_ext (R := Any) hx7).cell trivial q81))
    go_wp2
    go_ret
    exact ⟨rfl, ((((Ext.refl _).alloc _).trans' HX5.out).drew.trans' HX6.out).trans' hx7⟩

theorem law_change_cells : Try.prog.cellsOf 29 = 2 := by kernel_rfl

set_option maxRecDepth 100000 in
theorem exactChangePut_lifted (os : Os) (started : os.Started) (H : Type) (enc : TypeId × Value → H) :
    ReturnsInHanded {} Try.checked os 5 .any (Rows.fnExactChangePutSpec.pre6 enc Try.prog Try.f5 Rows.fnExactChangePutRow.domain false) (Rows.fnExactChangePutSpec.post enc Try.prog Try.f5 false true false false) := by
  refine returnsInHanded_of_change (C := Try.checked) law_own started (by kernel_rfl) Try.func5
    (ChangeSpec.witness6 (enc := enc) (C := Try.checked) false ⟨#[], #[.agg #[.slice none 0 0, .slice none 0 0]], []⟩ 8 (by kernel_rfl) (by kernel_rfl) (by kernel_rfl) (by kernel_rfl)) ?_
  intro W base args ds gs before hval0 hW hcnd _
  have hval : ∀ (j : Nat) t v, Try.f5.params[j]? = some t → args[j]? = some v → Value.okWide Try.prog W .any base t v := hval0
  have hW' := hW
  obtain ⟨p, q, hA0, hV, rfl, hfz, hnd⟩ := hW
  have hA : DataW.TrodAll enc Try.prog W 0 (fun _ => true) true Try.f5.params.toList args.toList ds p := hA0
  rw [Try.params5] at hA hval
  obtain ⟨v0, d0, rfl, rfl, h0⟩ := trodAll_one hA
  obtain ⟨rfl, rfl⟩ := trodVars_none hV
  obtain ⟨c0, c1, y0, y1, m, rfl, rfl, rfl, hy0, hy1⟩ := open_agg2 Try.underlying29 (by kernel_rfl) law_change_cells (hval 0 29 v0 rfl rfl) h0
  obtain ⟨xs, hxs⟩ := read_atoms hy0
  obtain ⟨ys, hys⟩ := read_atoms hy1
  clear hA0 hval0
  simp only [List.append_nil] at hW'
  refine (exactChangePut_any ⟨xs, ys⟩ c0 c1 W hxs hys).mono fun e W' ⟨he, hw⟩ => ?_
  subst he
  exact ⟨_, rfl, law_post (t := 4) rfl rfl Try.underlying4 rfl law_laidOut (by rw [Try.params5]; intro t ht; simp at ht; subst ht; exact ⟨by kernel_rfl, of_decide_eq_true (by kernel_rfl)⟩) hW' hw⟩

theorem exactChangePut_holds : Rows.FnExactChangePutSaid :=
  OpenClaim.holds_of_wide 5 Try.f5 rfl rfl rfl rfl rfl rfl rfl ⟨rfl, rfl, rfl, rfl, rfl⟩ rfl rfl rfl rfl rfl (by kernel_rfl) Try.func5 (by kernel_rfl)
    (of_decide_eq_true (by kernel_rfl)) (by unfold Func.isWrapper; rw [if_neg (of_decide_eq_false (by kernel_rfl))]; exact ⟨rfl, rfl⟩)
    (fun os started H enc _ => exactChangePut_lifted os started H enc)

end Go.Proofs.Ytilbdmeeloeckaa
