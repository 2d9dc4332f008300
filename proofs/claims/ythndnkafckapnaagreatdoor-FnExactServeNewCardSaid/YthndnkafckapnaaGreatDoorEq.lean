/- The walks of the laws' comparisons at equal data: eqTerm, eqTermS, eqAtom, eqAtomS, eqChange. -/
import Derived.Test.YthndnkafckapnaaGreatDoorRows
import Derived.Test.YthndnkafckapnaaGreatDoorRep
import Derived.StillTailTactics
namespace Go.Proofs.YthndnkafckapnaaGreatDoor
open Go.RowKit

set_option maxHeartbeats 400000 in
theorem eqTerm_same (t : GT) (w : World) :
    Calls Tryz.prog 189 #[.agg #[.bool t.v, .string t.n], .agg #[.bool t.v, .string t.n]] w fun e w' => e = .returned (.bool true) ∧ Ext w w' := by
  go_enter Tryz.func189, Tryz.ntmps189
  go_wp2
  go_ret
  exact ⟨rfl, ((Ext.refl _).alloc _).alloc _⟩

set_option maxRecDepth 100000 in
set_option maxHeartbeats 1000000 in
theorem eqTermS_same (v u : Value) (xs : List GT) (w : World) {S T : Nat → Prop} (hv : TermsR S w v xs) (hu : TermsR T w u xs) :
    Calls Tryz.prog 147 #[v, u] w fun e w' => e = .returned (.bool true) ∧ Ext w w' := by
  obtain ⟨A, c, rfl, hc1, hc2⟩ := SliceR.form hv
  obtain ⟨B, d, rfl, hd1, hd2⟩ := SliceR.form hu
  have HV := Lib.hid hv
  have HU := Lib.hid hu
  clear hv hu
  go_enter Tryz.func147, Tryz.ntmps147
  go_wp2
  go_loopw [5] (fun i wr => ∃ k : Nat, k ≤ xs.length ∧ i = .int .i64 k ∧ Ext w wr) (fun i _ => xs.length - (intOf i).toNat)
  case atStart => exact ⟨0, Nat.zero_le _, rfl, Ext.refl _⟩
  case round =>
    obtain ⟨k, hk, rfl, hx⟩ := hrel
    by_cases hlt : k < xs.length
    · obtain ⟨b, off, x, rfl, hb, hxk, hxs, hc0, hc1⟩ := TermsR.at_ (HV.out.ext hx) hlt
      obtain ⟨b', off', x', rfl, hb', hxk', hxs', hc0', hc1'⟩ := TermsR.at_ (HU.out.ext hx) hlt
      obtain rfl : x = x' := Option.some.inj (hxk.symm.trans hxk')
      clear hxk hxk'
      have hk0 : (0 : Int) ≤ (k : Int) := Int.natCast_nonneg _
      have hk1 : (k : Int) < (xs.length : Int) := by omega
      go_wp2_with fail
      go_still_tail 8, (by kernel_rfl)
      change wpList _ _ _ _ _ wr.drew
      clear hb hb' hc0 hc1 hc0' hc1'
      go_wp2_with (go_at_call 189; refine (eqTerm_same x _).mono ?_; rintro e w1 ⟨rfl, hx1⟩)
      go_roundw
      case rel => exact ⟨k + 1, by omega, by go_num, hx.drew.trans' hx1⟩
      case measure => simp [intOf]; omega
    · go_wp2
      go_ret
      exact ⟨rfl, hx⟩

set_option maxHeartbeats 1000000 in
theorem eqAtom_same (a : GA) (v u : Value) (w : World) {S T : Nat → Prop} (hv : TermsR S w v a.args) (hu : TermsR T w u a.args) :
    Calls Tryz.prog 107 #[.agg #[.string a.n, v], .agg #[.string a.n, u]] w fun e w' => e = .returned (.bool true) ∧ Ext w w' := by
  obtain ⟨A, c, rfl, hc1, hc2⟩ := SliceR.form hv
  obtain ⟨B, d, rfl, hd1, hd2⟩ := SliceR.form hu
  have HV := Lib.hid hv
  have HU := Lib.hid hu
  clear hv hu
  go_enter Tryz.func107, Tryz.ntmps107
  go_wp2_with (go_at_call 147; refine (eqTermS_same _ _ a.args _ (HV.out.ext (((Ext.refl _).alloc _).alloc _)) (HU.out.ext (((Ext.refl _).alloc _).alloc _))).mono ?_; rintro e w1 ⟨rfl, hx1⟩)
  go_ret
  exact ⟨rfl, (((Ext.refl _).alloc _).alloc _).trans' hx1⟩

set_option maxRecDepth 100000 in
set_option maxHeartbeats 1000000 in
theorem eqAtomS_same (v u : Value) (xs : List GA) (w : World) {S T : Nat → Prop} (hv : AtomsR S w v xs) (hu : AtomsR T w u xs) :
    Calls Tryz.prog 56 #[v, u] w fun e w' => e = .returned (.bool true) ∧ Ext w w' := by
  obtain ⟨A, c, rfl, hc1, hc2⟩ := SliceR.form hv
  obtain ⟨B, d, rfl, hd1, hd2⟩ := SliceR.form hu
  have HV := Lib.hid hv
  have HU := Lib.hid hu
  clear hv hu
  go_enter Tryz.func56, Tryz.ntmps56
  go_wp2
  go_loopw [5] (fun i wr => ∃ k : Nat, k ≤ xs.length ∧ i = .int .i64 k ∧ Ext w wr) (fun i _ => xs.length - (intOf i).toNat)
  case atStart => exact ⟨0, Nat.zero_le _, rfl, Ext.refl _⟩
  case round =>
    obtain ⟨k, hk, rfl, hx⟩ := hrel
    by_cases hlt : k < xs.length
    · obtain ⟨b, off, x, v1, rfl, hb, hxk, hxs, ht1, hc0, hc1⟩ := AtomsR.at_ (HV.out.ext hx) hlt
      obtain ⟨b', off', x', v2, rfl, hb', hxk', hxs', ht2, hc0', hc1'⟩ := AtomsR.at_ (HU.out.ext hx) hlt
      obtain rfl : x = x' := Option.some.inj (hxk.symm.trans hxk')
      clear hxk hxk'
      have hk0 : (0 : Int) ≤ (k : Int) := Int.natCast_nonneg _
      have hk1 : (k : Int) < (xs.length : Int) := by omega
      go_wp2_with fail
      go_still_tail 8, (by kernel_rfl)
      change wpList _ _ _ _ _ wr.drew
      clear hb hb' hc0 hc1 hc0' hc1'
      go_wp2_with (go_at_call 107; refine (eqAtom_same x _ _ _ ht1.drew_ ht2.drew_).mono ?_; rintro e w1 ⟨rfl, hx1⟩)
      go_roundw
      case rel => exact ⟨k + 1, by omega, by go_num, hx.drew.trans' hx1⟩
      case measure => simp [intOf]; omega
    · go_wp2
      go_ret
      exact ⟨rfl, hx⟩

set_option maxHeartbeats 1000000 in
theorem eqChange_same (a : GC) (v1 u1 v2 u2 : Value) (w : World) {S T : Nat → Prop} (hv1 : AtomsR S w v1 a.comes) (hu1 : AtomsR S w u1 a.goes) (hv2 : AtomsR T w v2 a.comes) (hu2 : AtomsR T w u2 a.goes) :
    Calls Tryz.prog 73 #[.agg #[v1, u1], .agg #[v2, u2]] w fun e w' => e = .returned (.bool true) ∧ Ext w w' := by
  obtain ⟨A1, c1, rfl, hc1, hc1'⟩ := SliceR.form hv1
  obtain ⟨B1, d1, rfl, hd1, hd1'⟩ := SliceR.form hu1
  obtain ⟨A2, c2, rfl, hc2, hc2'⟩ := SliceR.form hv2
  obtain ⟨B2, d2, rfl, hd2, hd2'⟩ := SliceR.form hu2
  have HV1 := Lib.hid hv1
  have HU1 := Lib.hid hu1
  have HV2 := Lib.hid hv2
  have HU2 := Lib.hid hu2
  clear hv1 hu1 hv2 hu2
  go_enter Tryz.func73, Tryz.ntmps73
  have tok : True := trivial
  go_wp2_with (first
    | (go_at_call 56; have _t := tok; refine (eqAtomS_same _ _ a.comes _ (HV1.out.ext (((Ext.refl _).alloc _).alloc _)) (HV2.out.ext (((Ext.refl _).alloc _).alloc _))).mono ?_; clear tok _t; rintro e w1 ⟨rfl, hx1⟩; obtain ⟨hcc, hcf⟩ := hx1.cells)
    | (go_at_call 56; refine (eqAtomS_same _ _ a.goes _ (HU1.out.ext ((((Ext.refl _).alloc _).alloc _).trans' hx1)) (HU2.out.ext ((((Ext.refl _).alloc _).alloc _).trans' hx1))).mono ?_; rintro e w2 ⟨rfl, hx2⟩))
  go_ret
  exact ⟨rfl, ((((Ext.refl _).alloc _).alloc _).trans' hx1).trans' hx2⟩

end Go.Proofs.YthndnkafckapnaaGreatDoor
