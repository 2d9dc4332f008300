/- The walks of the reference's l1Texts, l1Cmp. -/
import Derived.Test.YthndnkafckapnaaGreatDoorRows
import Derived.Test.YthndnkafckapnaaGreatDoorPlain
import Derived.StillTailTactics
import Derived.WalkLawsBesides
namespace Go.Proofs.YthndnkafckapnaaGreatDoor
open Go.RowKit

set_option maxHeartbeats 400000 in
theorem l1Texts_any (a b : ByteArray) (w : World) :
    Calls Tryz.prog 174 #[.string a, .string b] w fun e w' => e = .returned (.int .i64 (cmpS a b)) ∧ w' = w := by
  go_enter Tryz.func174, Tryz.ntmps174
  go_wp2
  · go_ret
    exact ⟨by rw [cmpS_less (by assumption)]; rfl, rfl⟩
  · go_ret
    exact ⟨by rw [cmpS_more (by assumption) (by assumption)]; rfl, rfl⟩
  · go_ret
    exact ⟨by rw [cmpS_same (by assumption) (by assumption)]; rfl, rfl⟩

set_option maxRecDepth 100000 in
set_option maxHeartbeats 2000000 in
theorem l1Cmp_any (a b : GA) (v u : Value) (w : World) {S T : Nat → Prop} (hv : TermsR S w v a.args) (hu : TermsR T w u b.args) :
    Calls Tryz.prog 132 #[.agg #[.string a.n, v], .agg #[.string b.n, u]] w fun e w' => e = .returned (.int .i64 (cmpA a b)) ∧ Ext w w' := by
  obtain ⟨A, c, rfl, hc1, hc2⟩ := SliceR.form hv
  obtain ⟨B, d, rfl, hd1, hd2⟩ := SliceR.form hu
  have HV := Lib.hid (hv.ext (((Ext.refl w).alloc (.cells #[.string a.n, .slice A a.args.length c] 67)).alloc (.cells #[.string b.n, .slice B b.args.length d] 67)))
  have HU := Lib.hid (hu.ext (((Ext.refl w).alloc (.cells #[.string a.n, .slice A a.args.length c] 67)).alloc (.cells #[.string b.n, .slice B b.args.length d] 67)))
  clear hv hu
  have hr0 := cmpS_range a.n b.n
  go_enter Tryz.func132, Tryz.ntmps132
  go_wp2_with (go_at_call 174; refine (l1Texts_any _ _ _).mono ?_; rintro e w' ⟨rfl, rfl⟩)
  go_loopw [5, 6] (fun q i wr => ∃ (k : Nat) (z : Int), (k ≤ a.args.length ∧ k ≤ b.args.length) ∧ i = .int .i64 k ∧ q = .int .i64 z ∧ Hid (cmpA a b = cmpFrom a.args b.args k z) ∧ (z = -1 ∨ z = 0 ∨ z = 1) ∧ Ext ((w.alloc (.cells #[.string a.n, .slice A a.args.length c] 67)).alloc (.cells #[.string b.n, .slice B b.args.length d] 67)) wr) (fun _ i _ => a.args.length - (intOf i).toNat)
  case atStart => exact ⟨0, _, ⟨Nat.zero_le _, Nat.zero_le _⟩, rfl, rfl, rfl, hr0, Ext.refl _⟩
  case round =>
    obtain ⟨k, z, ⟨hk1, hk2⟩, rfl, rfl, hz, hzr, hx⟩ := hrel
    obtain ⟨hcc, hcf⟩ := hx.cells
    clear hr0
    by_cases hq : z = 0
    · have hq0 : ((z : Int) == 0) = true := by simp [hq]
      obtain rfl : (0 : Int) = z := hq.symm
      clear hzr hq hq0
      by_cases h1 : k < a.args.length
      · by_cases h2 : k < b.args.length
        · obtain ⟨ba, offa, x, rfl, hba, hxk, hxs, hx0, hx1⟩ := TermsR.at_ (HV.out.ext hx) h1
          obtain ⟨bb, offb, y, rfl, hbb, hyk, hys, hy0, hy1⟩ := TermsR.at_ (HU.out.ext hx) h2
          have HZ := Lib.hid (hz.out.trans (cmpFrom_step hxk hyk))
          have hr1 := Lib.hid (cmpS_range x.n y.n)
          have hk0 : (0 : Int) ≤ (k : Int) := Int.natCast_nonneg _
          have hi1 : (k : Int) < (a.args.length : Int) := by omega
          have hi2 : (k : Int) < (b.args.length : Int) := by omega
          clear hxk hyk hz
          go_wp2_with fail
          go_still_tail 12, (by kernel_rfl)
          change wpList _ _ _ _ _ wr.drew
          go_wp2_with (go_at_call 174; refine (l1Texts_any _ _ _).mono ?_; rintro e w1 ⟨rfl, rfl⟩)
          go_roundw
          case rel => exact ⟨k + 1, _, ⟨by omega, by omega⟩, by go_num, rfl, HZ, hr1.out, hx.drew⟩
          case measure => simp [intOf]; omega
        · have HZ := Lib.hid (hz.out.trans (cmpFrom_end (.inr (by omega)) ⟨hk1, hk2⟩))
          clear hz
          have hl : b.args.length < a.args.length := by omega
          go_wp2
          go_ret
          exact ⟨by rw [HZ.out, if_neg (by omega), if_pos hl]; rfl, (((Ext.refl _).alloc _).alloc _).trans' hx⟩
      · have HZ := Lib.hid (hz.out.trans (cmpFrom_end (.inl (by omega)) ⟨hk1, hk2⟩))
        clear hz
        by_cases hl : a.args.length < b.args.length
        · go_wp2
          go_ret
          exact ⟨by rw [HZ.out, if_pos hl]; rfl, (((Ext.refl _).alloc _).alloc _).trans' hx⟩
        · go_wp2
          go_ret
          exact ⟨by rw [HZ.out, if_neg (by omega), if_neg (by omega)]; rfl, (((Ext.refl _).alloc _).alloc _).trans' hx⟩
    · have HZ := Lib.hid (hz.out.trans (cmpFrom_done hq))
      have hq0 : ((z : Int) == 0) = false := by simp [hq]
      have hq1 : ((z : Int) != 0) = true := by simp [hq]
      clear hz hq hzr
      by_cases h1 : k < a.args.length
      · by_cases h2 : k < b.args.length
        · go_wp2
          go_ret
          exact ⟨by rw [HZ.out]; rfl, (((Ext.refl _).alloc _).alloc _).trans' hx⟩
        · go_wp2
          go_ret
          exact ⟨by rw [HZ.out]; rfl, (((Ext.refl _).alloc _).alloc _).trans' hx⟩
      · go_wp2
        go_ret
        exact ⟨by rw [HZ.out]; rfl, (((Ext.refl _).alloc _).alloc _).trans' hx⟩

end Go.Proofs.YthndnkafckapnaaGreatDoor
