/- The walks of the program's kindOf, termOk, AtomOk, isFact and of slices.IndexFunc and ContainsFunc as it uses them. -/
import Derived.Test.YthndnkafckapnaaGreatDoorImplA
namespace Go.Proofs.YthndnkafckapnaaGreatDoor
open Go.RowKit

@[go_sem] theorem as_ww (v : Value) (w : World) : (Instr.typeAssert (.iface 214 v) 212 214 true).run Tryz.prog w = .ok (.tuple #[v, .bool true]) w := by kernel_rfl
@[go_sem] theorem as_vw (v : Value) (w : World) : (Instr.typeAssert (.iface 215 v) 212 214 true).run Tryz.prog w = .ok (.tuple #[.string ⟨#[]⟩, .bool false]) w := by kernel_rfl
@[go_sem] theorem as_vv (v : Value) (w : World) : (Instr.typeAssert (.iface 215 v) 212 215 true).run Tryz.prog w = .ok (.tuple #[v, .bool true]) w := by kernel_rfl

set_option maxHeartbeats 1000000 in
theorem kindOf_any (t : GT) (w : World) :
    Calls Tryz.prog 170 #[.agg #[.bool t.v, .string t.n]] w fun e w' => e = .returned (.iface (if t.v = true then 215 else 214) (.string t.n)) ∧ Ext w w' := by
  obtain ⟨v, s⟩ := t
  cases v
  · go_enter Tryz.func170, Tryz.ntmps170
    go_wp2
    go_ret
    exact ⟨rfl, (Ext.refl _).alloc _⟩
  · go_enter Tryz.func170, Tryz.ntmps170
    go_wp2
    go_ret
    exact ⟨rfl, (Ext.refl _).alloc _⟩

set_option maxHeartbeats 400000 in
theorem wordText_any (s : ByteArray) (w : World) : Calls Tryz.prog 171 #[.string s] w fun e w' => e = .returned (.string s) ∧ w' = w := by
  go_enter Tryz.func171, Tryz.ntmps171
  go_wp2
  go_ret
  exact ⟨rfl, rfl⟩
set_option maxHeartbeats 400000 in
theorem variableText_any (s : ByteArray) (w : World) : Calls Tryz.prog 173 #[.string s] w fun e w' => e = .returned (.string s) ∧ w' = w := by
  go_enter Tryz.func173, Tryz.ntmps173
  go_wp2
  go_ret
  exact ⟨rfl, rfl⟩

set_option maxRecDepth 100000 in
set_option maxHeartbeats 1000000 in
theorem termOk_any (t : GT) (w : World) (hs : t.n.size ≤ maxLen) :
    Calls Tryz.prog 130 #[.agg #[.bool t.v, .string t.n]] w fun e w' => e = .returned (.bool (termOkB t)) ∧ Ext w w' := by
  have hk := kindOf_any t
  obtain ⟨v, s⟩ := t
  cases v
  · have HF := Lib.hid (show termOkB ⟨false, s⟩ = nameOkB s from rfl)
    have HK : ∀ w : World, Calls Tryz.prog 170 #[.agg #[.bool false, .string s]] w fun e w' => e = .returned (.iface 214 (.string s)) ∧ Ext w w' := hk
    have HK := Lib.hid HK
    clear hk
    go_enter Tryz.func130, Tryz.ntmps130
    go_wp2_with (first
      | (go_at_call 170; refine (HK.out _).mono ?_; rintro e w1 ⟨rfl, hx1⟩)
      | (go_at_call 171; refine (wordText_any s _).mono ?_; rintro e w2 ⟨rfl, rfl⟩)
      | (go_at_call 129; refine (nameOk_any s _ hs).mono ?_; rintro e w2 ⟨rfl, rfl⟩))
    go_ret
    exact ⟨by rw [HF.out]; rfl, ((Ext.refl _).alloc _).trans' hx1⟩
  · have HF := Lib.hid (show termOkB ⟨true, s⟩ = varOkB s from rfl)
    have HK : ∀ w : World, Calls Tryz.prog 170 #[.agg #[.bool true, .string s]] w fun e w' => e = .returned (.iface 215 (.string s)) ∧ Ext w w' := hk
    have HK := Lib.hid HK
    clear hk
    go_enter Tryz.func130, Tryz.ntmps130
    go_wp2_with (first
      | (go_at_call 170; refine (HK.out _).mono ?_; rintro e w1 ⟨rfl, hx1⟩)
      | (go_at_call 173; refine (variableText_any s _).mono ?_; rintro e w2 ⟨rfl, rfl⟩)
      | (go_at_call 172; refine (variableOk_any s _ hs).mono ?_; rintro e w2 ⟨rfl, rfl⟩))
    go_ret
    exact ⟨by rw [HF.out]; rfl, ((Ext.refl _).alloc _).trans' hx1⟩

set_option maxRecDepth 100000 in
set_option maxHeartbeats 1000000 in
theorem atomOk_any (a : GA) (v : Value) (w : World) {S : Nat → Prop} (hs : a.n.size ≤ maxLen) (hv : TermsR S w v a.args) :
    Calls Tryz.prog 85 #[.agg #[.string a.n, v]] w fun e w' => e = .returned (.bool (atomOkB a)) ∧ Ext w w' := by
  obtain ⟨A, c, rfl, hc1, hc2⟩ := SliceR.form hv
  have HV := Lib.hid (hv.ext ((Ext.refl w).alloc (.cells #[.string a.n, .slice A a.args.length c] 67)))
  clear hv
  have hw := bool_ways (nameOk_any a.n (w.alloc (.cells #[.string a.n, .slice A a.args.length c] 67)) hs)
  cases hn : nameOkB a.n
  · have HF := Lib.hid (show atomOkB a = false from by unfold atomOkB; rw [hn]; rfl)
    have HW := Lib.hid (hw.2 hn)
    clear hw hn
    go_enter Tryz.func85, Tryz.ntmps85
    go_wp2_with (go_at_call 129; refine HW.out.mono ?_; rintro e w1 ⟨rfl, rfl⟩)
    go_ret
    exact ⟨by rw [HF.out]; rfl, (Ext.refl _).alloc _⟩
  · have HW := Lib.hid (hw.1 hn)
    by_cases h3 : a.args.length ≤ 3
    · have HF := Lib.hid (show atomOkB a = a.args.all termOkB from by unfold atomOkB; rw [hn]; simp [h3])
      clear hw hn
      go_enter Tryz.func85, Tryz.ntmps85
      go_wp2_with (go_at_call 129; refine HW.out.mono ?_; rintro e w1 ⟨rfl, rfl⟩)
      go_loopw [18] (fun i wr => ∃ k : Nat, k ≤ a.args.length ∧ i = .int .i64 k ∧ Hid ((a.args.take k).all termOkB = true) ∧ Ext (w.alloc (.cells #[.string a.n, .slice A a.args.length c] 67)) wr) (fun i _ => a.args.length - (intOf i).toNat)
      case atStart => exact ⟨0, Nat.zero_le _, rfl, rfl, Ext.refl _⟩
      case round =>
        obtain ⟨k, hk, rfl, hp, hx⟩ := hrel
        by_cases hlt : k < a.args.length
        · obtain ⟨b, off, x, rfl, hb, hxk, hxs, hc0, hc1⟩ := TermsR.at_ (HV.out.ext hx) hlt
          have HK := Lib.hid hxk
          have hw := bool_ways (termOk_any x (wr.alloc (.cells #[.bool x.v, .string x.n] 125)) hxs)
          clear hxk
          cases ht : termOkB x
          · have HZ := Lib.hid (all_false termOkB _ k x HK.out ht)
            have HW := Lib.hid (hw.2 ht)
            clear hw ht
            go_wp2_with (go_at_call 130; refine HW.out.mono ?_; rintro e w1 ⟨rfl, hx1⟩)
            go_ret
            exact ⟨by rw [HF.out, HZ.out]; rfl, ((Ext.refl _).alloc _).trans' ((hx.alloc _).trans' hx1)⟩
          · have HP := Lib.hid (show (a.args.take (k + 1)).all termOkB = true from by rw [all_snoc _ _ k x HK.out, hp.out, ht]; rfl)
            have HW := Lib.hid (hw.1 ht)
            clear hw ht
            go_wp2_with (go_at_call 130; refine HW.out.mono ?_; rintro e w1 ⟨rfl, hx1⟩)
            go_roundw
            case rel => exact ⟨k + 1, by omega, by go_num, HP, (hx.alloc _).trans' hx1⟩
            case measure => simp [intOf]; omega
        · have HZ := Lib.hid (all_whole _ _ k hlt hp.out)
          go_wp2
          go_ret
          exact ⟨by rw [HF.out, HZ.out]; rfl, ((Ext.refl _).alloc _).trans' hx⟩
    · have HF := Lib.hid (show atomOkB a = false from by unfold atomOkB; simp [h3])
      clear hw hn
      go_enter Tryz.func85, Tryz.ntmps85
      go_wp2_with (go_at_call 129; refine HW.out.mono ?_; rintro e w1 ⟨rfl, rfl⟩)
      go_ret
      exact ⟨by rw [HF.out]; rfl, (Ext.refl _).alloc _⟩

set_option maxHeartbeats 400000 in
theorem isFact1_any (t : GT) (w : World) :
    Calls Tryz.prog 158 #[.agg #[.bool t.v, .string t.n]] w fun e w' => e = .returned (.bool t.v) ∧ Ext w w' := by
  go_enter Tryz.func158, Tryz.ntmps158
  go_wp2
  go_ret
  exact ⟨rfl, (Ext.refl _).alloc _⟩



set_option maxRecDepth 100000 in
set_option maxHeartbeats 1000000 in
theorem indexVar_any (v : Value) (xs : List GT) (w : World) {S : Nat → Prop} (hv : TermsR S w v xs) :
    Calls Tryz.prog 193 #[v, .func (.func 158) #[] #[]] w fun e w' => (∃ z : Int, e = .returned (.int .i64 z) ∧ (xs.all noVar = true → z < 0) ∧ (xs.all noVar = false → 0 ≤ z)) ∧ Ext w w' := by
  obtain ⟨A, c, rfl, hc1, hc2⟩ := SliceR.form hv
  have HV := Lib.hid hv
  clear hv
  go_enter Tryz.func193, Tryz.ntmps193
  go_wp2
  go_loopw [8] (fun i wr => ∃ k : Nat, k ≤ xs.length ∧ i = .int .i64 k ∧ Hid ((xs.take k).all noVar = true) ∧ Ext w wr) (fun i _ => xs.length - (intOf i).toNat)
  case atStart => exact ⟨0, Nat.zero_le _, rfl, rfl, Ext.refl _⟩
  case round =>
    obtain ⟨k, hk, rfl, hp, hx⟩ := hrel
    by_cases hlt : k < xs.length
    · obtain ⟨b, off, x, rfl, hb, hxk, hxs, hc0, hc1⟩ := TermsR.at_ (HV.out.ext hx) hlt
      have HK := Lib.hid hxk
      have hw := bool_ways (isFact1_any x wr)
      clear hxk
      cases ht : x.v
      · have HP := Lib.hid (show (xs.take (k + 1)).all noVar = true from by rw [all_snoc _ _ k x HK.out, hp.out, noVar_yes ht]; rfl)
        have HW := Lib.hid (hw.2 ht)
        clear hw ht
        go_wp2_with (go_at_call 158; refine HW.out.mono ?_; rintro e w1 ⟨rfl, hx1⟩)
        go_roundw
        case rel => exact ⟨k + 1, by omega, by go_num, HP, hx.trans' hx1⟩
        case measure => simp [intOf]; omega
      · have HZ := Lib.hid (all_false noVar _ k x HK.out (noVar_no ht))
        have HW := Lib.hid (hw.1 ht)
        clear hw ht
        go_wp2_with (go_at_call 158; refine HW.out.mono ?_; rintro e w1 ⟨rfl, hx1⟩)
        go_ret
        exact ⟨⟨k, rfl, fun h => (by rw [HZ.out] at h; cases h), fun _ => Int.natCast_nonneg _⟩, hx.trans' hx1⟩
    · have HZ := Lib.hid (all_whole _ _ k hlt hp.out)
      go_wp2
      go_ret
      exact ⟨⟨-1, rfl, fun _ => by decide, fun h => (by rw [HZ.out] at h; cases h)⟩, hx⟩

set_option maxHeartbeats 1000000 in
theorem containsVar_any (v : Value) (xs : List GT) (w : World) {S : Nat → Prop} (hv : TermsR S w v xs) :
    Calls Tryz.prog 157 #[v, .func (.func 158) #[] #[]] w fun e w' => e = .returned (.bool (!xs.all noVar)) ∧ Ext w w' := by
  obtain ⟨A, c, rfl, hc1, hc2⟩ := SliceR.form hv
  have HV := Lib.hid hv
  clear hv
  cases ha : xs.all noVar
  · have HA := Lib.hid ha
    clear ha
    go_enter Tryz.func157, Tryz.ntmps157
    go_wp2_with (go_at_call 193; refine (indexVar_any _ xs _ HV.out).mono ?_; rintro e w1 ⟨⟨z, rfl, h1, h2⟩, hx1⟩; have hz := h2 HA.out; clear h1 h2)
    go_ret
    exact ⟨ret_bool (by first | (simp; done) | (simp; omega)), hx1⟩
  · have HA := Lib.hid ha
    clear ha
    go_enter Tryz.func157, Tryz.ntmps157
    go_wp2_with (go_at_call 193; refine (indexVar_any _ xs _ HV.out).mono ?_; rintro e w1 ⟨⟨z, rfl, h1, h2⟩, hx1⟩; have hz := h1 HA.out; clear h1 h2)
    go_ret
    exact ⟨ret_bool (by first | (simp; done) | (simp; omega)), hx1⟩

set_option maxRecDepth 100000 in
set_option maxHeartbeats 1000000 in
theorem isFact_any (a : GA) (v : Value) (w : World) {S : Nat → Prop} (hs : a.n.size ≤ maxLen) (hv : TermsR S w v a.args) :
    Calls Tryz.prog 121 #[.agg #[.string a.n, v]] w fun e w' => e = .returned (.bool (factB a)) ∧ Ext w w' := by
  obtain ⟨A, c, rfl, hc1, hc2⟩ := SliceR.form hv
  have HV := Lib.hid (hv.ext ((Ext.refl w).alloc (.cells #[.string a.n, .slice A a.args.length c] 67)))
  clear hv
  have hw := bool_ways (atomOk_any a _ _ hs HV.out)
  cases hn : atomOkB a
  · have HF := Lib.hid (show factB a = false from by unfold factB; rw [hn]; rfl)
    have HW := Lib.hid (hw.2 hn)
    clear hw hn
    go_enter Tryz.func121, Tryz.ntmps121
    go_wp2_with (go_at_call 85; refine HW.out.mono ?_; rintro e w1 ⟨rfl, hx1⟩)
    go_ret
    exact ⟨by rw [HF.out]; rfl, ((Ext.refl _).alloc _).trans' hx1⟩
  · have HF := Lib.hid (show factB a = a.args.all noVar from by unfold factB; rw [hn]; rfl)
    have HW := Lib.hid (hw.1 hn)
    clear hw hn
    cases ha : a.args.all noVar
    · have HA := Lib.hid ha
      clear ha
      go_enter Tryz.func121, Tryz.ntmps121
      go_wp2_with (first
        | (go_at_call 85; refine HW.out.mono ?_; rintro e w1 ⟨rfl, hx1⟩; obtain ⟨hcc, hcf⟩ := hx1.cells)
        | (go_at_call 157; refine ((bool_ways (containsVar_any _ a.args _ (HV.out.ext hx1))).1 (by rw [HA.out]; rfl)).mono ?_; rintro e w2 ⟨rfl, hx2⟩))
      go_ret
      exact ⟨by rw [HF.out, HA.out]; rfl, (((Ext.refl _).alloc _).trans' hx1).trans' hx2⟩
    · have HA := Lib.hid ha
      clear ha
      go_enter Tryz.func121, Tryz.ntmps121
      go_wp2_with (first
        | (go_at_call 85; refine HW.out.mono ?_; rintro e w1 ⟨rfl, hx1⟩; obtain ⟨hcc, hcf⟩ := hx1.cells)
        | (go_at_call 157; refine ((bool_ways (containsVar_any _ a.args _ (HV.out.ext hx1))).2 (by rw [HA.out]; rfl)).mono ?_; rintro e w2 ⟨rfl, hx2⟩))
      go_ret
      exact ⟨by rw [HF.out, HA.out]; rfl, (((Ext.refl _).alloc _).trans' hx1).trans' hx2⟩

end Go.Proofs.YthndnkafckapnaaGreatDoor
