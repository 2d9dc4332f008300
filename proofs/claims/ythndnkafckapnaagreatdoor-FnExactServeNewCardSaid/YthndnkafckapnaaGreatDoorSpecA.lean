/- The walks of the reference's l1In, l1Letters, NameOk, l1Term, AtomOk. -/
import Derived.Test.YthndnkafckapnaaGreatDoorRows
import Derived.Test.YthndnkafckapnaaGreatDoorPlain
import Derived.StillTailTactics
import Derived.BigQuiet
namespace Go.Proofs.YthndnkafckapnaaGreatDoor
open Go.RowKit

set_option maxHeartbeats 400000 in
theorem l1In_any (n lo hi : Int) (w : World) :
    Calls Tryz.prog 210 #[.int .i64 n, .int .i64 lo, .int .i64 hi] w fun e w' => e = .returned (.bool (inB n lo hi)) ∧ w' = w := by
  by_cases h1 : lo ≤ n
  · by_cases h2 : n ≤ hi
    · have HD := Lib.hid (inB_yes h1 h2)
      go_enter Tryz.func210, Tryz.ntmps210
      go_wp2
      go_ret
      exact ⟨by rw [HD.out]; rfl, rfl⟩
    · have HD := Lib.hid (inB_high (lo := lo) (Int.not_le.1 h2))
      go_enter Tryz.func210, Tryz.ntmps210
      go_wp2
      go_ret
      exact ⟨by rw [HD.out]; rfl, rfl⟩
  · have HD := Lib.hid (inB_low (hi := hi) (Int.not_le.1 h1))
    go_enter Tryz.func210, Tryz.ntmps210
    go_wp2
    go_ret
    exact ⟨by rw [HD.out]; rfl, rfl⟩

set_option maxHeartbeats 1000000 in
theorem l1Letters_any (s : ByteArray) (w : World) (hs : s.size ≤ maxLen) :
    Calls Tryz.prog 202 #[.string s] w fun e w' => e = .returned (.bool (lettersB s)) ∧ w' = w := by
  unfold maxLen at hs
  go_enter Tryz.func202, Tryz.ntmps202
  go_wp2
  go_loop [3] (fun i => ∃ k : Nat, k ≤ s.size ∧ i = .int .i64 k ∧ Hid (plainB (s.data.toList.take k) = true)) (fun i => s.size - (intOf i).toNat)
  case atStart => exact ⟨0, Nat.zero_le _, rfl, rfl⟩
  case round =>
    obtain ⟨k, hk, rfl, hp⟩ := hrel
    by_cases hlt : k < s.size
    · have HT := Lib.hid (take_snoc' s k hlt)
      have hc : s[k].toNat < 256 := s[k].toNat_lt
      cases hd : lowDig s[k]
      · have HF := Lib.hid (show lettersB s = false from by
          have : plainB (s.data.toList.take (k + 1)) = false := by rw [HT.out, plainB_snoc, hd, Bool.and_false]
          unfold lettersB; rw [plainB_false this]; rfl)
        rcases lowDig_no hd with h | h | h
        all_goals
          clear hd
          go_wp2
          go_ret
          exact ⟨by rw [HF.out]; rfl, rfl⟩
      · have HP := Lib.hid (show plainB (s.data.toList.take (k + 1)) = true from by rw [HT.out, plainB_snoc, hd, hp.out]; rfl)
        rcases lowDig_yes hd with h | h
        all_goals
          clear hd
          go_wp2
          go_round
          case rel => exact ⟨k + 1, by omega, by go_num, HP⟩
          case measure => simp [intOf]; omega
    · have HF := Lib.hid (show inB s.size 1 8 = lettersB s from by
        have hkk : k = s.size := by omega
        have hp1 := hp.out
        rw [hkk, take_all] at hp1
        unfold lettersB; rw [hp1]; rfl)
      go_wp2_with (go_at_call 210; refine (l1In_any _ _ _ _).mono ?_; rintro e w' ⟨rfl, rfl⟩)
      go_ret
      exact ⟨by rw [← HF.out]; rfl, rfl⟩

set_option maxHeartbeats 400000 in
theorem specNameOk_any (s : ByteArray) (w : World) (hs : s.size ≤ maxLen) :
    Calls Tryz.prog 176 #[.string s] w fun e w' => e = .returned (.bool (nameOkB s)) ∧ w' = w := by
  have hw := l1Letters_any s w hs
  cases hl : lettersB s
  · have HF := Lib.hid (show nameOkB s = false from by unfold nameOkB; rw [hl]; rfl)
    rw [hl] at hw
    have HW := Lib.hid hw
    clear hw hl
    go_enter Tryz.func176, Tryz.ntmps176
    go_wp2_with (go_at_call 202; refine HW.out.mono ?_; rintro e w' ⟨rfl, rfl⟩)
    go_ret
    exact ⟨by rw [HF.out]; rfl, rfl⟩
  · have HF := Lib.hid (show nameOkB s = !(isNot s) from by unfold nameOkB; rw [hl]; rfl)
    rw [hl] at hw
    have HW := Lib.hid hw
    clear hw hl
    go_enter Tryz.func176, Tryz.ntmps176
    go_wp2_with (go_at_call 202; refine HW.out.mono ?_; rintro e w' ⟨rfl, rfl⟩)
    go_ret
    exact ⟨by rw [HF.out]; rfl, rfl⟩

theorem bool_ways {P : Program} {f : FuncId} {args : Array Value} {w : World} {b : Bool} {R : World → Prop} (h : Calls P f args w fun e w' => e = .returned (.bool b) ∧ R w') :
    (b = true → Calls P f args w fun e w' => e = .returned (.bool true) ∧ R w') ∧ (b = false → Calls P f args w fun e w' => e = .returned (.bool false) ∧ R w') :=
  ⟨fun hb => by rw [hb] at h; exact h, fun hb => by rw [hb] at h; exact h⟩

set_option maxHeartbeats 1000000 in
theorem l1Term_any (t : GT) (w : World) (hs : t.n.size ≤ maxLen) :
    Calls Tryz.prog 175 #[.agg #[.bool t.v, .string t.n]] w fun e w' => e = .returned (.bool (termOkB t)) ∧ Ext w w' := by
  obtain ⟨v, s⟩ := t
  cases v
  · have HF := Lib.hid (show termOkB ⟨false, s⟩ = nameOkB s from rfl)
    go_enter Tryz.func175, Tryz.ntmps175
    go_wp2_with (go_at_call 176; refine (specNameOk_any s _ hs).mono ?_; rintro e w' ⟨rfl, rfl⟩)
    go_ret
    exact ⟨by rw [HF.out]; rfl, (Ext.refl _).alloc _⟩
  · have HF := Lib.hid (show termOkB ⟨true, s⟩ = varOkB s from rfl)
    have hm : s.size ≤ 9223372036854775807 := hs
    by_cases h0 : s.size = 0
    · have HC := Lib.hid (show varOkB s = false from by
        have : s.data.toList = [] := by apply List.eq_nil_of_length_eq_zero; simpa using h0
        unfold varOkB capB; rw [this]; rfl)
      have H0 := Lib.hid h0
      have hz : (((s.size : Nat) : Int) == 0) = true := by simp [h0]
      clear h0
      go_enter Tryz.func175, Tryz.ntmps175
      go_wp2
      go_ret
      exact ⟨by rw [HF.out, HC.out]; rfl, (Ext.refl _).alloc _⟩
    · have hp : 0 < s.size := Nat.pos_of_ne_zero h0
      have hz : (((s.size : Nat) : Int) == 0) = false := by rw [beq_eq_false_iff_ne]; omega
      have hc : s[0].toNat < 256 := s[0].toNat_lt
      cases hu : upper s[0]
      · have HC := Lib.hid (show varOkB s = false from by unfold varOkB; rw [capB_cons hp, hu]; rfl)
        have hr : s[0].toNat < 65 ∨ 90 < s[0].toNat := by have h9 := of_decide_eq_false hu; clear hs hz; omega
        clear hu
        rcases hr with hr | hr
        all_goals
          go_enter Tryz.func175, Tryz.ntmps175
          go_wp2
          go_ret
          exact ⟨by rw [HF.out, HC.out]; rfl, (Ext.refl _).alloc _⟩
      · obtain ⟨hr1, hr2⟩ := of_decide_eq_true hu
        by_cases h1 : s.size = 1
        · have HC := Lib.hid (show varOkB s = true from by
            have hd : s.data.toList.drop 1 = [] := by apply List.eq_nil_of_length_eq_zero; simp [h1]
            unfold varOkB; rw [capB_cons hp, hu, hd, h1]; rfl)
          have hy : (((s.size : Nat) : Int) == 1) = true := by simp [h1]
          have H1 := Lib.hid h1
          clear h1 hu
          go_enter Tryz.func175, Tryz.ntmps175
          go_wp2
          go_ret
          exact ⟨by rw [HF.out, HC.out]; rfl, (Ext.refl _).alloc _⟩
        · have hy : (((s.size : Nat) : Int) == 1) = false := by rw [beq_eq_false_iff_ne]; omega
          have hv := varOk_long hp hu h1
          have hw := bool_ways (l1Letters_any (s.extract 1 s.size) (w.alloc (.cells #[.bool true, .string s] 125)) (by rw [tail_size _ _ hp]; exact Nat.le_trans (Nat.sub_le _ _) hs))
          cases hl : lettersB (s.extract 1 s.size)
          · have HX := Lib.hid (show varOkB s = false from by rw [hv, hl]; rfl)
            have HW := Lib.hid (hw.2 hl)
            clear h1 hu hw hv hl
            go_enter Tryz.func175, Tryz.ntmps175
            go_wp2_with (go_at_call 202; refine HW.out.mono ?_; rintro e w1 ⟨rfl, rfl⟩)
            go_ret
            exact ⟨by rw [HF.out, HX.out]; rfl, (Ext.refl _).alloc _⟩
          · have HW := Lib.hid (hw.1 hl)
            by_cases h8 : s.size ≤ 8
            · have HX := Lib.hid (show varOkB s = true from by rw [hv, hl]; simp [h8])
              clear h1 hu hw hv hl
              go_enter Tryz.func175, Tryz.ntmps175
              go_wp2_with (go_at_call 202; refine HW.out.mono ?_; rintro e w1 ⟨rfl, rfl⟩)
              go_ret
              exact ⟨by rw [HF.out, HX.out]; exact ret_bool (by simp; omega), (Ext.refl _).alloc _⟩
            · have HX := Lib.hid (show varOkB s = false from by rw [hv, hl]; simp [h8])
              clear h1 hu hw hv hl
              go_enter Tryz.func175, Tryz.ntmps175
              go_wp2_with (go_at_call 202; refine HW.out.mono ?_; rintro e w1 ⟨rfl, rfl⟩)
              go_ret
              exact ⟨by rw [HF.out, HX.out]; exact ret_bool (by simp; omega), (Ext.refl _).alloc _⟩

set_option maxRecDepth 100000 in
set_option maxHeartbeats 1000000 in
theorem specAtomOk_any (a : GA) (v : Value) (w : World) {S : Nat → Prop} (hs : a.n.size ≤ maxLen) (hv : TermsR S w v a.args) :
    Calls Tryz.prog 133 #[.agg #[.string a.n, v]] w fun e w' => e = .returned (.bool (atomOkB a)) ∧ Ext w w' := by
  obtain ⟨A, c, rfl, hc1, hc2⟩ := SliceR.form hv
  have HV := Lib.hid (hv.ext ((Ext.refl w).alloc (.cells #[.string a.n, .slice A a.args.length c] 67)))
  clear hv
  go_enter Tryz.func133, Tryz.ntmps133
  go_wp2
  go_loopw [3] (fun i wr => ∃ k : Nat, k ≤ a.args.length ∧ i = .int .i64 k ∧ Hid ((a.args.take k).all termOkB = true) ∧ Ext (w.alloc (.cells #[.string a.n, .slice A a.args.length c] 67)) wr) (fun i _ => a.args.length - (intOf i).toNat)
  case atStart => exact ⟨0, Nat.zero_le _, rfl, rfl, Ext.refl _⟩
  case round =>
    obtain ⟨k, hk, rfl, hp, hx⟩ := hrel
    obtain ⟨hcc, hcf⟩ := hx.cells
    by_cases hlt : k < a.args.length
    · obtain ⟨b, off, x, rfl, hb, hxk, hxs, hc0, hc1⟩ := TermsR.at_ (HV.out.ext hx) hlt
      have HK := Lib.hid hxk
      have hw := bool_ways (l1Term_any x wr hxs)
      clear hxk
      cases ht : termOkB x
      · have HF := Lib.hid (show atomOkB a = false from by unfold atomOkB; rw [all_false _ _ k x HK.out ht, Bool.and_false])
        have HW := Lib.hid (hw.2 ht)
        clear hw ht
        go_wp2_with (go_at_call 175; refine HW.out.mono ?_; rintro e w1 ⟨rfl, hx1⟩)
        go_ret
        exact ⟨by rw [HF.out]; rfl, ((Ext.refl _).alloc _).trans' (hx.trans' hx1)⟩
      · have HP := Lib.hid (show (a.args.take (k + 1)).all termOkB = true from by rw [all_snoc _ _ k x HK.out, hp.out, ht]; rfl)
        have HW := Lib.hid (hw.1 ht)
        clear hw ht
        go_wp2_with (go_at_call 175; refine HW.out.mono ?_; rintro e w1 ⟨rfl, hx1⟩)
        go_roundw
        case rel => exact ⟨k + 1, by omega, by go_num, HP, hx.trans' hx1⟩
        case measure => simp [intOf]; omega
    · have hall := all_whole _ _ k hlt hp.out
      have hw := bool_ways (specNameOk_any a.n wr hs)
      clear hp
      cases hn : nameOkB a.n
      · have HF := Lib.hid (show atomOkB a = false from by unfold atomOkB; rw [hn]; rfl)
        have HW := Lib.hid (hw.2 hn)
        clear hw hn hall
        go_wp2_with (go_at_call 176; refine HW.out.mono ?_; rintro e w1 ⟨rfl, rfl⟩)
        go_ret
        exact ⟨by rw [HF.out]; rfl, ((Ext.refl _).alloc _).trans' hx⟩
      · have HF := Lib.hid (show atomOkB a = decide (a.args.length ≤ 3) from by unfold atomOkB; rw [hn, hall]; simp)
        have HW := Lib.hid (hw.1 hn)
        clear hw hn hall
        go_wp2_with (go_at_call 176; refine HW.out.mono ?_; rintro e w1 ⟨rfl, rfl⟩)
        go_ret
        exact ⟨by rw [HF.out]; exact ret_bool (by simp; omega), ((Ext.refl _).alloc _).trans' hx⟩

end Go.Proofs.YthndnkafckapnaaGreatDoor
