/- The walks of the program's plain, capital, variableOk, NameOk, kindOf, termOk, AtomOk, isFact. -/
import Derived.Test.YthndnkafckapnaaGreatDoorSpecC
namespace Go.Proofs.YthndnkafckapnaaGreatDoor
open Go.RowKit

set_option maxHeartbeats 1000000 in
theorem plain_any (s : ByteArray) (w : World) (hs : s.size ≤ maxLen) :
    Calls Tryz.prog 169 #[.string s] w fun e w' => e = .returned (.bool (plainB s.data.toList)) ∧ w' = w := by
  unfold maxLen at hs
  go_enter Tryz.func169, Tryz.ntmps169
  go_wp2
  go_loop [3] (fun i => ∃ k : Nat, k ≤ s.size ∧ i = .int .i64 k ∧ Hid (plainB (s.data.toList.take k) = true)) (fun i => s.size - (intOf i).toNat)
  case atStart => exact ⟨0, Nat.zero_le _, rfl, rfl⟩
  case round =>
    obtain ⟨k, hk, rfl, hp⟩ := hrel
    by_cases hlt : k < s.size
    · have HT := Lib.hid (take_snoc' s k hlt)
      have hc : s[k].toNat < 256 := s[k].toNat_lt
      cases hd : lowDig s[k]
      · have HF := Lib.hid (show plainB s.data.toList = false from by
          have : plainB (s.data.toList.take (k + 1)) = false := by rw [HT.out, plainB_snoc, hd, Bool.and_false]
          exact plainB_false this)
        rcases lowDig_no hd with h | h | h
        all_goals
          clear hd
          go_wp2
          go_ret
          exact ⟨by rw [HF.out]; rfl, rfl⟩
      · have HP := Lib.hid (show plainB (s.data.toList.take (k + 1)) = true from by rw [HT.out, plainB_snoc, hd, hp.out]; rfl)
        rcases lowDig_yes hd with h | h
        all_goals
          clear hd
          go_wp2
          go_round
          case rel => exact ⟨k + 1, by omega, by go_num, HP⟩
          case measure => simp [intOf]; omega
    · have HF := Lib.hid (show plainB s.data.toList = true from by
        have hkk : k = s.size := by omega
        have hp1 := hp.out
        rw [hkk, take_all] at hp1
        exact hp1)
      go_wp2
      go_ret
      exact ⟨by rw [HF.out]; rfl, rfl⟩

theorem capB_nil {s : ByteArray} (h : s.size = 0) : capB s = false := by
  have : s.data.toList = [] := by apply List.eq_nil_of_length_eq_zero; simpa using h
  unfold capB; rw [this]
theorem list_nil {s : ByteArray} (h : s.size = 0) : s.toList = [] := by
  rw [ByteArray.toList_eq]; apply List.eq_nil_of_length_eq_zero; simpa using h
theorem list_ne {s : ByteArray} (h : ¬ s.size = 0) : s.toList.isEmpty = false := by
  rw [ByteArray.toList_eq]
  cases h2 : s.data.toList with
  | nil => exact absurd (by have := congrArg List.length h2; simpa using this) h
  | cons => rfl

set_option maxHeartbeats 1000000 in
theorem capital_any (s : ByteArray) (w : World) (hs : s.size ≤ maxLen) :
    Calls Tryz.prog 84 #[.string s] w fun e w' => e = .returned (.bool (capB s)) ∧ w' = w := by
  unfold maxLen at hs
  by_cases h0 : s.size = 0
  · have HF := Lib.hid (capB_nil h0)
    have h1 : s.toList = [] := list_nil h0
    have h2 : (!s.toList.isEmpty) = false := by rw [h1]; rfl
    have H0 := Lib.hid h0
    clear h0
    go_enter Tryz.func84, Tryz.ntmps84
    go_wp2
    go_ret
    exact ⟨by rw [HF.out]; rfl, rfl⟩
  · have hp : 0 < s.size := Nat.pos_of_ne_zero h0
    have h1 : s.toList.isEmpty = false := list_ne h0
    have hc : s[0].toNat < 256 := s[0].toNat_lt
    cases hu : upper s[0]
    · have HF := Lib.hid ((capB_cons hp).trans hu)
      have hr : s[0].toNat < 65 ∨ 90 < s[0].toNat := by have h9 := of_decide_eq_false hu; clear h1; omega
      clear hu h0
      rcases hr with hr | hr
      all_goals
        go_enter Tryz.func84, Tryz.ntmps84
        go_wp2
        go_ret
        exact ⟨by rw [HF.out]; exact ret_bool (by first | (simp; done) | (simp; omega)), rfl⟩
    · have HF := Lib.hid ((capB_cons hp).trans hu)
      obtain ⟨hr1, hr2⟩ := of_decide_eq_true hu
      clear hu h0
      go_enter Tryz.func84, Tryz.ntmps84
      go_wp2
      go_ret
      exact ⟨by rw [HF.out]; exact ret_bool (by first | (simp; done) | (simp; omega)), rfl⟩

def tailB (s : ByteArray) : Bool := plainB (s.data.toList.drop 1)
theorem varOkB_eq (s : ByteArray) : varOkB s = (decide (s.size ≤ 8) && capB s && plainB (s.data.toList.drop 1)) := by
  unfold varOkB; rw [Bool.and_comm (capB s)]
theorem capB_pos {s : ByteArray} (h : capB s = true) : 0 < s.size := by
  rcases Nat.eq_zero_or_pos s.size with h0 | h0
  · rw [capB_nil h0] at h; cases h
  · exact h0

set_option maxHeartbeats 1000000 in
theorem variableOk_any (s : ByteArray) (w : World) (hs : s.size ≤ maxLen) :
    Calls Tryz.prog 172 #[.string s] w fun e w' => e = .returned (.bool (varOkB s)) ∧ w' = w := by
  have hm : s.size ≤ 9223372036854775807 := hs
  by_cases h8 : s.size ≤ 8
  · have hw := bool_ways (capital_any s w hs)
    have hd8 : decide ((s.size : Int) ≤ 8) = true := by simp; omega
    cases hc : capB s
    · have HF := Lib.hid (show varOkB s = false from by rw [varOkB_eq, hc]; simp)
      have HW := Lib.hid (hw.2 hc)
      clear hw hc
      go_enter Tryz.func172, Tryz.ntmps172
      go_wp2_with (go_at_call 84; refine HW.out.mono ?_; rintro e w1 ⟨rfl, rfl⟩)
      go_ret
      exact ⟨by rw [HF.out]; rfl, rfl⟩
    · have hp := capB_pos hc
      have HW := Lib.hid (hw.1 hc)
      have hq := plain_any (s.extract 1 s.size) w (by rw [tail_size _ _ hp]; exact Nat.le_trans (Nat.sub_le _ _) hs)
      have hq2 : Calls Tryz.prog 169 #[.string (s.extract 1 s.size)] w fun e w' => e = .returned (.bool (tailB s)) ∧ w' = w := by rw [tail_list] at hq; exact hq
      have HQ := Lib.hid hq2
      have HF := Lib.hid (show varOkB s = tailB s from by rw [varOkB_eq, hc]; unfold tailB; simp [h8])
      clear hw hc hq hq2
      go_enter Tryz.func172, Tryz.ntmps172
      go_wp2_with (first | (go_at_call 84; refine HW.out.mono ?_; rintro e w1 ⟨rfl, rfl⟩) | (go_at_call 169; refine HQ.out.mono ?_; rintro e w1 ⟨rfl, rfl⟩))
      go_ret
      exact ⟨by rw [HF.out]; rfl, rfl⟩
  · have HF := Lib.hid (show varOkB s = false from by rw [varOkB_eq]; simp [h8])
    have hd8 : decide ((s.size : Int) ≤ 8) = false := by simp; omega
    go_enter Tryz.func172, Tryz.ntmps172
    go_wp2
    go_ret
    exact ⟨by rw [HF.out]; exact ret_bool (by first | (simp; done) | (simp; omega)), rfl⟩

set_option maxHeartbeats 1000000 in
theorem nameOk_any (s : ByteArray) (w : World) (hs : s.size ≤ maxLen) :
    Calls Tryz.prog 129 #[.string s] w fun e w' => e = .returned (.bool (nameOkB s)) ∧ w' = w := by
  have hm : s.size ≤ 9223372036854775807 := hs
  by_cases h1 : 1 ≤ s.size
  · by_cases h8 : s.size ≤ 8
    · have hw := bool_ways (plain_any s w hs)
      cases hc : plainB s.data.toList
      · have HF := Lib.hid (show nameOkB s = false from by unfold nameOkB lettersB; rw [hc]; rfl)
        have HW := Lib.hid (hw.2 hc)
        clear hw hc
        go_enter Tryz.func129, Tryz.ntmps129
        go_wp2_with (go_at_call 169; refine HW.out.mono ?_; rintro e w1 ⟨rfl, rfl⟩)
        go_ret
        exact ⟨by rw [HF.out]; rfl, rfl⟩
      · have HF := Lib.hid (show nameOkB s = !(isNot s) from by unfold nameOkB lettersB; rw [hc, inB_yes (by omega) (by omega)]; rfl)
        have HW := Lib.hid (hw.1 hc)
        clear hw hc
        go_enter Tryz.func129, Tryz.ntmps129
        go_wp2_with (go_at_call 169; refine HW.out.mono ?_; rintro e w1 ⟨rfl, rfl⟩)
        go_ret
        exact ⟨by rw [HF.out]; rfl, rfl⟩
    · have HF := Lib.hid (show nameOkB s = false from by unfold nameOkB lettersB; rw [inB_high (by omega)]; simp)
      go_enter Tryz.func129, Tryz.ntmps129
      go_wp2
      go_ret
      exact ⟨by rw [HF.out]; first | rfl | exact ret_bool (by first | (simp; done) | (simp; omega)), rfl⟩
  · have HF := Lib.hid (show nameOkB s = false from by unfold nameOkB lettersB; rw [inB_low (by omega)]; simp)
    go_enter Tryz.func129, Tryz.ntmps129
    go_wp2
    go_ret
    exact ⟨by rw [HF.out]; first | rfl | exact ret_bool (by first | (simp; done) | (simp; omega)), rfl⟩

end Go.Proofs.YthndnkafckapnaaGreatDoor
