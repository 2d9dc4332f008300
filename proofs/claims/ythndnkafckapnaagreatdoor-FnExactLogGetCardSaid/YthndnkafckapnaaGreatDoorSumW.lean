/- The walks of spec.Sum and impl.Sum: both return the fold of the bytes. -/
import Derived.Test.YthndnkafckapnaaGreatDoorRows
import Derived.WalkKit
import Derived.WalkSpells
import Derived.Lib.Hide
namespace Go.Proofs.YthndnkafckapnaaGreatDoor
open Go.RowKit

def sumI (l : List UInt8) : Int := l.foldl (fun s c => (s * 31 + (c.toNat : Int) + 7) % 1000003) 1

theorem sumI_snoc (l : List UInt8) (c : UInt8) : sumI (l ++ [c]) = (sumI l * 31 + (c.toNat : Int) + 7) % 1000003 := by
  unfold sumI; rw [List.foldl_append]; rfl

theorem sumI_bd (l : List UInt8) : 0 ≤ sumI l ∧ sumI l ≤ 1000002 := by
  rcases List.eq_nil_or_concat l with rfl | ⟨l', c, rfl⟩
  · exact ⟨by decide, by decide⟩
  · rw [List.concat_eq_append, sumI_snoc]; omega

theorem take_snoc (s : ByteArray) (k : Nat) (h : k < s.size) : s.data.toList.take (k + 1) = s.data.toList.take k ++ [s[k]] := by
  rw [List.take_succ_eq_append_getElem (by simpa using h)]; rfl

set_option maxHeartbeats 400000 in
theorem implSum_any (s : ByteArray) (w : World) (hs : s.size ≤ maxLen) :
    Calls Tryz.prog 192 #[.string s] w fun e w' => e = .returned (.int .i64 (sumI s.data.toList)) ∧ w' = w := by
  unfold maxLen at hs
  go_enter Tryz.func192, Tryz.ntmps192
  go_wp2
  go_loop [3, 4] (fun n i => ∃ k : Nat, k ≤ s.size ∧ i = .int .i64 k ∧ n = .int .i64 (sumI (s.data.toList.take k))) (fun _ i => s.size - (intOf i).toNat)
  case atStart => exact ⟨0, Nat.zero_le _, rfl, rfl⟩
  case round =>
    obtain ⟨k, hk, rfl, rfl⟩ := hrel
    obtain ⟨hd1, hd2⟩ := sumI_bd (s.data.toList.take k)
    by_cases hlt : k < s.size
    · have HS := Lib.hid (sumI_snoc (s.data.toList.take k) s[k])
      have HT := Lib.hid (take_snoc s k hlt)
      have hc : s[k].toNat < 256 := s[k].toNat_lt
      go_wp2
      go_round
      case rel => exact ⟨k + 1, by omega, by go_num, by rw [HT.out, HS.out]⟩
      case measure => simp [intOf]; omega
    · go_wp2
      go_ret
      have hkk : k = s.size := by omega
      refine ⟨?_, rfl⟩
      rw [List.take_of_length_le (by simp; omega)]; rfl

set_option maxHeartbeats 400000 in
theorem specSum_any (s : ByteArray) (w : World) (hs : s.size ≤ maxLen) :
    Calls Tryz.prog 150 #[.string s] w fun e w' => e = .returned (.int .i64 (sumI s.data.toList)) ∧ w' = w := by
  unfold maxLen at hs
  go_enter Tryz.func150, Tryz.ntmps150
  go_wp2
  go_loop [3, 4] (fun n i => ∃ k : Nat, k ≤ s.size ∧ i = .int .i64 k ∧ n = .int .i64 (sumI (s.data.toList.take k))) (fun _ i => s.size - (intOf i).toNat)
  case atStart => exact ⟨0, Nat.zero_le _, rfl, rfl⟩
  case round =>
    obtain ⟨k, hk, rfl, rfl⟩ := hrel
    obtain ⟨hd1, hd2⟩ := sumI_bd (s.data.toList.take k)
    by_cases hlt : k < s.size
    · have HS := Lib.hid (sumI_snoc (s.data.toList.take k) s[k])
      have HT := Lib.hid (take_snoc s k hlt)
      have hc : s[k].toNat < 256 := s[k].toNat_lt
      go_wp2
      go_round
      case rel => exact ⟨k + 1, by omega, by go_num, by rw [HT.out, HS.out]⟩
      case measure => simp [intOf]; omega
    · go_wp2
      go_ret
      have hkk : k = s.size := by omega
      refine ⟨?_, rfl⟩
      rw [List.take_of_length_le (by simp; omega)]; rfl

end Go.Proofs.YthndnkafckapnaaGreatDoor
