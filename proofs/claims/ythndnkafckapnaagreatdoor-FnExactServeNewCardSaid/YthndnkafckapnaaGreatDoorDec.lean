/- The walks of the reference's l1Dec. -/
import Derived.Test.YthndnkafckapnaaGreatDoorSpecA
import Derived.Test.YthndnkafckapnaaGreatDoorText
import Derived.Laws.IdiomStrings
import Derived.Lib.ItoaNum
import Derived.Deep.RegionWith
import Derived.IntWalk
namespace Go.Proofs.YthndnkafckapnaaGreatDoor
open Go.RowKit

/-- 'string([]byte{c})'. -/
theorem byte_string {w : World} {g : Nat} {t : TypeId} (c : Nat) (hc : c < 256) (hb : Blk w g t #[.int .u8 (c : Int)]) :
    (convert 22 9 (.slice (some ⟨g, 0, none⟩) 1 1)).run Tryz.prog w = .ok (.string ⟨#[UInt8.ofNat c]⟩) w := by
  have h := run_convert_bytes_back (P := Tryz.prog) w 22 9 5 ⟨g, 0, none⟩ 1 [UInt8.ofNat c] Tryz.underlying22 Tryz.underlying5 Tryz.underlying9 (fun j hj => by
    simp at hj; subst hj
    have hadd : (⟨g, 0, none⟩ : Addr).add 0 = ⟨g, 0, none⟩ := by simp [Addr.add]
    rw [hadd, hb.cell]
    simp
    omega)
  exact h

theorem dec_small {z : Int} (h0 : 0 ≤ z) (h : z < 10) : strOf (Lib.decDigits z.toNat) = ⟨#[UInt8.ofNat (48 + z.toNat)]⟩ := by rw [Lib.decDigits_one (by omega)]; rfl
theorem dec_big {z : Int} (h : ¬ z < 10) : strOf (Lib.decDigits z.toNat) = strOf (Lib.decDigits (z / 10).toNat) ++ ⟨#[UInt8.ofNat (48 + (z % 10).toNat)]⟩ := by
  rw [Lib.decDigits, dif_neg (by omega), show (⟨#[UInt8.ofNat (48 + (z % 10).toNat)]⟩ : ByteArray) = strOf [UInt8.ofNat (48 + (z % 10).toNat)] from rfl, strOf_append]
  rw [show (z / 10).toNat = z.toNat / 10 from by omega, show (z % 10).toNat = z.toNat % 10 from by omega]
theorem dec_len (z : Nat) (h : z ≤ 1000000000) : (Lib.decDigits z).length ≤ 10 := by
  rw [Lib.decDigits_length]
  have key : ∀ k u, u < 10 ^ k → 1 ≤ k → Lib.nDigits u ≤ k := by
    intro k
    induction k with
    | zero => intro u _ h; omega
    | succ k ih =>
      intro u hu _
      by_cases h1 : u < 10
      · rw [Lib.nDigits_small h1]; omega
      · rw [Lib.nDigits_big h1]
        have : u / 10 < 10 ^ k := by rw [Nat.pow_succ] at hu; omega
        have hk : 1 ≤ k := by
          rcases Nat.eq_zero_or_pos k with h2 | h2
          · subst h2; simp at hu; omega
          · exact h2
        have := ih (u / 10) this hk
        omega
  exact key 10 z (by omega) (by omega)
theorem u8_wrap {z : Int} (h0 : 0 ≤ z) (h : z < 256) : IntKind.u8.wrap z = z := by
  unfold IntKind.wrap; simp [IntKind.bits, IntKind.signed]; omega

set_option maxRecDepth 100000 in
set_option maxHeartbeats 4000000 in
theorem l1Dec_up : ∀ (m : Nat) (z : Int) (w : World), 0 ≤ z → z ≤ m → z ≤ 1000000000 →
    Calls Tryz.prog 113 #[.int .i64 z] w fun e w' => e = .returned (.string (strOf (Lib.decDigits z.toNat))) ∧ Ext w w' := by
  intro m
  induction m with
  | zero =>
    intro z w h0 hm hz
    obtain ⟨d, hd⟩ : ∃ d, d = strOf (Lib.decDigits z.toNat) := ⟨_, rfl⟩
    have hb := byte_string (w := w.alloc (.cells #[.int .u8 ((48 + z.toNat : Nat) : Int)] 5)) (48 + z.toNat) (by omega) (Blk.new _ _ _)
    rw [show ((48 + z.toNat : Nat) : Int) = 48 + z from by omega, ← dec_small h0 (by omega), ← hd] at hb
    have hw : IntKind.u8.wrap (48 + z) = 48 + z := u8_wrap (by omega) (by omega)
    have h10 : z < 10 := by omega
    rw [← hd]
    clear hd
    go_enter Tryz.func113, Tryz.ntmps113
    go_wp2
    go_ret
    exact ⟨rfl, (Ext.refl _).alloc _⟩
  | succ m ih =>
    intro z w h0 hm hz
    by_cases h10 : z < 10
    · obtain ⟨d, hd⟩ : ∃ d, d = strOf (Lib.decDigits z.toNat) := ⟨_, rfl⟩
      have hb := byte_string (w := w.alloc (.cells #[.int .u8 ((48 + z.toNat : Nat) : Int)] 5)) (48 + z.toNat) (by omega) (Blk.new _ _ _)
      rw [show ((48 + z.toNat : Nat) : Int) = 48 + z from by omega, ← dec_small h0 h10, ← hd] at hb
      have hw : IntKind.u8.wrap (48 + z) = 48 + z := u8_wrap (by omega) (by omega)
      rw [← hd]
      clear hd ih
      go_enter Tryz.func113, Tryz.ntmps113
      go_wp2
      go_ret
      exact ⟨rfl, (Ext.refl _).alloc _⟩
    · have hb9 := dec_big h10
      obtain ⟨d, hd⟩ : ∃ d, d = strOf (Lib.decDigits (z / 10).toNat) := ⟨_, rfl⟩
      obtain ⟨c, hc⟩ : ∃ c : ByteArray, c = ⟨#[UInt8.ofNat (48 + (z % 10).toNat)]⟩ := ⟨_, rfl⟩
      have hds : d.size ≤ 10 := by rw [hd, strOf_size]; exact dec_len _ (by omega)
      have hcs : c.size ≤ 10 := by rw [hc]; simp [ByteArray.size]
      have HI := Lib.hid (show ∀ W, Calls Tryz.prog 113 #[.int .i64 (z / 10)] W fun e w' => e = .returned (.string d) ∧ Ext W w' from fun W => hd ▸ ih (z / 10) W (by omega) (by omega) (by omega))
      have HC := Lib.hid (show ∀ W g, Blk W g 5 #[.int .u8 (48 + z % 10)] → (convert 22 9 (.slice (some ⟨g, 0, none⟩) 1 1)).run Tryz.prog W = .ok (.string c) W from fun W g hb => by
        have h := byte_string (w := W) (g := g) (t := 5) (48 + (z % 10).toNat) (by omega) (by rw [show ((48 + (z % 10).toNat : Nat) : Int) = 48 + z % 10 from by omega]; exact hb)
        rw [← hc] at h
        exact h)
      have hw : IntKind.u8.wrap (48 + z % 10) = 48 + z % 10 := u8_wrap (by omega) (by omega)
      have hq0 : 0 ≤ z % 10 := by omega
      have hq1 : z % 10 < 10 := by omega
      have ht1 : z.tdiv 10 = z / 10 := Int.tdiv_eq_ediv_of_nonneg h0
      have ht2 : z.tmod 10 = z % 10 := Int.tmod_eq_emod_of_nonneg h0
      have hw1 : IntKind.i64.wrap (z / 10) = z / 10 := IntWalk.i64_in _ ⟨by omega, by omega⟩
      have hw2 : IntKind.i64.wrap (48 + z % 10) = 48 + z % 10 := IntWalk.i64_in _ ⟨by omega, by omega⟩
      rw [hb9, ← hd, ← hc]
      have HB := Lib.hid (Blk.new w 5 #[.int .u8 (48 + z % 10)])
      have hr0 := HC.out _ _ HB.out.drew
      clear hb9 hd hc ih
      go_enter Tryz.func113, Tryz.ntmps113
      go_wp2_with (fail)
      go_region_with ((go_at_call 113; refine (HI.out _).mono ?_; rintro e w1 ⟨rfl, hx1⟩; have hr1 := HC.out _ _ (Blk.new w1 5 #[.int .u8 (48 + z % 10)]); (first | have hr2 := HC.out _ _ (HB.out.drew.ext hx1) | skip)))
      all_goals go_wp2
      all_goals
        go_ret
        first
          | exact ⟨rfl, (Ext.trans' (Ext.refl w).drew hx1).alloc _⟩
          | exact ⟨rfl, ((Ext.refl w).alloc _).drew.trans' hx1⟩

theorem l1Dec_any (z : Int) (w : World) (h0 : 0 ≤ z) (h : z ≤ 1000000000) :
    Calls Tryz.prog 113 #[.int .i64 z] w fun e w' => e = .returned (.string (strOf (Lib.decDigits z.toNat))) ∧ Ext w w' :=
  l1Dec_up 1000000000 z w h0 (by omega) h

end Go.Proofs.YthndnkafckapnaaGreatDoor
