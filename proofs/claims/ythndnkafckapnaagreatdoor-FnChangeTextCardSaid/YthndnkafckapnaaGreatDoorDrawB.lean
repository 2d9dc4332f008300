/- The walks of the draws: l10Word, l10Var, l10Args. -/
import Derived.Test.YthndnkafckapnaaGreatDoorDrawA
namespace Go.Proofs.YthndnkafckapnaaGreatDoor
open Go.RowKit

def words : List ByteArray := [⟨#[97]⟩, ⟨#[98]⟩, ⟨#[99]⟩, ⟨#[100]⟩, ⟨#[97]⟩, ⟨#[98]⟩]
def vars5 : List ByteArray := [⟨#[88]⟩, ⟨#[89]⟩, ⟨#[90]⟩, ⟨#[88]⟩, ⟨#[89]⟩]

theorem strs_new {w : World} {rb m : Nat} {t : TypeId} (cs : Array Value) (ss : List ByteArray) (hcs : cs = (ss.map Value.string).toArray) (hr : Rd w rb m) (hs : ∀ s ∈ ss, s.size ≤ 1000) (hl : ss.length ≤ 1000) (n : Nat) (hn : n = ss.length) :
    StrsR (fun b => b ≠ rb) (w.alloc (.cells cs t)) (.slice (some ⟨w.heap.size, 0, none⟩) n n) ss := by
  subst hcs; subst hn
  exact strs_block ss (Blk.new w t _) (by have := hr.lt; omega) hs hl

set_option maxRecDepth 100000 in
set_option maxHeartbeats 1000000 in
theorem l10Word_any (rb m : Nat) (w : World) (hr : Rd w rb m) (hp : m + 1 ≤ 1000000) :
    Calls Tryz.prog 156 #[.pointer (some ⟨rb, 0, none⟩)] w fun e w' => (∃ s : ByteArray, s.size ≤ 8 ∧ e = .returned (.string s)) ∧ Rd w' rb (m + 1) ∧ Else rb w w' := by
  have HR := Lib.hid hr
  clear hr
  go_enter Tryz.func156, Tryz.ntmps156
  go_wp2_with (go_at_call 90; refine (of_any rb m _ words _ (strs_new _ words rfl HR.out (by decide) (by decide) _ rfl) (by decide) (HR.out.ext ((Ext.refl _).alloc _)) hp).mono ?_; rintro e w1 ⟨⟨s, hs, hs2, rfl⟩, hr1, he1⟩)
  go_ret
  exact ⟨⟨s, (show ∀ s ∈ words, s.size ≤ 8 from by decide) s hs, rfl⟩, hr1, (Else.of_ext ((Ext.refl _).alloc _)).trans' he1⟩

set_option maxRecDepth 100000 in
set_option maxHeartbeats 1000000 in
theorem l10Var_any (rb m : Nat) (w : World) (hr : Rd w rb m) (hp : m + 1 ≤ 1000000) :
    Calls Tryz.prog 155 #[.pointer (some ⟨rb, 0, none⟩)] w fun e w' => (∃ s : ByteArray, s.size ≤ 8 ∧ e = .returned (.string s)) ∧ Rd w' rb (m + 1) ∧ Else rb w w' := by
  have HR := Lib.hid hr
  clear hr
  go_enter Tryz.func155, Tryz.ntmps155
  go_wp2_with (go_at_call 90; refine (of_any rb m _ vars5 _ (strs_new _ vars5 rfl HR.out (by decide) (by decide) _ rfl) (by decide) (HR.out.ext ((Ext.refl _).alloc _)) hp).mono ?_; rintro e w1 ⟨⟨s, hs, hs2, rfl⟩, hr1, he1⟩)
  go_ret
  exact ⟨⟨s, (show ∀ s ∈ vars5, s.size ≤ 8 from by decide) s hs, rfl⟩, hr1, (Else.of_ext ((Ext.refl _).alloc _)).trans' he1⟩

set_option maxHeartbeats 1000000 in
theorem l10Args_any (s : ByteArray) (w : World) :
    Calls Tryz.prog 154 #[.string s] w fun e w' => (∃ z : Nat, z ≤ 3 ∧ e = .returned (.int .i64 z)) ∧ w' = w := by
  go_enter Tryz.func154, Tryz.ntmps154
  go_wp2
  all_goals (go_ret; first | exact ⟨⟨2, by omega, rfl⟩, rfl⟩ | exact ⟨⟨0, by omega, rfl⟩, rfl⟩ | exact ⟨⟨3, by omega, rfl⟩, rfl⟩ | exact ⟨⟨1, by omega, rfl⟩, rfl⟩)

end Go.Proofs.YthndnkafckapnaaGreatDoor
