/- The walks of the laws' copies: toTerm, toTermS, toAtom, toAtomS, toChange: new memory that reads as the argument does. -/
import Derived.Test.YthndnkafckapnaaGreatDoorRows
import Derived.Test.YthndnkafckapnaaGreatDoorRep
namespace Go.Proofs.YthndnkafckapnaaGreatDoor
open Go.RowKit

set_option maxHeartbeats 400000 in
theorem toTerm_any (t : GT) (w : World) :
    Calls Tryz.prog 179 #[.agg #[.bool t.v, .string t.n]] w fun e w' => e = .returned (.agg #[.bool t.v, .string t.n]) ∧ Ext w w' := by
  go_enter Tryz.func179, Tryz.ntmps179
  go_wp2
  exact bodyPost_ret (v := .agg #[.bool t.v, .string t.n]) (by simp [results, Tryz.results179, go_sem]) rfl ⟨rfl, (((Ext.refl _).alloc _).alloc _).alloc _⟩

theorem term_info : (Tryz.prog.info? 125).map (fun i => (i.zero, i.size, i.bytes)) = some (some (.agg #[.bool false, .string ByteArray.empty]), 2, 24) := by kernel_rfl

set_option maxHeartbeats 1000000 in
theorem toTermS_any (v : Value) (xs : List GT) (w : World) {S : Nat → Prop} (hv : TermsR S w v xs) (hw : wTerms xs ≤ 1048576) :
    Calls Tryz.prog 139 #[v] w fun e w' => (∃ u, e = .returned u ∧ TermsR (From w.heap.size) w' u xs) ∧ Ext w w' := by
  obtain ⟨A, c, rfl, hc1, hc2⟩ := SliceR.form hv
  have hn : xs.length ≤ 1048576 := by unfold wTerms at hw; omega
  clear hw
  obtain ⟨i0, hi0, hz0, hz1, hz2⟩ := info_parts term_info
  obtain ⟨cs0, hcs0, hmk⟩ := made 65 125 i0 _ Tryz.underlying65 hi0 hz0 xs.length (by rw [hz2]; omega) (by omega)
  rw [hz1] at hcs0
  have HC := Lib.hid hcs0
  have HV := Lib.hid hv
  have HN := Lib.hid hn
  clear hcs0 hi0 hz0 hz1 hz2 hv hn
  go_enter Tryz.func139, Tryz.ntmps139
  go_wp2
  go_loopw [4] (fun i wr => ∃ (k : Nat) (cs : Array Value), k ≤ xs.length ∧ i = .int .i64 k ∧ cs.size = xs.length * 2 ∧ Blk wr w.heap.size 125 cs ∧ Filled 2 TermE wr cs xs k ∧ Ext w wr) (fun i _ => xs.length - (intOf i).toNat)
  case atStart => exact ⟨0, cs0, Nat.zero_le _, rfl, HC.out, Blk.new _ _ _, Filled.zero _ _ _ _ _, (Ext.refl _).alloc _⟩
  case round =>
    obtain ⟨k, cs, hk, rfl, hcs, hb, hf, hx⟩ := hrel
    by_cases hlt : k < xs.length
    · obtain ⟨b, off, x, rfl, hb0, hxk, hxs, hc0, hc1⟩ := TermsR.at_ (HV.out.ext hx) hlt
      have HK := Lib.hid hxk
      have HS := Lib.hid hcs
      have HF := Lib.hid hf
      have HB := Lib.hid hb
      have hg := hb.lt
      clear hxk hcs hf hb hmk
      go_wp2_with (go_at_call 179; refine (toTerm_any x _).mono ?_; rintro e w1 ⟨rfl, hx1⟩; obtain ⟨⟨u0, hr0⟩, hf0⟩ := (HB.out.ext hx1).ready (i := k * 2) (by have := HS.out; omega); obtain ⟨⟨u1, hr1⟩, hf1⟩ := (HB.out.ext hx1).ready (i := k * 2 + 1) (by have := HS.out; omega))
      go_roundw
      case rel =>
        have hb1 := HB.out.ext hx1
        refine ⟨k + 1, _, by omega, by go_num, ?_, ((hb1.set_ _ _).set_ _ _), HF.out.two (fun l y h => h) HK.out (by have := HS.out; omega) ⟨rfl, hxs⟩, (Below.setCell (Below.setCell (hx.trans' hx1) (Nat.le_refl _) _) (Nat.le_refl _) _)⟩
        simp [HS.out]
      case measure => simp [intOf]; omega
    · have hkk : k = xs.length := by omega
      go_wp2
      go_ret
      exact ⟨⟨_, rfl, Filled.slice (hkk ▸ hf) hb rfl (Nat.le_refl _) (by unfold maxLen; omega) (Nat.le_refl _)⟩, hx⟩

set_option maxHeartbeats 1000000 in
theorem toAtom_any (a : GA) (v : Value) (w : World) {S : Nat → Prop} (hv : TermsR S w v a.args) (hn : wTerms a.args ≤ 1048576) :
    Calls Tryz.prog 102 #[.agg #[.string a.n, v]] w fun e w' => (∃ u, e = .returned (.agg #[.string a.n, u]) ∧ TermsR (From w.heap.size) w' u a.args) ∧ Ext w w' := by
  obtain ⟨A, c, rfl, hc1, hc2⟩ := SliceR.form hv
  have HV := Lib.hid hv
  have HN := Lib.hid hn
  clear hv hn
  go_enter Tryz.func102, Tryz.ntmps102
  go_wp2_with (go_at_call 139; refine (toTermS_any _ a.args _ (HV.out.ext ((((Ext.refl _).alloc _).alloc _).alloc _)) HN.out).mono ?_; rintro e w1 ⟨⟨u, rfl, hu⟩, hx1⟩; obtain ⟨hcc, hcf⟩ := hx1.cells; obtain ⟨B, d, rfl, hd1, hd2⟩ := SliceR.form hu)
  refine bodyPost_ret (v := .agg #[.string a.n, .slice B a.args.length d]) (by simp [results, Tryz.results102, go_sem, hcc]) rfl ⟨⟨_, rfl, ?_⟩, ?_⟩
  · exact hu.imp (fromLe (by go_size)) ((((Agree.refl _ _).set (by go_size) _).set (by go_size) _).set (by go_size) _) (by go_size)
  · exact (((((((Ext.refl _).alloc _).alloc _).alloc _).trans' hx1).setNew (by go_size) _).setNew (by go_size) _).setNew (by go_size) _

theorem atom_info : (Tryz.prog.info? 67).map (fun i => (i.zero, i.size, i.bytes)) = some (some (.agg #[.string ByteArray.empty, .slice none 0 0]), 2, 40) := by kernel_rfl

end Go.Proofs.YthndnkafckapnaaGreatDoor
