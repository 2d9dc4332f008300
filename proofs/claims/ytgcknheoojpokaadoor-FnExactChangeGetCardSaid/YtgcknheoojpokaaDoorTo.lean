/- The walks of the laws' copies: toTerm, toTermS, toAtom, toAtomS, toChange: new memory that reads as the argument does. -/
import Derived.Test.YtgcknheoojpokaaDoorRows
import Derived.Test.YtgcknheoojpokaaDoorRep
namespace Go.Proofs.YtgcknheoojpokaaDoor
open Go.RowKit

set_option maxHeartbeats 400000 in
theorem toTerm_any (t : GT) (w : World) :
    Calls Tryd.prog 77 #[.agg #[.bool t.v, .string t.n]] w fun e w' => e = .returned (.agg #[.bool t.v, .string t.n]) ∧ Ext w w' := by
  go_enter Tryd.func77, Tryd.ntmps77
  go_wp2
  exact bodyPost_ret (v := .agg #[.bool t.v, .string t.n]) (by simp [results, Tryd.results77, go_sem]) rfl ⟨rfl, (((Ext.refl _).alloc _).alloc _).alloc _⟩

theorem term_info : (Tryd.prog.info? 75).map (fun i => (i.zero, i.size, i.bytes)) = some (some (.agg #[.bool false, .string ByteArray.empty]), 2, 24) := by kernel_rfl

set_option maxHeartbeats 1000000 in
theorem toTermS_any (v : Value) (xs : List GT) (w : World) {S : Nat → Prop} (hv : TermsR S w v xs) (hw : wTerms xs ≤ 1048576) :
    Calls Tryd.prog 59 #[v] w fun e w' => (∃ u, e = .returned u ∧ TermsR (From w.heap.size) w' u xs) ∧ Ext w w' := by
  obtain ⟨A, c, rfl, hc1, hc2⟩ := SliceR.form hv
  have hn : xs.length ≤ 1048576 := by unfold wTerms at hw; omega
  clear hw
  obtain ⟨i0, hi0, hz0, hz1, hz2⟩ := info_parts term_info
  obtain ⟨cs0, hcs0, hmk⟩ := made 48 75 i0 _ Tryd.underlying48 hi0 hz0 xs.length (by rw [hz2]; omega) (by omega)
  rw [hz1] at hcs0
  have HC := Lib.hid hcs0
  have HV := Lib.hid hv
  have HN := Lib.hid hn
  clear hcs0 hi0 hz0 hz1 hz2 hv hn
  go_enter Tryd.func59, Tryd.ntmps59
  go_wp2
  go_loopw [4] (fun i wr => ∃ (k : Nat) (cs : Array Value), k ≤ xs.length ∧ i = .int .i64 k ∧ cs.size = xs.length * 2 ∧ Blk wr w.heap.size 75 cs ∧ Filled 2 TermE wr cs xs k ∧ Ext w wr) (fun i _ => xs.length - (intOf i).toNat)
  case atStart => exact ⟨0, cs0, Nat.zero_le _, rfl, HC.out, Blk.new _ _ _, Filled.zero _ _ _ _ _, (Ext.refl _).alloc _⟩
  case round =>
    obtain ⟨k, cs, hk, rfl, hcs, hb, hf, hx⟩ := hrel
    by_cases hlt : k < xs.length
    · obtain ⟨b, off, x, rfl, hb0, hxk, hxs, hc0, hc1⟩ := TermsR.at_ (HV.out.ext hx) hlt
      have HK := Lib.hid hxk
      have HS := Lib.hid hcs
      have HF := Lib.hid hf
      have HB := Lib.hid hb
      have hg := hb.lt
      clear hxk hcs hf hb hmk
      go_wp2_with (go_at_call 77; refine (toTerm_any x _).mono ?_; rintro e w1 ⟨rfl, hx1⟩; obtain ⟨⟨u0, hr0⟩, hf0⟩ := (HB.out.ext hx1).ready (i := k * 2) (by have := HS.out; omega); obtain ⟨⟨u1, hr1⟩, hf1⟩ := (HB.out.ext hx1).ready (i := k * 2 + 1) (by have := HS.out; omega))
      go_roundw
      case rel =>
        have hb1 := HB.out.ext hx1
        refine ⟨k + 1, _, by omega, by go_num, ?_, ((hb1.set_ _ _).set_ _ _), HF.out.two (fun l y h => h) HK.out (by have := HS.out; omega) ⟨rfl, hxs⟩, (Below.setCell (Below.setCell (hx.trans' hx1) (Nat.le_refl _) _) (Nat.le_refl _) _)⟩
        simp [HS.out]
      case measure => simp [intOf]; omega
    · have hkk : k = xs.length := by omega
      go_wp2
      go_ret
      exact ⟨⟨_, rfl, Filled.slice (hkk ▸ hf) hb rfl (Nat.le_refl _) (by unfold maxLen; omega) (Nat.le_refl _)⟩, hx⟩

set_option maxHeartbeats 1000000 in
theorem toAtom_any (a : GA) (v : Value) (w : World) {S : Nat → Prop} (hv : TermsR S w v a.args) (hn : wTerms a.args ≤ 1048576) :
    Calls Tryd.prog 38 #[.agg #[.string a.n, v]] w fun e w' => (∃ u, e = .returned (.agg #[.string a.n, u]) ∧ TermsR (From w.heap.size) w' u a.args) ∧ Ext w w' := by
  obtain ⟨A, c, rfl, hc1, hc2⟩ := SliceR.form hv
  have HV := Lib.hid hv
  have HN := Lib.hid hn
  clear hv hn
  go_enter Tryd.func38, Tryd.ntmps38
  go_wp2_with (go_at_call 59; refine (toTermS_any _ a.args _ (HV.out.ext ((((Ext.refl _).alloc _).alloc _).alloc _)) HN.out).mono ?_; rintro e w1 ⟨⟨u, rfl, hu⟩, hx1⟩; obtain ⟨hcc, hcf⟩ := hx1.cells; obtain ⟨B, d, rfl, hd1, hd2⟩ := SliceR.form hu)
  refine bodyPost_ret (v := .agg #[.string a.n, .slice B a.args.length d]) (by simp [results, Tryd.results38, go_sem, hcc]) rfl ⟨⟨_, rfl, ?_⟩, ?_⟩
  · exact hu.imp (fromLe (by go_size)) ((((Agree.refl _ _).set (by go_size) _).set (by go_size) _).set (by go_size) _) (by go_size)
  · exact (((((((Ext.refl _).alloc _).alloc _).alloc _).trans' hx1).setNew (by go_size) _).setNew (by go_size) _).setNew (by go_size) _

theorem atom_info : (Tryd.prog.info? 50).map (fun i => (i.zero, i.size, i.bytes)) = some (some (.agg #[.string ByteArray.empty, .slice none 0 0]), 2, 40) := by kernel_rfl

set_option maxHeartbeats 1000000 in
theorem toAtomS_any (v : Value) (xs : List GA) (w : World) {S : Nat → Prop} (hv : AtomsR S w v xs) (hw : wAtoms xs ≤ 1048576) :
    Calls Tryd.prog 19 #[v] w fun e w' => (∃ u, e = .returned u ∧ AtomsR (From w.heap.size) w' u xs) ∧ Ext w w' := by
  obtain ⟨A, c, rfl, hc1, hc2⟩ := SliceR.form hv
  have hn : xs.length ≤ 1048576 := by unfold wAtoms at hw; omega
  obtain ⟨i0, hi0, hz0, hz1, hz2⟩ := info_parts atom_info
  obtain ⟨cs0, hcs0, hmk⟩ := made 27 50 i0 _ Tryd.underlying27 hi0 hz0 xs.length (by rw [hz2]; omega) (by omega)
  rw [hz1] at hcs0
  have HC := Lib.hid hcs0
  have HV := Lib.hid hv
  have HN := Lib.hid hw
  clear hcs0 hi0 hz0 hz1 hz2 hv hn hw
  go_enter Tryd.func19, Tryd.ntmps19
  go_wp2
  go_loopw [4] (fun i wr => ∃ (k : Nat) (cs : Array Value), k ≤ xs.length ∧ i = .int .i64 k ∧ cs.size = xs.length * 2 ∧ Blk wr w.heap.size 50 cs ∧ Filled 2 (AtomE (From (w.heap.size + 1))) wr cs xs k ∧ Ext w wr) (fun i _ => xs.length - (intOf i).toNat)
  case atStart => exact ⟨0, cs0, Nat.zero_le _, rfl, HC.out, Blk.new _ _ _, Filled.zero _ _ _ _ _, (Ext.refl _).alloc _⟩
  case round =>
    obtain ⟨k, cs, hk, rfl, hcs, hb, hf, hx⟩ := hrel
    by_cases hlt : k < xs.length
    · obtain ⟨b, off, x, v1, rfl, hb0, hxk, hxs, ht, hc0, hc1⟩ := AtomsR.at_ (HV.out.ext hx) hlt
      obtain ⟨A1, c1, rfl, hq1, hq2⟩ := SliceR.form ht
      have HW := Lib.hid (show wTerms x.args ≤ 1048576 from by
        have h1 := wAtoms_mem (List.mem_of_getElem? hxk); have h2 := HN.out; unfold wAtom at h1; omega)
      have HK := Lib.hid hxk
      have HS := Lib.hid hcs
      have HF := Lib.hid hf
      have HB := Lib.hid hb
      have HT := Lib.hid ht
      have hg := hb.lt
      clear hxk hcs hf hb hmk ht
      go_wp2_with (go_at_call 38; refine (toAtom_any x _ _ HT.out HW.out).mono ?_; rintro e w1 ⟨⟨u, rfl, hu⟩, hx1⟩; obtain ⟨B, d, rfl, hd1, hd2⟩ := SliceR.form hu; obtain ⟨⟨u0, hr0⟩, hf0⟩ := (HB.out.ext hx1).ready (i := k * 2) (by have := HS.out; omega); obtain ⟨⟨u1, hr1⟩, hf1⟩ := (HB.out.ext hx1).ready (i := k * 2 + 1) (by have := HS.out; omega))
      go_roundw
      case rel =>
        have hb1 := HB.out.ext hx1
        have ha : Agree (From (w.heap.size + 1)) w1 ((w1.setCell ⟨w.heap.size, k * 2, none⟩ (.string x.n)).setCell ⟨w.heap.size, k * 2 + 1, none⟩ (.slice B x.args.length d)) :=
          ((Agree.refl _ _).set (by simp) _).set (by simp) _
        have hsz : w1.heap.size ≤ ((w1.setCell ⟨w.heap.size, k * 2, none⟩ (.string x.n)).setCell ⟨w.heap.size, k * 2 + 1, none⟩ (.slice B x.args.length d)).heap.size := by go_size
        refine ⟨k + 1, _, by omega, by go_num, ?_, ((hb1.set_ _ _).set_ _ _), HF.out.two (fun l y h => (h.ext hx1).imp (fun _ h => h) ha hsz) HK.out (by have := HS.out; omega) ⟨_, rfl, hxs, (hu.sub (fromLe (by omega))).imp (fun _ h => h) ha hsz⟩, (Below.setCell (Below.setCell (hx.trans' hx1) (Nat.le_refl _) _) (Nat.le_refl _) _)⟩
        simp [HS.out]
      case measure => simp [intOf]; omega
    · have hkk : k = xs.length := by omega
      go_wp2
      go_ret
      refine ⟨⟨_, rfl, ?_⟩, hx⟩
      have h := Filled.slice (S := From w.heap.size) (c := xs.length) (hkk ▸ hf) hb rfl (Nat.le_refl _) (by unfold maxLen; have := HN.out; unfold wAtoms at this; omega) (Nat.le_refl _)
      exact SliceR.imp (fun _ _ _ h => h.sub (fromLe (by omega))) (fun _ h => h) h (.refl _ _) (Nat.le_refl _)

set_option maxHeartbeats 1000000 in
theorem toChange_any (a : GC) (v u : Value) (w : World) {S : Nat → Prop} (hv : AtomsR S w v a.comes) (hu : AtomsR S w u a.goes) (hw : wChange a ≤ 1048576) :
    Calls Tryd.prog 7 #[.agg #[v, u]] w fun e w' => (∃ v' u', e = .returned (.agg #[v', u']) ∧ AtomsR (From w.heap.size) w' v' a.comes ∧ AtomsR (From w.heap.size) w' u' a.goes) ∧ Ext w w' := by
  obtain ⟨A, c, rfl, hc1, hc2⟩ := SliceR.form hv
  obtain ⟨B, d, rfl, hd1, hd2⟩ := SliceR.form hu
  have HV := Lib.hid hv
  have HU := Lib.hid hu
  have HN := Lib.hid hw
  clear hv hu hw
  go_enter Tryd.func7, Tryd.ntmps7
  have tok : True := trivial
  go_wp2_with (first
    | (go_at_call 19; have _t := tok; refine (toAtomS_any _ a.comes _ (HV.out.ext ((((Ext.refl _).alloc _).alloc _).alloc _)) (by have := HN.out; unfold wChange at this; omega)).mono ?_; clear tok _t; rintro e w1 ⟨⟨u, rfl, hu⟩, hx1⟩; obtain ⟨hcc, hcf⟩ := hx1.cells; obtain ⟨A1, c1, rfl, hq1, hq2⟩ := SliceR.form hu; have HU1 := Lib.hid hu; clear hu; have hz1 := hx1.size; simp only [World.size_alloc] at hz1; have hz1a : w.heap.size + 1 + 1 < w1.heap.size := (by omega); have hz1b : w.heap.size + 1 < w1.heap.size := (by omega); have hz1c : w.heap.size < w1.heap.size := (by omega); clear hz1)
    | (go_at_call 19; refine (toAtomS_any _ a.goes _ (HU.out.ext (((((((Ext.refl _).alloc _).alloc _).alloc _).trans' hx1).setNew (by go_size) _))) (by have := HN.out; unfold wChange at this; omega)).mono ?_; rintro e w2 ⟨⟨u', rfl, hu'⟩, hx2⟩; obtain ⟨hcc2, hcf2⟩ := hx2.cells; obtain ⟨A2, c2, rfl, hq3, hq4⟩ := SliceR.form hu'; have HU2 := Lib.hid hu'; clear hu'; have hz2 := hx2.size; simp only [World.size_setCell] at hz2))
  refine bodyPost_ret (v := .agg #[.slice A1 a.comes.length c1, .slice A2 a.goes.length c2]) (by simp [results, Tryd.results7, go_sem, hcc, hcc2, hz1b]) rfl ⟨⟨_, _, rfl, ?_, ?_⟩, ?_⟩
  · have h1 := HU1.out.imp (fun _ h => h) ((Agree.refl _ w1).set (p := ⟨w.heap.size + 1 + 1, 0, none⟩) (by go_size) (.slice A1 a.comes.length c1)) (by go_size)
    have h2 := h1.ext hx2
    exact h2.imp (fromLe (by go_size)) ((((Agree.refl _ _).set (by go_size) _).set (by go_size) _).set (by go_size) _) (by go_size)
  · exact HU2.out.imp (fromLe (by go_size)) ((((Agree.refl _ _).set (by go_size) _).set (by go_size) _).set (by go_size) _) (by go_size)
  · exact (((((((((Ext.refl _).alloc _).alloc _).alloc _).trans' hx1).setNew (by go_size) _).trans' hx2).setNew (by go_size) _).setNew (by go_size) _).setNew (by go_size) _

end Go.Proofs.YtgcknheoojpokaaDoor
