/- The walks of the program's ChangeOk and ChangePut. -/
import Derived.Test.YthndnkafckapnaaGreatDoorAtomText
import Derived.Test.YthndnkafckapnaaGreatDoorOrder
import Derived.Test.YthndnkafckapnaaGreatDoorSpecE
namespace Go.Proofs.YthndnkafckapnaaGreatDoor
open Go.RowKit

theorem Builds.ext {B b : Nat} {l : List UInt8} {w w' : World} (h : Builds B b l w) (he : Ext w w') : Builds B b l w' := by
  rcases h with ⟨hB, v, hb, hown, hne⟩ | ⟨hB, v, hb, hown, hne⟩
  · exact .inl ⟨hB, v, (he.block b (Array.getElem?_eq_some_iff.1 hb).1).trans hb, hown.kept (row := none) (grown_ext he) (Classical.em _), hne⟩
  · exact .inr ⟨hB, v, (he.block b (Array.getElem?_eq_some_iff.1 hb).1).trans hb, hown.kept (row := none) (grown_ext he) (Classical.em _), hne⟩

theorem common_any (v u : Value) (xs ys : List GA) (w : World) {S T : Nat → Prop} (hv : AtomsR S w v xs) (hu : AtomsR T w u ys) (hx : Asc xs) (hy : Asc ys) :
    Calls Tryz.prog 78 #[v, u] w fun e w' => e = .returned (.bool (commonB xs ys)) ∧ Ext w w' := by
  obtain ⟨ps, qs, hp, hq, h⟩ := common_merge v u xs ys w hv hu
  rw [noBoth_common (by rw [hp]; exact hx) (by rw [hq]; exact hy), hp, hq] at h
  exact h

set_option maxRecDepth 100000 in
set_option maxHeartbeats 2000000 in
theorem changeOk_any (g : GC) (v u : Value) (w : World) {S T : Nat → Prop} (hv : AtomsR S w v g.comes) (hu : AtomsR T w u g.goes) :
    Calls Tryz.prog 36 #[.agg #[v, u]] w fun e w' => e = .returned (.bool (changeOkB g)) ∧ Ext w w' := by
  obtain ⟨A, c, rfl, hc1, hc2⟩ := SliceR.form hv
  obtain ⟨B, d, rfl, hd1, hd2⟩ := SliceR.form hu
  have HV := Lib.hid (hv.ext ((Ext.refl w).alloc (.cells #[.slice A g.comes.length c, .slice B g.goes.length d] 25)))
  have HU := Lib.hid (hu.ext ((Ext.refl w).alloc (.cells #[.slice A g.comes.length c, .slice B g.goes.length d] 25)))
  clear hv hu
  have hw1 := bool_ways (factsOk_any _ g.comes _ HV.out)
  cases h1 : factsB g.comes 300
  · have HF := Lib.hid (show changeOkB g = false from by unfold changeOkB; rw [h1]; rfl)
    have HW := Lib.hid (hw1.2 h1)
    clear hw1 h1
    go_enter Tryz.func36, Tryz.ntmps36
    go_wp2_with (go_at_call 77; refine HW.out.mono ?_; rintro e w1 ⟨rfl, hx1⟩)
    go_ret
    exact ⟨by rw [HF.out]; rfl, ((Ext.refl _).alloc _).trans' hx1⟩
  · have HW := Lib.hid (hw1.1 h1)
    have HA := Lib.hid (factsB_asc h1)
    clear hw1
    have tok : True := trivial
    cases h2 : factsB g.goes 300
    · have HF := Lib.hid (show changeOkB g = false from by unfold changeOkB; rw [h2]; simp)
      have H2 := Lib.hid h2
      clear h1 h2
      go_enter Tryz.func36, Tryz.ntmps36
      go_wp2_with (first
        | (go_at_call 77; have _t := tok; refine HW.out.mono ?_; clear tok _t; rintro e w1 ⟨rfl, hx1⟩; obtain ⟨hcc, hcf⟩ := hx1.cells)
        | (go_at_call 77; refine ((bool_ways (factsOk_any _ g.goes _ (HU.out.ext hx1))).2 H2.out).mono ?_; rintro e w2 ⟨rfl, hx2⟩))
      go_ret
      exact ⟨by rw [HF.out]; rfl, (((Ext.refl _).alloc _).trans' hx1).trans' hx2⟩
    · have HF := Lib.hid (show changeOkB g = !commonB g.comes g.goes from by unfold changeOkB; rw [h1, h2]; rfl)
      have H2 := Lib.hid h2
      have HG := Lib.hid (factsB_asc h2)
      clear h1 h2
      go_enter Tryz.func36, Tryz.ntmps36
      go_wp2_with (first
        | (go_at_call 77; have _t := tok; refine HW.out.mono ?_; clear tok _t; rintro e w1 ⟨rfl, hx1⟩; obtain ⟨hcc, hcf⟩ := hx1.cells; have hs1 := hx1.size; simp only [World.size_alloc] at hs1; have hs1' : w.heap.size < w1.heap.size := (by omega))
        | (go_at_call 77; refine ((bool_ways (factsOk_any _ g.goes _ (HU.out.ext hx1))).1 H2.out).mono ?_; rintro e w2 ⟨rfl, hx2⟩; obtain ⟨hcc2, hcf2⟩ := hx2.cells)
        | (go_at_call 78; refine (common_any _ _ g.comes g.goes _ (HV.out.ext (hx1.trans' hx2)) (HU.out.ext (hx1.trans' hx2)) HA.out HG.out).mono ?_; rintro e w3 ⟨rfl, hx3⟩))
      go_ret
      exact ⟨by rw [HF.out]; rfl, ((((Ext.refl _).alloc _).trans' hx1).trans' hx2).trans' hx3⟩

set_option maxRecDepth 100000 in
set_option maxHeartbeats 4000000 in
theorem changePut_any (g : GC) (v u : Value) (w : World) {S T : Nat → Prop} (hv : AtomsR S w v g.comes) (hu : AtomsR T w u g.goes) :
    Calls Tryz.prog 8 #[.agg #[v, u]] w fun e w' => e = .returned (.string (strOf (changePutL g))) ∧ Ext w w' := by
  obtain ⟨A, c, rfl, hc1, hc2⟩ := SliceR.form hv
  obtain ⟨B, d, rfl, hd1, hd2⟩ := SliceR.form hu
  have HV0 := Lib.hid (hv.ext ((Ext.refl w).alloc (.cells #[.slice A g.comes.length c, .slice B g.goes.length d] 25)))
  have HU0 := Lib.hid (hu.ext ((Ext.refl w).alloc (.cells #[.slice A g.comes.length c, .slice B g.goes.length d] 25)))
  have HV := Lib.hid hv
  have HU := Lib.hid hu
  clear hv hu
  have hw := bool_ways (changeOk_any g _ _ _ HV0.out HU0.out)
  cases hok : changeOkB g
  · have HF := Lib.hid (show changePutL g = [] from by unfold changePutL; rw [hok]; rfl)
    have HWW := Lib.hid (hw.2 hok)
    clear hw hok
    go_enter Tryz.func8, Tryz.ntmps8
    go_wp2_with (go_at_call 36; refine HWW.out.mono ?_; rintro e w1 ⟨rfl, hx1⟩)
    go_ret
    exact ⟨by rw [HF.out]; rfl, ((Ext.refl _).alloc _).trans' hx1⟩
  have HF := Lib.hid (show changePutL g = changeL g from by unfold changePutL; rw [hok]; rfl)
  have HWW := Lib.hid (hw.1 hok)
  have HW := Lib.hid (okChange_w hok)
  have HB0 : Blk (w.alloc (.cells #[.slice A g.comes.length c, .slice B g.goes.length d] 25)) w.heap.size 25 #[.slice A g.comes.length c, .slice B g.goes.length d] := Blk.new _ _ _
  have HBX := Lib.hid HB0
  clear hw hok HB0
  go_enter Tryz.func8, Tryz.ntmps8
  go_wp2_with (go_at_call 36; refine HWW.out.mono ?_; rintro e w1 ⟨rfl, hx1⟩; have hbx1 := HBX.out.ext hx1; have q0 := hbx1.cell 0; have q1 := hbx1.cell 1; have hs1 := hx1.size; simp only [World.size_alloc] at hs1; have hs1' : w.heap.size < w1.heap.size := (by omega); have HBX1 := Lib.hid hbx1; clear hbx1)
  obtain ⟨B0, hB0⟩ : ∃ B0, B0 = w1.heap.size := ⟨_, rfl⟩
  have HB1 := Lib.hid (show Builds B0 B0 [] (w1.alloc (.cells #[.pointer none, .slice none 0 0] 64)) from hB0 ▸ Builds.fresh w1)
  have hlt0 : w.heap.size < B0 := by omega
  rw [← hB0]
  have HBE := Lib.hid hB0
  clear hB0 q0 q1 hs1 hs1'
  go_loopw [14] (fun i wr => ∃ (k : Nat) (l : List UInt8), k ≤ g.goes.length ∧ i = .int .i64 k ∧ Hid (l = signedL 45 (g.goes.take k)) ∧ Hid (Builds B0 B0 l wr) ∧ Hid (Blk wr w.heap.size 25 #[.slice A g.comes.length c, .slice B g.goes.length d]) ∧ Ext w wr ∧ B0 < wr.heap.size) (fun i _ => g.goes.length - (intOf i).toNat)
  case atStart => exact ⟨0, _, Nat.zero_le _, rfl, rfl, HB1, Lib.hid (HBX1.out.alloc _), (((Ext.refl _).alloc _).trans' hx1).alloc _, by have := HBE.out; simp; omega⟩
  case round =>
    obtain ⟨k, l, hk, rfl, hp, hb, hbx, hx, hsz⟩ := hrel
    have q0 := hbx.out.cell 0
    have q1 := hbx.out.cell 1
    have hlen : l.length ≤ 10485760 := by
      rw [hp.out]
      have h1 := signedL_len 45 (g.goes.take k)
      have h2 := wAtoms_take g.goes k
      have h3 := HW.out
      have h4 := signedL_len 45 g.goes
      unfold wChange at h3
      try simp only [List.length_append]
      omega
    by_cases hlt : k < g.goes.length
    · obtain ⟨b, off, x, v1, rfl, hbb, hxk, hxs, ht, hc0, hc1⟩ := AtomsR.at_ (HU.out.ext hx) hlt
      obtain ⟨A1, n1, rfl, hq1, hq2⟩ := SliceR.form ht
      have HK := Lib.hid (signedL_take 45 hxk)
      have HT := Lib.hid ht
      have HX := Lib.hid (show wAtom x ≤ 4194304 from by
        have h1 := wAtoms_mem (List.mem_of_getElem? hxk)
        have h3 := HW.out
        unfold wChange at h3; omega)
      have hal : (strOf (atomL x)).size ≤ 4194306 := by rw [strOf_size]; exact Nat.le_trans (atomL_len x) (by have := HX.out; omega)
      clear hxk hxs ht q0 q1
      go_wp2_with (first
        | (go_at_call 38; refine (atomText_any x _ _ (HT.out.ext ((Ext.refl wr).alloc _)) HX.out).mono ?_; rintro e w3 ⟨rfl, hx3⟩; have hs3 := hx3.size; simp only [World.size_alloc] at hs3)
        | (go_at_call 37; refine (writeString_any B0 B0 l _ _ ((hb.out.alloc _).ext hx3) (by simp only [ByteArray.size_append]; have e1 : (⟨#[45]⟩ : ByteArray).size = 1 := rfl; have e2 : (⟨#[32]⟩ : ByteArray).size = 1 := rfl; omega) (by omega)).mono ?_; rintro e w4 ⟨rfl, hb4, hz4, hk4⟩; have HB4 := Lib.hid hb4; have hs4 := hz4.size; have hbx4 := Lib.hid (hk4.blk ((hbx.out.alloc _).ext hx3) (by omega) (by decide)); clear hb4 hk4))
      go_roundw
      case rel =>
        refine ⟨k + 1, _, by omega, by go_num, ?_, HB4, hbx4, ((hx.alloc _).trans' hx3).trans (hz4.mono (by omega)), by omega⟩
        show _ = _
        rw [hp.out, HK.out, show (⟨#[45]⟩ : ByteArray) = strOf [45] from rfl, show (⟨#[32]⟩ : ByteArray) = strOf [32] from rfl, strOf_append, strOf_append, list_strOf]
        all_goals simp only [List.append_assoc]
      case measure => simp [intOf]; omega
    · have HS := Lib.hid (show l = signedL 45 g.goes from by rw [hp.out, List.take_of_length_le (by omega)])
      clear hp
      go_wp2
      clear q0 q1
      go_loopw [27] (fun i wr => ∃ (k : Nat) (l : List UInt8), k ≤ g.comes.length ∧ i = .int .i64 k ∧ Hid (l = signedL 45 g.goes ++ signedL 43 (g.comes.take k)) ∧ Hid (Builds B0 B0 l wr) ∧ Hid (Blk wr w.heap.size 25 #[.slice A g.comes.length c, .slice B g.goes.length d]) ∧ Ext w wr ∧ B0 < wr.heap.size) (fun i _ => g.comes.length - (intOf i).toNat)
      case atStart => exact ⟨0, _, Nat.zero_le _, rfl, by show _ = _; rw [HS.out, List.take_zero]; exact (List.append_nil _).symm, hb, hbx, hx, hsz⟩
      case round =>
        obtain ⟨k, l, hk, rfl, hp, hb, hbx, hy, hsz⟩ := hrel
        have q0 := hbx.out.cell 0
        have q1 := hbx.out.cell 1
        have hlen : l.length ≤ 10485760 := by
          rw [hp.out]
          have h1 := signedL_len 43 (g.comes.take k)
          have h2 := wAtoms_take g.comes k
          have h3 := HW.out
          have h4 := signedL_len 45 g.goes
          unfold wChange at h3
          try simp only [List.length_append]
          omega
        by_cases hlt : k < g.comes.length
        · obtain ⟨b, off, x, v1, rfl, hbb, hxk, hxs, ht, hc0, hc1⟩ := AtomsR.at_ (HV.out.ext hy) hlt
          obtain ⟨A1, n1, rfl, hq1, hq2⟩ := SliceR.form ht
          have HK := Lib.hid (signedL_take 43 hxk)
          have HT := Lib.hid ht
          have HX := Lib.hid (show wAtom x ≤ 4194304 from by
            have h1 := wAtoms_mem (List.mem_of_getElem? hxk)
            have h3 := HW.out
            unfold wChange at h3; omega)
          have hal : (strOf (atomL x)).size ≤ 4194306 := by rw [strOf_size]; exact Nat.le_trans (atomL_len x) (by have := HX.out; omega)
          clear hxk hxs ht q0 q1
          go_wp2_with (first
            | (go_at_call 38; refine (atomText_any x _ _ (HT.out.ext ((Ext.refl wr).alloc _)) HX.out).mono ?_; rintro e w3 ⟨rfl, hx3⟩; have hs3 := hx3.size; simp only [World.size_alloc] at hs3)
            | (go_at_call 37; refine (writeString_any B0 B0 l _ _ ((hb.out.alloc _).ext hx3) (by simp only [ByteArray.size_append]; have e1 : (⟨#[43]⟩ : ByteArray).size = 1 := rfl; have e2 : (⟨#[32]⟩ : ByteArray).size = 1 := rfl; omega) (by omega)).mono ?_; rintro e w4 ⟨rfl, hb4, hz4, hk4⟩; have HB4 := Lib.hid hb4; have hs4 := hz4.size; have hbx4 := Lib.hid (hk4.blk ((hbx.out.alloc _).ext hx3) (by omega) (by decide)); clear hb4 hk4))
          go_roundw
          case rel =>
            refine ⟨k + 1, _, by omega, by go_num, ?_, HB4, hbx4, ((hy.alloc _).trans' hx3).trans (hz4.mono (by omega)), by omega⟩
            show _ = _
            rw [hp.out, HK.out, show (⟨#[43]⟩ : ByteArray) = strOf [43] from rfl, show (⟨#[32]⟩ : ByteArray) = strOf [32] from rfl, strOf_append, strOf_append, list_strOf]
            all_goals simp only [List.append_assoc]
          case measure => simp [intOf]; omega
        · go_wp2_with (go_at_call 39; refine (string_any B0 B0 l _ hb.out (by omega)).mono ?_; rintro e w4 ⟨rfl, hz4⟩)
          go_ret
          refine ⟨?_, hy.trans (hz4.mono (by omega))⟩
          refine Eq.trans ?_ (ret_str (a := strOf l) ?_)
          · rfl
          · rw [HF.out, hp.out, List.take_of_length_le (by omega)]; rfl

end Go.Proofs.YthndnkafckapnaaGreatDoor
