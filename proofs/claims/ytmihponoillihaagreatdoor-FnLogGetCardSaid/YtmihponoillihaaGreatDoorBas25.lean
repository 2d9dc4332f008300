/- Part of the texts of a proof; what they say stands at each theorem. -/
import Derived.WalkKit
import Derived.WalkSpells
import Derived.Lib.Hide
import Derived.Lib.AppendIntMem
import Derived.Test.YtmihponoillihaaGreatDoorBas22
set_option linter.unusedSimpArgs false
set_option linter.unusedVariables false
namespace Go.Proofs.YtmihponoillihaaGreatDoor
open Go.RowKit
theorem Builds.ext {B b : Nat} {l : List UInt8} {w w' : World} (h : Builds B b l w) (he : Ext w w') : Builds B b l w' := by
 rcases h with ⟨hB, v, hb, hown, hne⟩ | ⟨hB, v, hb, hown, hne⟩
 · exact .inl ⟨hB, v, (he.block b (Array.getElem?_eq_some_iff.1 hb).1).trans hb, hown.kept (row := none) (grown_ext he) (Classical.em _), hne⟩
 exact .inr ⟨hB, v, (he.block b (Array.getElem?_eq_some_iff.1 hb).1).trans hb, hown.kept (row := none) (grown_ext he) (Classical.em _), hne⟩
theorem common_any (v u : Value) (xs ys : List GA) (w : World) {S T : Nat → Prop} (hv : AtomsR S w v xs) (hu : AtomsR T w u ys) (hx : Asc xs) (hy : Asc ys) :
 Calls Tryz.prog 55 #[v, u] w fun e w' => e = .returned (.bool (commonB xs ys)) ∧ Ext w w' := by
 obtain ⟨ps, qs, hp, hq, h⟩ := common_merge v u xs ys w hv hu; rw [noBoth_common (by rw [hp]; exact hx) (by rw [hq]; exact hy), hp, hq] at h; exact h
set_option maxRecDepth 100000 in
set_option maxHeartbeats 2000000 in
theorem changeOk_any (g : GC) (v u : Value) (w : World) {S T : Nat → Prop} (hv : AtomsR S w v g.comes) (hu : AtomsR T w u g.goes) :
 Calls Tryz.prog 36 #[.agg #[v, u]] w fun e w' => e = .returned (.bool (changeOkB g)) ∧ Ext w w' := by
 obtain ⟨A, c, rfl, hc1, hc2⟩ := SliceR.form hv; obtain ⟨B, d, rfl, hd1, hd2⟩ := SliceR.form hu; have HV := Lib.hid (hv.ext ((Ext.refl w).alloc (.cells #[.slice A g.comes.length c, .slice B g.goes.length d] 32))); have HU := Lib.hid (hu.ext ((Ext.refl w).alloc (.cells #[.slice A g.comes.length c, .slice B g.goes.length d] 32))); clear hv hu; have hw1 := bool_ways (factsOk_any _ g.comes _ HV.out)
 cases h1 : factsB g.comes 300
 · have HF := Lib.hid (show changeOkB g = false from by unfold changeOkB; rw [h1]; rfl)
   have HW := Lib.hid (hw1.2 h1); clear hw1 h1; go_enter Tryz.func36, Tryz.ntmps36
   go_wp2_with (go_at_call 83; refine HW.out.mono ?_; rintro e w1 ⟨rfl, hx1⟩)
   go_ret; exact ⟨by rw [HF.out]; rfl, ((Ext.refl _).alloc _).trans' hx1⟩
 have HW := Lib.hid (hw1.1 h1); have HA := Lib.hid (factsB_asc h1); clear hw1; have tok : True := trivial
 cases h2 : factsB g.goes 300
 · have HF := Lib.hid (show changeOkB g = false from by unfold changeOkB; rw [h2]; simp)
   have H2 := Lib.hid h2; clear h1 h2; go_enter Tryz.func36, Tryz.ntmps36
   go_wp2_with (first
    | (go_at_call 83; have _t := tok; refine HW.out.mono ?_; clear tok _t; rintro e w1 ⟨rfl, hx1⟩; obtain ⟨hcc, hcf⟩ := hx1.cells)
    | (go_at_call 83; refine ((bool_ways (factsOk_any _ g.goes _ (HU.out.ext hx1))).2 H2.out).mono ?_; rintro e w2 ⟨rfl, hx2⟩))
   go_ret; exact ⟨by rw [HF.out]; rfl, (((Ext.refl _).alloc _).trans' hx1).trans' hx2⟩
 have HF := Lib.hid (show changeOkB g = !commonB g.comes g.goes from by unfold changeOkB; rw [h1, h2]; rfl); have H2 := Lib.hid h2; have HG := Lib.hid (factsB_asc h2); clear h1 h2; go_enter Tryz.func36, Tryz.ntmps36
 go_wp2_with (first
  | (go_at_call 83; have _t := tok; refine HW.out.mono ?_; clear tok _t; rintro e w1 ⟨rfl, hx1⟩; obtain ⟨hcc, hcf⟩ := hx1.cells; have hs1 := hx1.size; simp only [World.size_alloc] at hs1; have hs1' : w.heap.size < w1.heap.size := (by omega))
  | (go_at_call 83; refine ((bool_ways (factsOk_any _ g.goes _ (HU.out.ext hx1))).1 H2.out).mono ?_; rintro e w2 ⟨rfl, hx2⟩; obtain ⟨hcc2, hcf2⟩ := hx2.cells)
  | (go_at_call 55; refine (common_any _ _ g.comes g.goes _ (HV.out.ext (hx1.trans' hx2)) (HU.out.ext (hx1.trans' hx2)) HA.out HG.out).mono ?_; rintro e w3 ⟨rfl, hx3⟩))
 go_ret; exact ⟨by rw [HF.out]; rfl, ((((Ext.refl _).alloc _).trans' hx1).trans' hx2).trans' hx3⟩
set_option maxRecDepth 100000 in
set_option maxHeartbeats 4000000 in
theorem changePut_any (g : GC) (v u : Value) (w : World) {S T : Nat → Prop} (hv : AtomsR S w v g.comes) (hu : AtomsR T w u g.goes) :
 Calls Tryz.prog 38 #[.agg #[v, u]] w fun e w' => e = .returned (.string (strOf (changePutL g))) ∧ Ext w w' := by
 obtain ⟨A, c, rfl, hc1, hc2⟩ := SliceR.form hv; obtain ⟨B, d, rfl, hd1, hd2⟩ := SliceR.form hu; have HV0 := Lib.hid (hv.ext ((Ext.refl w).alloc (.cells #[.slice A g.comes.length c, .slice B g.goes.length d] 32))); have HU0 := Lib.hid (hu.ext ((Ext.refl w).alloc (.cells #[.slice A g.comes.length c, .slice B g.goes.length d] 32))); have HV := Lib.hid hv; have HU := Lib.hid hu; clear hv hu; have hw := bool_ways (changeOk_any g _ _ _ HV0.out HU0.out)
 cases hok : changeOkB g
 · have HF := Lib.hid (show changePutL g = [] from by unfold changePutL; rw [hok]; rfl)
   have HWW := Lib.hid (hw.2 hok); clear hw hok; go_enter Tryz.func38, Tryz.ntmps38
   go_wp2_with (go_at_call 36; refine HWW.out.mono ?_; rintro e w1 ⟨rfl, hx1⟩)
   go_ret; exact ⟨by rw [HF.out]; rfl, ((Ext.refl _).alloc _).trans' hx1⟩
 have HF := Lib.hid (show changePutL g = changeL g from by unfold changePutL; rw [hok]; rfl); have HWW := Lib.hid (hw.1 hok); have HW := Lib.hid (okChange_w hok); have HB0 : Blk (w.alloc (.cells #[.slice A g.comes.length c, .slice B g.goes.length d] 32)) w.heap.size 32 #[.slice A g.comes.length c, .slice B g.goes.length d] := Blk.new _ _ _; have HBX := Lib.hid HB0; clear hw hok HB0; go_enter Tryz.func38, Tryz.ntmps38
 go_wp2_with (go_at_call 36; refine HWW.out.mono ?_; rintro e w1 ⟨rfl, hx1⟩; have hbx1 := HBX.out.ext hx1; have q0 := hbx1.cell 0; have q1 := hbx1.cell 1; have hs1 := hx1.size; simp only [World.size_alloc] at hs1; have hs1' : w.heap.size < w1.heap.size := (by omega); have HBX1 := Lib.hid hbx1; clear hbx1)
 obtain ⟨B0, hB0⟩ : ∃ B0, B0 = w1.heap.size := ⟨_, rfl⟩
 have HB1 := Lib.hid (show Builds B0 B0 [] (w1.alloc (.cells #[.pointer none, .slice none 0 0] 144)) from hB0 ▸ Builds.fresh w1)
 have hlt0 : w.heap.size < B0 := (by omega)
 rw [← hB0]; have HBE := Lib.hid hB0; clear hB0 q0 q1 hs1 hs1'
 go_loopw [14] (fun i wr => ∃ (k : Nat) (l : List UInt8), k ≤ g.goes.length ∧ i = .int .i64 k ∧ Hid (l = signedL 45 (g.goes.take k)) ∧ Hid (Builds B0 B0 l wr) ∧ Hid (Blk wr w.heap.size 32 #[.slice A g.comes.length c, .slice B g.goes.length d]) ∧ Ext w wr ∧ B0 < wr.heap.size) (fun i _ => g.goes.length - (intOf i).toNat)
 case atStart => exact ⟨0, _, Nat.zero_le _, rfl, rfl, HB1, Lib.hid (HBX1.out.alloc _), (((Ext.refl _).alloc _).trans' hx1).alloc _, by have := HBE.out; simp; omega⟩
 case round =>
  obtain ⟨k, l, hk, rfl, hp, hb, hbx, hx, hsz⟩ := hrel; have q0 := hbx.out.cell 0; have q1 := hbx.out.cell 1
  have hlen : l.length ≤ 10485760 := by
   rw [hp.out]; have h1 := signedL_len 45 (g.goes.take k); have h2 := wAtoms_take g.goes k; have h3 := HW.out; have h4 := signedL_len 45 g.goes; unfold wChange at h3
   try simp only [List.length_append]
   omega
  by_cases hlt : k < g.goes.length
  · obtain ⟨b, off, x, v1, rfl, hbb, hxk, hxs, ht, hc0, hc1⟩ := AtomsR.at_ (HU.out.ext hx) hlt
    obtain ⟨A1, n1, rfl, hq1, hq2⟩ := SliceR.form ht; have HK := Lib.hid (signedL_take 45 hxk); have HT := Lib.hid ht
    have HX := Lib.hid (show wAtom x ≤ 4194304 from by
     have h1 := wAtoms_mem (List.mem_of_getElem? hxk); have h3 := HW.out
     unfold wChange at h3; omega)
    have hal : (strOf (atomL x)).size ≤ 4194306 := by rw [strOf_size]; exact Nat.le_trans (atomL_len x) (by have := HX.out; omega)
    clear hxk hxs ht q0 q1
    go_wp2_with (first
     | (go_at_call 95; refine (atomText_any x _ _ (HT.out.ext ((Ext.refl wr).alloc _)) HX.out).mono ?_; rintro e w3 ⟨rfl, hx3⟩; have hs3 := hx3.size; simp only [World.size_alloc] at hs3)
     | (go_at_call 94; refine (writeString_any B0 B0 l _ _ ((hb.out.alloc _).ext hx3) (by simp only [ByteArray.size_append]; have e1 : (⟨#[45]⟩ : ByteArray).size = 1 := rfl; have e2 : (⟨#[32]⟩ : ByteArray).size = 1 := rfl; omega) (by omega)).mono ?_; rintro e w4 ⟨rfl, hb4, hz4, hk4⟩; have HB4 := Lib.hid hb4; have hs4 := hz4.size; have hbx4 := Lib.hid (hk4.blk ((hbx.out.alloc _).ext hx3) (by omega) (by decide)); clear hb4 hk4))
    go_roundw
    case rel =>
     refine ⟨k + 1, _, by omega, by go_num, ?_, HB4, hbx4, ((hx.alloc _).trans' hx3).trans (hz4.mono (by omega)), by omega⟩; show _ = _; rw [hp.out, HK.out, show (⟨#[45]⟩ : ByteArray) = strOf [45] from rfl, show (⟨#[32]⟩ : ByteArray) = strOf [32] from rfl, strOf_append, strOf_append, list_strOf]
     all_goals simp only [List.append_assoc]
    case measure => simp [intOf]; omega
  have HS := Lib.hid (show l = signedL 45 g.goes from by rw [hp.out, List.take_of_length_le (by omega)]); clear hp; go_wp2; clear q0 q1
  go_loopw [27] (fun i wr => ∃ (k : Nat) (l : List UInt8), k ≤ g.comes.length ∧ i = .int .i64 k ∧ Hid (l = signedL 45 g.goes ++ signedL 43 (g.comes.take k)) ∧ Hid (Builds B0 B0 l wr) ∧ Hid (Blk wr w.heap.size 32 #[.slice A g.comes.length c, .slice B g.goes.length d]) ∧ Ext w wr ∧ B0 < wr.heap.size) (fun i _ => g.comes.length - (intOf i).toNat)
  case atStart => exact ⟨0, _, Nat.zero_le _, rfl, by show _ = _; rw [HS.out, List.take_zero]; exact (List.append_nil _).symm, hb, hbx, hx, hsz⟩
  case round =>
   obtain ⟨k, l, hk, rfl, hp, hb, hbx, hy, hsz⟩ := hrel; have q0 := hbx.out.cell 0; have q1 := hbx.out.cell 1
   have hlen : l.length ≤ 10485760 := by
    rw [hp.out]; have h1 := signedL_len 43 (g.comes.take k); have h2 := wAtoms_take g.comes k; have h3 := HW.out; have h4 := signedL_len 45 g.goes; unfold wChange at h3
    try simp only [List.length_append]
    omega
   by_cases hlt : k < g.comes.length
   · obtain ⟨b, off, x, v1, rfl, hbb, hxk, hxs, ht, hc0, hc1⟩ := AtomsR.at_ (HV.out.ext hy) hlt
     obtain ⟨A1, n1, rfl, hq1, hq2⟩ := SliceR.form ht; have HK := Lib.hid (signedL_take 43 hxk); have HT := Lib.hid ht
     have HX := Lib.hid (show wAtom x ≤ 4194304 from by
      have h1 := wAtoms_mem (List.mem_of_getElem? hxk); have h3 := HW.out
      unfold wChange at h3; omega)
     have hal : (strOf (atomL x)).size ≤ 4194306 := by rw [strOf_size]; exact Nat.le_trans (atomL_len x) (by have := HX.out; omega)
     clear hxk hxs ht q0 q1
     go_wp2_with (first
      | (go_at_call 95; refine (atomText_any x _ _ (HT.out.ext ((Ext.refl wr).alloc _)) HX.out).mono ?_; rintro e w3 ⟨rfl, hx3⟩; have hs3 := hx3.size; simp only [World.size_alloc] at hs3)
      | (go_at_call 94; refine (writeString_any B0 B0 l _ _ ((hb.out.alloc _).ext hx3) (by simp only [ByteArray.size_append]; have e1 : (⟨#[43]⟩ : ByteArray).size = 1 := rfl; have e2 : (⟨#[32]⟩ : ByteArray).size = 1 := rfl; omega) (by omega)).mono ?_; rintro e w4 ⟨rfl, hb4, hz4, hk4⟩; have HB4 := Lib.hid hb4; have hs4 := hz4.size; have hbx4 := Lib.hid (hk4.blk ((hbx.out.alloc _).ext hx3) (by omega) (by decide)); clear hb4 hk4))
     go_roundw
     case rel =>
      refine ⟨k + 1, _, by omega, by go_num, ?_, HB4, hbx4, ((hy.alloc _).trans' hx3).trans (hz4.mono (by omega)), by omega⟩; show _ = _; rw [hp.out, HK.out, show (⟨#[43]⟩ : ByteArray) = strOf [43] from rfl, show (⟨#[32]⟩ : ByteArray) = strOf [32] from rfl, strOf_append, strOf_append, list_strOf]
      all_goals simp only [List.append_assoc]
     case measure => simp [intOf]; omega
   go_wp2_with (go_at_call 96; refine (string_any B0 B0 l _ hb.out (by omega)).mono ?_; rintro e w4 ⟨rfl, hz4⟩)
   go_ret; refine ⟨?_, hy.trans (hz4.mono (by omega))⟩; refine Eq.trans ?_ (ret_str (a := strOf l) ?_)
   · rfl
   rw [HF.out, hp.out, List.take_of_length_le (by omega)]; rfl
def sumI (l : List UInt8) : Int := l.foldl (fun s c => (s * 31 + (c.toNat : Int) + 7) % 1000003) 1
theorem sumI_snoc (l : List UInt8) (c : UInt8) : sumI (l ++ [c]) = (sumI l * 31 + (c.toNat : Int) + 7) % 1000003 := by
 unfold sumI; rw [List.foldl_append]; rfl
theorem sumI_bd (l : List UInt8) : 0 ≤ sumI l ∧ sumI l ≤ 1000002 := by
 rcases List.eq_nil_or_concat l with rfl | ⟨l', c, rfl⟩
 · exact ⟨by decide, by decide⟩
 rw [List.concat_eq_append, sumI_snoc]; omega
theorem take_snoc (s : ByteArray) (k : Nat) (h : k < s.size) : s.data.toList.take (k + 1) = s.data.toList.take k ++ [s[k]] := by
 rw [List.take_succ_eq_append_getElem (by simpa using h)]; rfl
set_option maxHeartbeats 400000 in
theorem implSum_any (s : ByteArray) (w : World) (hs : s.size ≤ maxLen) :
 Calls Tryz.prog 39 #[.string s] w fun e w' => e = .returned (.int .i64 (sumI s.data.toList)) ∧ w' = w := by
 unfold maxLen at hs; go_enter Tryz.func39, Tryz.ntmps39; go_wp2
 go_loop [3, 4] (fun n i => ∃ k : Nat, k ≤ s.size ∧ i = .int .i64 k ∧ n = .int .i64 (sumI (s.data.toList.take k))) (fun _ i => s.size - (intOf i).toNat)
 case atStart => exact ⟨0, Nat.zero_le _, rfl, rfl⟩
 case round =>
  obtain ⟨k, hk, rfl, rfl⟩ := hrel; obtain ⟨hd1, hd2⟩ := sumI_bd (s.data.toList.take k)
  by_cases hlt : k < s.size
  · have HS := Lib.hid (sumI_snoc (s.data.toList.take k) s[k])
    have HT := Lib.hid (take_snoc s k hlt); have hc : s[k].toNat < 256 := s[k].toNat_lt; go_wp2
    go_round
    case rel => exact ⟨k + 1, by omega, by go_num, by rw [HT.out, HS.out]⟩
    case measure => simp [intOf]; omega
  go_wp2; go_ret
  have hkk : k = s.size := (by omega)
  refine ⟨?_, rfl⟩; rw [List.take_of_length_le (by simp; omega)]; rfl
set_option maxHeartbeats 400000 in
theorem specSum_any (s : ByteArray) (w : World) (hs : s.size ≤ maxLen) :
 Calls Tryz.prog 159 #[.string s] w fun e w' => e = .returned (.int .i64 (sumI s.data.toList)) ∧ w' = w := by
 unfold maxLen at hs; go_enter Tryz.func159, Tryz.ntmps159; go_wp2
 go_loop [3, 4] (fun n i => ∃ k : Nat, k ≤ s.size ∧ i = .int .i64 k ∧ n = .int .i64 (sumI (s.data.toList.take k))) (fun _ i => s.size - (intOf i).toNat)
 case atStart => exact ⟨0, Nat.zero_le _, rfl, rfl⟩
 case round =>
  obtain ⟨k, hk, rfl, rfl⟩ := hrel; obtain ⟨hd1, hd2⟩ := sumI_bd (s.data.toList.take k)
  by_cases hlt : k < s.size
  · have HS := Lib.hid (sumI_snoc (s.data.toList.take k) s[k])
    have HT := Lib.hid (take_snoc s k hlt); have hc : s[k].toNat < 256 := s[k].toNat_lt; go_wp2
    go_round
    case rel => exact ⟨k + 1, by omega, by go_num, by rw [HT.out, HS.out]⟩
    case measure => simp [intOf]; omega
  go_wp2; go_ret
  have hkk : k = s.size := (by omega)
  refine ⟨?_, rfl⟩; rw [List.take_of_length_le (by simp; omega)]; rfl
def logHead (t : Int) (l : List UInt8) : List UInt8 := Lib.decDigits t.toNat ++ [58] ++ l
def logLine (t : Int) (l : List UInt8) : List UInt8 := logHead t l ++ Lib.decDigits (sumI (logHead t l)).toNat ++ [10]
def timeB (t : Int) : Bool := inB t 0 100000
def logPutL (t : Int) (g : GC) : List UInt8 := if (changeOkB g && timeB t) = true then logLine t (changeL g) else []
theorem pow_ext {w w' : World} (h : Lib.TabIs Tryz.prog w "internal/strconv.uint64pow10" .u64 Lib.pow10Tab) (he : Ext w w') : Lib.TabIs Tryz.prog w' "internal/strconv.uint64pow10" .u64 Lib.pow10Tab := by
 have hg : Tryz.prog.globalNamed "internal/strconv.uint64pow10" = some 3 := by kernel_rfl
 unfold Lib.TabIs World.var? at h ⊢; rw [hg] at h ⊢; simp only [Option.bind_some] at h ⊢
 rcases Nat.lt_or_ge 3 w.heap.size with hlt | hge
 · rw [he.block _ hlt]; exact h
 rw [Array.getElem?_eq_none hge] at h; cases h
set_option maxHeartbeats 1000000 in
theorem decimal_any (z : Int) (w : World) (h0 : 0 ≤ z) (h1 : z ≤ 1000000000) (htab : Lib.TabIs Tryz.prog w "internal/strconv.uint64pow10" .u64 Lib.pow10Tab) :
 Calls Tryz.prog 37 #[.int .i64 z] w fun e w' => e = .returned (.string (strOf (Lib.decDigits z.toNat))) ∧ Ext w w' := by
 have HC := Lib.hid ((Tryz.strconv_Itoa z (by omega) (by omega) w htab).mono (R' := fun e w' => e = .returned (.string (strOf (Lib.decDigits z.toNat))) ∧ Ext w w') fun e w' ⟨he, k, os, hw⟩ => by
  subst hw; refine ⟨?_, ?_⟩
  · rw [he]; unfold Lib.itoa; rw [if_neg (by omega)]; rfl
  exact Lib.below_grow _ _ (Nat.le_refl _) _ _)
 clear htab; go_enter Tryz.func37, Tryz.ntmps37
 go_wp2_with (go_at_call 93; refine HC.out.mono ?_; rintro e w1 ⟨rfl, hx1⟩)
 go_ret; exact ⟨rfl, hx1⟩
theorem logHead_str (t : Int) (s : ByteArray) : strOf (Lib.decDigits t.toNat) ++ ⟨#[58]⟩ ++ s = strOf (logHead t s.data.toList) := by
 rw [show (⟨#[58]⟩ : ByteArray) = strOf [58] from rfl, strOf_append, ← strOf_list s, strOf_append]; rfl
theorem logLine_str (t : Int) (l : List UInt8) : strOf (logHead t l) ++ strOf (Lib.decDigits (sumI (logHead t l)).toNat) ++ ⟨#[10]⟩ = strOf (logLine t l) := by
 rw [show (⟨#[10]⟩ : ByteArray) = strOf [10] from rfl, strOf_append, strOf_append]; rfl
theorem logHead_len (t : Int) (l : List UInt8) (h0 : 0 ≤ t) (h1 : t ≤ 100000) : (logHead t l).length ≤ l.length + 11 := by
 have := dec_len t.toNat (by omega); unfold logHead; simp only [List.length_append, List.length_cons, List.length_nil]; omega
set_option maxRecDepth 100000 in
set_option maxHeartbeats 2000000 in
theorem l8Line_any (t : Int) (s : ByteArray) (w : World) (h0 : 0 ≤ t) (h1 : t ≤ 100000) (hs : s.size ≤ 100000000) :
 Calls Tryz.prog 92 #[.int .i64 t, .string s] w fun e w' => e = .returned (.string (strOf (logLine t s.data.toList))) ∧ Ext w w' := by
 obtain ⟨d, hd⟩ : ∃ d, d = strOf (Lib.decDigits t.toNat) := ⟨_, rfl⟩
 have hds : d.size ≤ 10 := by rw [hd, strOf_size]; exact dec_len _ (by omega)
 obtain ⟨h, hh⟩ : ∃ h, h = d ++ ⟨#[58]⟩ ++ s := ⟨_, rfl⟩
 have hhe : h = strOf (logHead t s.data.toList) := by rw [hh, hd, logHead_str]
 have hhs : h.size ≤ 100000020 := by
  rw [hhe, strOf_size]; have := logHead_len t s.data.toList h0 h1
  have e : s.data.toList.length = s.size := (by simp)
  omega
 obtain ⟨n, hn⟩ : ∃ n, n = sumI h.data.toList := ⟨_, rfl⟩
 have hb : 0 ≤ n ∧ n ≤ 1000002 := hn ▸ sumI_bd _; obtain ⟨hb1, hb2⟩ := hb
 obtain ⟨f, hf⟩ : ∃ f, f = strOf (Lib.decDigits n.toNat) := ⟨_, rfl⟩
 have hfs : f.size ≤ 10 := by rw [hf, strOf_size]; exact dec_len _ (by omega)
 have HF := Lib.hid (show h ++ f ++ ⟨#[10]⟩ = strOf (logLine t s.data.toList) from by rw [hf, hn, hhe]; exact logLine_str t _); have HD := Lib.hid (fun W => show Calls Tryz.prog 75 #[.int .i64 t] W fun e w' => e = .returned (.string d) ∧ Ext W w' from hd ▸ l1Dec_any t W h0 (by omega)); have HS := Lib.hid (fun W => show Calls Tryz.prog 159 #[.string h] W fun e w' => e = .returned (.int .i64 n) ∧ W = w' from hn ▸ (specSum_any h W (maxOf (by omega))).mono fun _ _ ⟨a, b⟩ => ⟨a, b.symm⟩); have HE := Lib.hid (fun W => show Calls Tryz.prog 75 #[.int .i64 n] W fun e w' => e = .returned (.string f) ∧ Ext W w' from hf ▸ l1Dec_any n W hb1 (by omega)); have HH := Lib.hid hh; have tok : True := trivial; clear hd hh hhe hn hf; go_enter Tryz.func92, Tryz.ntmps92
 go_wp2_with (go_at_call 75; have _t := tok; refine (HD.out _).mono ?_; clear tok _t; rintro e w1 ⟨rfl, hx1⟩)
 rw [← HH.out]
 go_wp2_with (first
  | (go_at_call 159; refine (HS.out _).mono ?_; rintro e w2 ⟨rfl, rfl⟩)
  | (go_at_call 75; refine (HE.out _).mono ?_; rintro e w2 ⟨rfl, hx2⟩))
 go_ret; exact ⟨by rw [← HF.out]; rfl, hx1.trans' hx2⟩
theorem changeL_len (g : GC) : (changeL g).length ≤ 5 * wChange g := by
 have h1 := signedL_len 45 g.goes; have h2 := signedL_len 43 g.comes; unfold changeL wChange; rw [List.length_append]; omega
set_option maxRecDepth 100000 in
set_option maxHeartbeats 4000000 in
theorem logPut_any (t : Int) (g : GC) (v u : Value) (w : World) {S T : Nat → Prop} (hv : AtomsR S w v g.comes) (hu : AtomsR T w u g.goes) (htab : Lib.TabIs Tryz.prog w "internal/strconv.uint64pow10" .u64 Lib.pow10Tab) :
 Calls Tryz.prog 11 #[.int .i64 t, .agg #[v, u]] w fun e w' => e = .returned (.string (strOf (logPutL t g))) ∧ Ext w w' := by
 obtain ⟨A, c, rfl, hc1, hc2⟩ := SliceR.form hv; obtain ⟨B, d, rfl, hd1, hd2⟩ := SliceR.form hu; have HB := Lib.hid (Blk.new w 32 #[.slice A g.comes.length c, .slice B g.goes.length d]); have HV := Lib.hid (hv.ext ((Ext.refl w).alloc (.cells #[.slice A g.comes.length c, .slice B g.goes.length d] 32))); have HU := Lib.hid (hu.ext ((Ext.refl w).alloc (.cells #[.slice A g.comes.length c, .slice B g.goes.length d] 32))); have HP := Lib.hid (pow_ext htab ((Ext.refl w).alloc (.cells #[.slice A g.comes.length c, .slice B g.goes.length d] 32))); clear hv hu htab
 by_cases ht0 : t < 0
 · have HF := Lib.hid (show logPutL t g = [] from by unfold logPutL timeB; rw [inB_low ht0, Bool.and_false]; rfl)
   go_enter Tryz.func11, Tryz.ntmps11; go_wp2; go_ret; exact ⟨by rw [HF.out]; rfl, (Ext.refl _).alloc _⟩
 by_cases ht1 : 100000 < t
 · have HF := Lib.hid (show logPutL t g = [] from by unfold logPutL timeB; rw [inB_high ht1, Bool.and_false]; rfl)
   go_enter Tryz.func11, Tryz.ntmps11; go_wp2; go_ret; exact ⟨by rw [HF.out]; rfl, (Ext.refl _).alloc _⟩
 have h0 : 0 ≤ t := (by omega)
 have h1 : t ≤ 100000 := (by omega)
 have g0 : decide (t < 0) = false := decide_eq_false ht0; have g1 : decide (100000 < t) = false := decide_eq_false ht1; have hw := bool_ways (changeOk_any g _ _ _ HV.out HU.out)
 cases hk : changeOkB g
 · have HF := Lib.hid (show logPutL t g = [] from by unfold logPutL; rw [hk]; rfl)
   have HW := Lib.hid (hw.2 hk); clear hw hk; go_enter Tryz.func11, Tryz.ntmps11
   go_wp2_with (go_at_call 36; refine HW.out.mono ?_; rintro e w1 ⟨rfl, hx1⟩)
   go_ret; exact ⟨by rw [HF.out]; rfl, ((Ext.refl _).alloc _).trans' hx1⟩
 have HF := Lib.hid (show logPutL t g = logLine t (changeL g) from by unfold logPutL timeB; rw [hk, inB_yes h0 h1]; rfl); have HW := Lib.hid (hw.1 hk); have HS := Lib.hid (okChange_w hk); have HCP := Lib.hid (show changePutL g = changeL g from by unfold changePutL; rw [hk]; rfl); clear hw hk
 obtain ⟨q, hq⟩ : ∃ q, q = strOf (changeL g) := ⟨_, rfl⟩
 have hqs : q.size ≤ 10485760 := by rw [hq, strOf_size]; have := changeL_len g; have := HS.out; omega
 obtain ⟨dd, hd⟩ : ∃ d, d = strOf (Lib.decDigits t.toNat) := ⟨_, rfl⟩
 have hds : dd.size ≤ 10 := by rw [hd, strOf_size]; exact dec_len _ (by omega)
 obtain ⟨h, hh⟩ : ∃ h, h = dd ++ ⟨#[58]⟩ ++ q := ⟨_, rfl⟩
 have hhe : h = strOf (logHead t (changeL g)) := by rw [hh, hd, logHead_str, hq]; rfl
 have hhs : h.size ≤ 100000020 := by
  rw [hhe, strOf_size]; have := logHead_len t (changeL g) h0 h1; have := changeL_len g; have := HS.out; omega
 obtain ⟨n, hn⟩ : ∃ n, n = sumI h.data.toList := ⟨_, rfl⟩
 have hb : 0 ≤ n ∧ n ≤ 1000002 := hn ▸ sumI_bd _; obtain ⟨hb1, hb2⟩ := hb
 obtain ⟨f, hf⟩ : ∃ f, f = strOf (Lib.decDigits n.toNat) := ⟨_, rfl⟩
 have hfs : f.size ≤ 10 := by rw [hf, strOf_size]; exact dec_len _ (by omega)
 have HFF := Lib.hid (show h ++ f ++ ⟨#[10]⟩ = strOf (logLine t (changeL g)) from by rw [hf, hn, hhe]; exact logLine_str t _); have HD := Lib.hid (fun W (hx : Ext (w.alloc (.cells #[.slice A g.comes.length c, .slice B g.goes.length d] 32)) W) => show Calls Tryz.prog 37 #[.int .i64 t] W fun e w' => e = .returned (.string dd) ∧ Ext W w' from hd ▸ decimal_any t W h0 (by omega) (pow_ext HP.out hx))
 have HQ := Lib.hid (fun W (hx : Ext (w.alloc (.cells #[.slice A g.comes.length c, .slice B g.goes.length d] 32)) W) => show Calls Tryz.prog 38 #[.agg #[.slice A g.comes.length c, .slice B g.goes.length d]] W fun e w' => e = .returned (.string q) ∧ Ext W w' from by
  have := changePut_any g _ _ W (HV.out.ext hx) (HU.out.ext hx); rw [HCP.out, ← hq] at this
  exact this)
 have HS1 := Lib.hid (fun W => show Calls Tryz.prog 39 #[.string h] W fun e w' => e = .returned (.int .i64 n) ∧ W = w' from hn ▸ (implSum_any h W (maxOf (by omega))).mono fun _ _ ⟨a, b⟩ => ⟨a, b.symm⟩); have HE := Lib.hid (fun W (hx : Ext (w.alloc (.cells #[.slice A g.comes.length c, .slice B g.goes.length d] 32)) W) => show Calls Tryz.prog 37 #[.int .i64 n] W fun e w' => e = .returned (.string f) ∧ Ext W w' from hf ▸ decimal_any n W hb1 (by omega) (pow_ext HP.out hx)); have HH := Lib.hid hh; clear hd hh hhe hn hf hq; go_enter Tryz.func11, Tryz.ntmps11
 go_wp2_with (go_at_call 36; refine HW.out.mono ?_; rintro e w1 ⟨rfl, hx1⟩; have HX1 := Lib.hid hx1; have hb1' := HB.out.ext hx1; have q0 := hb1'.cell 0; have q1 := hb1'.cell 1; have hl1 := hb1'.lt; clear hx1 hb1')
 refine calm_region (by kernel_rfl) (by kernel_rfl) ?_
 repeat (go_big_quiet_step (first | (go_at_call 37; exact calm_call (HD.out _ (HX1.out.trans' (Later.ext _)))) | (go_at_call 38; exact calm_call (HQ.out _ (HX1.out.trans' (Later.ext _))))))
 refine wpQuiet_nil ?_; rintro w2 ⟨⟨_, hx2⟩, rfl⟩; rw [← HH.out]; have HX2 := Lib.hid (HX1.out.trans' hx2)
 go_wp2_with (first
  | (go_at_call 39; refine (HS1.out _).mono ?_; rintro e w3 ⟨rfl, rfl⟩)
  | (go_at_call 37; refine (HE.out _ HX2.out).mono ?_; rintro e w3 ⟨rfl, hx3⟩))
 go_ret; exact ⟨by rw [HF.out, ← HFF.out]; rfl, ((Ext.refl _).alloc _).trans' (HX2.out.trans' hx3)⟩
set_option maxRecDepth 100000 in
set_option maxHeartbeats 2000000 in
theorem specLogPut_any (t : Int) (g : GC) (v u : Value) (w : World) {S T : Nat → Prop} (hv : AtomsR S w v g.comes) (hu : AtomsR T w u g.goes) :
 Calls Tryz.prog 86 #[.int .i64 t, .agg #[v, u]] w fun e w' => e = .returned (.string (strOf (logPutL t g))) ∧ Ext w w' := by
 obtain ⟨A, c, rfl, hc1, hc2⟩ := SliceR.form hv; obtain ⟨B, d, rfl, hd1, hd2⟩ := SliceR.form hu; have HB := Lib.hid (Blk.new w 32 #[.slice A g.comes.length c, .slice B g.goes.length d]); have HV := Lib.hid (hv.ext ((Ext.refl w).alloc (.cells #[.slice A g.comes.length c, .slice B g.goes.length d] 32))); have HU := Lib.hid (hu.ext ((Ext.refl w).alloc (.cells #[.slice A g.comes.length c, .slice B g.goes.length d] 32))); clear hv hu; have hw := bool_ways (specChangeOk_any g _ _ _ HV.out HU.out)
 cases hk : changeOkB g
 · have HF := Lib.hid (show logPutL t g = [] from by unfold logPutL; rw [hk]; rfl)
   have HW := Lib.hid (hw.2 hk); clear hw hk; go_enter Tryz.func86, Tryz.ntmps86
   go_wp2_with (go_at_call 47; refine HW.out.mono ?_; rintro e w1 ⟨rfl, hx1⟩)
   go_ret; exact ⟨by rw [HF.out]; rfl, ((Ext.refl _).alloc _).trans' hx1⟩
 have HW := Lib.hid (hw.1 hk); have HS := Lib.hid (okChange_w hk); clear hw
 cases ht : inB t 0 100000
 · have HF := Lib.hid (show logPutL t g = [] from by unfold logPutL timeB; rw [ht, Bool.and_false]; rfl)
   have HT := Lib.hid (fun W => (bool_ways (l1In_any t 0 100000 W)).2 ht); clear hk ht; go_enter Tryz.func86, Tryz.ntmps86
   go_wp2_with (first
    | (go_at_call 47; refine HW.out.mono ?_; rintro e w1 ⟨rfl, hx1⟩)
    | (go_at_call 127; refine (HT.out _).mono ?_; rintro e w2 ⟨rfl, rfl⟩))
   go_ret; exact ⟨by rw [HF.out]; rfl, ((Ext.refl _).alloc _).trans' hx1⟩
 have HF := Lib.hid (show logPutL t g = logLine t (changeL g) from by unfold logPutL timeB; rw [hk, ht]; rfl); have HT := Lib.hid (fun W => (bool_ways (l1In_any t 0 100000 W)).1 ht); have htt := of_decide_eq_true ht; obtain ⟨ht0, ht1⟩ := htt; clear hk ht; go_enter Tryz.func86, Tryz.ntmps86
 go_wp2_with (first
  | (go_at_call 47; refine HW.out.mono ?_; rintro e w1 ⟨rfl, hx1⟩; have hb1 := HB.out.ext hx1; have q0 := hb1.cell 0; have q1 := hb1.cell 1; clear hb1)
  | (go_at_call 127; refine (HT.out _).mono ?_; rintro e w2 ⟨rfl, rfl⟩)
  | (go_at_call 150; refine (l8Put_any g _ _ _ (HV.out.ext hx1) (HU.out.ext hx1) HS.out).mono ?_; rintro e w3 ⟨rfl, hx3⟩)
  | (go_at_call 92; refine (l8Line_any t (strOf (changeL g)) _ ht0 ht1 (by rw [strOf_size]; have := changeL_len g; have := HS.out; omega)).mono ?_; rintro e w4 ⟨rfl, hx4⟩))
 go_ret; exact ⟨by rw [HF.out]; rfl, ((((Ext.refl _).alloc _).trans' hx1).trans' hx3).trans' hx4⟩
theorem extract_str (s : ByteArray) (f i : Nat) (_h : i ≤ s.size) : s.extract f i = strOf ((s.data.toList.drop f).take (i - f)) := by
 apply bytes_inj
 rw [list_strOf]; simp only [ByteArray.data_extract, Array.toList_extract, List.extract_eq_take_drop]
theorem take_drop_snoc (l : List UInt8) (f i : Nat) (c : UInt8) (hf : f ≤ i) (h : l[i]? = some c) : (l.drop f).take (i + 1 - f) = (l.drop f).take (i - f) ++ [c] := by
 rw [show i + 1 - f = (i - f) + 1 from by omega]
 have : (l.drop f)[i - f]? = some c := by rw [List.getElem?_drop, show f + (i - f) = i from by omega]; exact h
 obtain ⟨hlt, rfl⟩ := List.getElem?_eq_some_iff.1 this; exact List.take_succ_eq_append_getElem hlt
theorem drop_cut (l : List UInt8) (f i : Nat) (c : UInt8) (hf : f ≤ i) (h : l[i]? = some c) : l.drop f = (l.drop f).take (i - f) ++ c :: l.drop (i + 1) := by
 conv => lhs; rw [← List.take_append_drop (i - f) (l.drop f)]
 congr 1
 rw [List.drop_drop, show f + (i - f) = i from by omega]; obtain ⟨hlt, rfl⟩ := List.getElem?_eq_some_iff.1 h; exact List.drop_eq_getElem_cons hlt
theorem str_infoR : (Tryz.prog.info? 9).map (fun i => (i.zero, i.size, i.bytes)) = some (some (.string ByteArray.empty), 1, 16) := by kernel_rfl
set_option maxRecDepth 100000 in
set_option maxHeartbeats 4000000 in
theorem l1Cut_any (s : ByteArray) (c : UInt8) (w : World) (hs : s.size ≤ 4194304) :
 Calls Tryz.prog 34 #[.string s, .int .u8 c.toNat] w fun e w' => (∃ v, e = .returned v ∧ StrsR (From w.heap.size) w' v ((splitL c s.data.toList).map strOf)) ∧ Ext w w' := by
 obtain ⟨i0, hi0, hz0, hz1, hz2⟩ := info_parts str_infoR; have hc8 : c.toNat < 256 := c.toNat_lt; go_enter Tryz.func34, Tryz.ntmps34; go_wp2
 go_loopw [5, 6, 7] (fun v ff ii wr => ∃ (i f : Nat) (ps : List (List UInt8)), ii = .int .i64 i ∧ ff = .int .i64 f ∧ f ≤ i ∧ i ≤ s.size ∧ ps.length ≤ i ∧ Hid (splitL c s.data.toList = ps ++ splitL c (s.data.toList.drop f)) ∧ Hid (c ∉ (s.data.toList.drop f).take (i - f)) ∧ Hid (OwnK kStr w.heap.size 9 None wr v (ps.map strOf)) ∧ Ext w wr) (fun _ _ i _ => s.size - (intOf i).toNat)
 case atStart => exact ⟨0, 0, [], rfl, rfl, Nat.le_refl _, Nat.zero_le _, Nat.zero_le _, by show _ = _; simp, by show ¬ _; simp, OwnK.empty rfl (Nat.le_refl _), (Ext.refl _).alloc _⟩
 case round =>
  obtain ⟨i, f, ps, rfl, rfl, hf, hi, hps, hsp, hno, ho, hx⟩ := hrel; obtain ⟨A0, n0, c0, rfl, hn0, ha0, hb0⟩ := ho.out.form2; have hsz := hx.size
  have hf0 : (0 : Int) ≤ (f : Int) := (by omega)
  have hf1 : (f : Int) ≤ (i : Int) := (by omega)
  have hi0' : (0 : Int) ≤ (i : Int) := (by omega)
  by_cases hlt : i < s.size
  · have hat : s.data.toList[i]? = some s[i] := by rw [List.getElem?_eq_getElem (by simpa using hlt)]; rfl
    have hx8 : s[i].toNat < 256 := s[i].toNat_lt
    have hi1 : (i : Int) < (s.size : Int) := (by omega)
    by_cases hc : s[i] = c
    · have hb : ((s[i].toNat : Int) == (c.toNat : Int)) = true := by rw [hc]; exact beq_self_eq_true _
      have HE := Lib.hid (extract_str s f i (by omega))
      have hes : (s.extract f i).size ≤ maxLen := by rw [HE.out, strOf_size]; exact maxOf (by simp [List.length_take]; omega)
      have HS := Lib.hid (show splitL c s.data.toList = (ps ++ [(s.data.toList.drop f).take (i - f)]) ++ splitL c (s.data.toList.drop (i + 1)) from by
       rw [hsp.out, List.append_assoc]
       congr 1
       conv => lhs; rw [drop_cut _ f i c hf (by rw [hat, hc])]
       rw [splitL_app hno.out]; rfl)
      clear hsp hno hat hc
      go_wp2_with (at_builtin; refine wpList_appL (k := kStr) (S := None) (T := None) (base := w.heap.size) (xs := ps.map strOf) (ys := [s.extract f i]) rfl (.tmp 20) (.tmp 25) 65 (by rfl) i0 _ 16 Tryz.underlying65 hi0 hz0 hz1 hz2 (by rfl) (by rfl) (ho.out.ext ((Ext.refl _).alloc _)) _ 1 1 (by rfl) (ElemsK.one (k := kStr) (x := s.extract f i) (Blk.new _ _ _) ⟨rfl, hes⟩) (fun _ h => h.elim) (maxOf (by simp; omega)) (by simp; omega) (by go_size) ?_; intro v3 w3 hap)
      go_roundw
      case rel => exact ⟨i + 1, i + 1, ps ++ [(s.data.toList.drop f).take (i - f)], by go_num, by go_num, Nat.le_refl _, by omega, by simp; omega, HS, by show ¬ _; simp, Lib.hid (by rw [List.map_append, List.map_cons, List.map_nil, ← HE.out]; exact hap.own), hap.toExt (hx.alloc _) (Nat.le_refl _)⟩
      case measure => simp [intOf]; omega
    have hb : ((s[i].toNat : Int) == (c.toNat : Int)) = false := by
      rw [beq_eq_false_iff_ne]; intro e; exact hc (UInt8.toNat_inj.1 (by omega))
    have HN := Lib.hid (show c ∉ (s.data.toList.drop f).take (i + 1 - f) from by
     rw [take_drop_snoc _ f i _ hf hat]; intro hm
     rcases List.mem_append.1 hm with hm | hm
     · exact hno.out hm
     simp at hm; exact hc hm.symm)
    clear hno hat hc; go_wp2; go_roundw
    case rel => exact ⟨i + 1, f, ps, by go_num, rfl, by omega, by omega, by omega, hsp, HN, ho, hx⟩
    case measure => simp [intOf]; omega
  have hie : i = s.size := (by omega)
  have HE := Lib.hid (show s.extract f s.size = strOf (s.data.toList.drop f) from by
   rw [extract_str s f s.size (Nat.le_refl _), List.take_of_length_le (by simp)])
  have HS := Lib.hid (show splitL c s.data.toList = ps ++ [s.data.toList.drop f] from by
   rw [hsp.out]
   congr 1
   apply splitL_none
   have := hno.out; rw [List.take_of_length_le (by simp; omega)] at this
   exact this)
  have hes : (s.extract f s.size).size ≤ maxLen := by rw [HE.out, strOf_size]; exact maxOf (by simp; omega)
  have hf2 : (f : Int) ≤ (s.size : Int) := (by omega)
  clear hsp hno hie
  go_wp2_with (at_builtin; refine wpList_appL (k := kStr) (S := None) (T := None) (base := w.heap.size) (xs := ps.map strOf) (ys := [s.extract f s.size]) rfl (.tmp 29) (.tmp 33) 65 (by rfl) i0 _ 16 Tryz.underlying65 hi0 hz0 hz1 hz2 (by rfl) (by rfl) (ho.out.ext ((Ext.refl _).alloc _)) _ 1 1 (by rfl) (ElemsK.one (k := kStr) (x := s.extract f s.size) (Blk.new _ _ _) ⟨rfl, hes⟩) (fun _ h => h.elim) (maxOf (by simp; omega)) (by simp; omega) (by go_size) ?_; intro v3 w3 hap)
  go_ret; refine ⟨⟨v3, rfl, ?_⟩, hap.toExt (hx.alloc _) (Nat.le_refl _)⟩; have h := hap.own.list (S' := From w.heap.size) (fun _ h => h.elim) (fun _ h => h); rw [HS.out, List.map_append, List.map_cons, List.map_nil, ← HE.out]; exact h
set_option maxRecDepth 100000 in
set_option maxHeartbeats 2000000 in
theorem l1Arg_any (s : ByteArray) (w : World) (hs : s.size ≤ maxLen) :
 Calls Tryz.prog 215 #[.string s] w fun e w' => e = .returned (.agg #[.bool (capB s), .string s]) ∧ Ext w w' := by
 unfold maxLen at hs
 by_cases h0 : 0 < s.size
 · have HC := Lib.hid (capB_cons h0)
   have hx8 : s[0].toNat < 256 := s[0].toNat_lt; have g0 : decide (0 < s.size) = true := decide_eq_true h0
   by_cases h1 : 65 ≤ s[0].toNat
   · have g1 : decide ((65 : Int) ≤ (s[0].toNat : Int)) = true := decide_eq_true (by omega)
     by_cases h2 : s[0].toNat ≤ 90
     · have HV := Lib.hid (show capB s = true from by rw [HC.out]; exact decide_eq_true ⟨h1, h2⟩)
       have g2 : decide ((s[0].toNat : Int) ≤ 90) = true := decide_eq_true (by omega); go_enter Tryz.func215, Tryz.ntmps215; go_wp2; exact bodyPost_ret (v := .agg #[.bool true, .string s]) (by simp [results, Tryz.results215, go_sem]) rfl ⟨by rw [HV.out], (Ext.refl _).alloc _⟩
     have HV := Lib.hid (show capB s = false from by rw [HC.out]; exact decide_eq_false (by omega)); have g2 : decide ((s[0].toNat : Int) ≤ 90) = false := decide_eq_false (by omega); go_enter Tryz.func215, Tryz.ntmps215; go_wp2; exact bodyPost_ret (v := .agg #[.bool false, .string s]) (by simp [results, Tryz.results215, go_sem]) rfl ⟨by rw [HV.out], (Ext.refl _).alloc _⟩
   have g1 : decide ((65 : Int) ≤ (s[0].toNat : Int)) = false := decide_eq_false (by omega); have HV := Lib.hid (show capB s = false from by rw [HC.out]; exact decide_eq_false (by omega)); go_enter Tryz.func215, Tryz.ntmps215; go_wp2; exact bodyPost_ret (v := .agg #[.bool false, .string s]) (by simp [results, Tryz.results215, go_sem]) rfl ⟨by rw [HV.out], (Ext.refl _).alloc _⟩
 have g0 : decide (0 < s.size) = false := decide_eq_false h0
 have HV := Lib.hid (show capB s = false from by
  unfold capB; have : s.data.toList = [] := List.eq_nil_of_length_eq_zero (by have e : s.data.toList.length = s.size := (by simp); omega)
  rw [this])
 go_enter Tryz.func215, Tryz.ntmps215; go_wp2; exact bodyPost_ret (v := .agg #[.bool false, .string s]) (by simp [results, Tryz.results215, go_sem]) rfl ⟨by rw [HV.out], (Ext.refl _).alloc _⟩
set_option maxRecDepth 100000 in
set_option maxHeartbeats 2000000 in
theorem specAtomPut_any (a : GA) (v : Value) (w : World) {S : Nat → Prop} (hv : TermsR S w v a.args) (hn : a.n.size ≤ maxLen) (hw : wAtom a ≤ 4194304) :
 Calls Tryz.prog 216 #[.agg #[.string a.n, v]] w fun e w' => e = .returned (.string (strOf (atomPutL a))) ∧ Ext w w' := by
 obtain ⟨A, c, rfl, hc1, hc2⟩ := SliceR.form hv; have HV := Lib.hid (hv.ext ((Ext.refl w).alloc (.cells #[.string a.n, .slice A a.args.length c] 54))); have HB := Lib.hid (Blk.new w 54 #[.string a.n, .slice A a.args.length c]); have HW := Lib.hid hw; have hk := bool_ways (specAtomOk_any a _ _ hn HV.out); have HN := Lib.hid hn; clear hv hw hn
 cases ho : atomOkB a
 · have HF := Lib.hid (show atomPutL a = [] from by unfold atomPutL; rw [ho]; rfl)
   have HK := Lib.hid (hk.2 ho); clear hk ho; go_enter Tryz.func216, Tryz.ntmps216
   go_wp2_with (go_at_call 126; refine HK.out.mono ?_; rintro e w1 ⟨rfl, hx1⟩)
   go_ret; exact ⟨by rw [HF.out]; rfl, ((Ext.refl _).alloc _).trans' hx1⟩
 have HF := Lib.hid (show atomPutL a = atomL a from by unfold atomPutL; rw [ho]; rfl); have HK := Lib.hid (hk.1 ho); clear hk ho; go_enter Tryz.func216, Tryz.ntmps216
 go_wp2_with (first
  | (go_at_call 126; refine HK.out.mono ?_; rintro e w1 ⟨rfl, hx1⟩; have hb1 := HB.out.ext hx1; have q0 := hb1.cell 0; have q1 := hb1.cell 1; clear hb1)
  | (go_at_call 211; refine (l1Put_any a _ _ (HV.out.ext hx1) HW.out).mono ?_; rintro e w2 ⟨rfl, hx2⟩))
 go_ret; exact ⟨by rw [HF.out]; rfl, (((Ext.refl _).alloc _).trans' hx1).trans' hx2⟩
end Go.Proofs.YtmihponoillihaaGreatDoor
