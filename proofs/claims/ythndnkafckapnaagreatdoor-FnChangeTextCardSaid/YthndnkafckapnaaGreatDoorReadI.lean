/- The walk of the program's ChangeGet. -/
import Derived.Test.YthndnkafckapnaaGreatDoorReadY
import Derived.Test.YthndnkafckapnaaGreatDoorReadZ
import Derived.Test.YthndnkafckapnaaGreatDoorPut
namespace Go.Proofs.YthndnkafckapnaaGreatDoor
open Go.RowKit

def strLen (v : Value) : Nat := match v with | .string t => t.size | _ => 0
theorem strLen_str (t : ByteArray) : strLen (.string t) = t.size := rfl
theorem implChange_none {l : List UInt8} (h : implFold (splitL 32 l) noneC = none) : changeOf l = none := by rw [← implChange_eq]; unfold implChange; rw [h]
theorem implChange_some {l : List UInt8} {g : GC} (h : implFold (splitL 32 l) noneC = some g) : changeOf l = if changeOkB g = true then some g else none := by rw [← implChange_eq]; unfold implChange; rw [h]
theorem implFold_cut {p r : List UInt8} (h : (32 : UInt8) ∉ p) (g : GC) : implFold (splitL 32 (p ++ 32 :: r)) g = (wordImpl p g).bind fun g' => implFold (splitL 32 r) g' := by
  rw [splitL_app h]
  cases hs : splitL 32 r with
  | nil => exact absurd hs (splitL_ne 32 r)
  | cons a b => exact implFold_two _ _ _ _
theorem implFold_whole {l : List UInt8} (h : (32 : UInt8) ∉ l) (h0 : l ≠ []) (g : GC) : implFold (splitL 32 l) g = none := by
  rw [splitL_none h]
  show (if l = [] then some g else none) = none
  rw [if_neg h0]
theorem str_empty {s : ByteArray} (h : s.size = 0) : s.toList.isEmpty = true ∧ s.toList = [] ∧ s.data.toList = [] := by
  have : s.data.toList = [] := List.eq_nil_of_length_eq_zero (by have h2 : s.data.toList.length = s.size := (by simp); omega)
  refine ⟨?_, ?_, this⟩ <;> rw [ByteArray.toList_eq, this]; rfl
theorem str_full {s : ByteArray} (h : 0 < s.size) : s.toList.isEmpty = false ∧ (s.toList == []) = false ∧ s.data.toList ≠ [] := by
  have h0 : s.data.toList ≠ [] := by
    intro e
    have h2 : s.data.toList.length = s.size := by simp
    rw [e] at h2; simp at h2; omega
  refine ⟨?_, ?_, h0⟩
  · rw [ByteArray.toList_eq, List.isEmpty_eq_false_iff]; exact h0
  · rw [beq_eq_false_iff_ne, ByteArray.toList_eq]; exact h0

set_option maxRecDepth 100000 in
set_option maxHeartbeats 2000000 in
theorem changeGet_any (s : ByteArray) (w : World) (hs : s.size ≤ 4194304) (hm : MaxIs w) :
    Calls Tryz.prog 9 #[.string s] w fun e w' => GotChange w.heap.size (changeOf s.data.toList) e w' ∧ Ext w w' := by
  obtain ⟨i0, hi0, hz0, hz1, hz2⟩ := info_parts atom_info
  have HM := Lib.hid hm
  have HB2 := Lib.hid ((Blk.new w 25 #[.slice none 0 0, .slice none 0 0]).alloc (.cells #[.slice none 0 0, .slice none 0 0] 25))
  have HB4 := Lib.hid (Blk.new (w.alloc (.cells #[.slice none 0 0, .slice none 0 0] 25)) 25 #[.slice none 0 0, .slice none 0 0])
  obtain ⟨B, hB⟩ : ∃ B, B = w.heap.size + 2 := ⟨_, rfl⟩
  clear hm
  go_enter Tryz.func9, Tryz.ntmps9
  go_wp2
  go_loopw [0] (fun tt wr => ∃ (t : ByteArray) (vc vg : Value) (gc gg : List GA) (Sc Sg : Nat → Prop), tt = .string t ∧ t.size ≤ s.size ∧ Hid (gc.length + gg.length + t.size ≤ s.size) ∧ Hid (Blk wr w.heap.size 25 #[.slice none 0 0, .slice none 0 0]) ∧ Hid (Blk wr (w.heap.size + 1) 25 #[vc, vg]) ∧ Hid (TwoO B wr.heap.size 67 Sc Sg wr vc gc vg gg) ∧ Hid (implFold (splitL 32 t.data.toList) ⟨gc, gg⟩ = implFold (splitL 32 s.data.toList) noneC) ∧ Ext w wr ∧ B ≤ wr.heap.size) (fun t _ => strLen t)
  case atStart => exact ⟨s, _, _, [], [], _, _, rfl, Nat.le_refl _, Lib.hid (by simp), HB2, Lib.hid (by simpa using HB4.out), Lib.hid (TwoO.nil _ _ _ _), rfl, ((Ext.refl w).alloc _).alloc _, by simp; omega⟩
  case round =>
    obtain ⟨t, vc, vg, gc, gg, Sc, Sg, rfl, hts, hcount, hbz, hba, ho, hfold, hx, hsz⟩ := hrel
    obtain ⟨Ac, nc, cc, rfl, hnc, hac, hbc⟩ := ho.out.c.form2
    obtain ⟨Ag, ng, cg, rfl, hng, hag, hbg⟩ := ho.out.g.form2
    have q0 := hbz.out.cell 0
    have q1 := hbz.out.cell 1
    have f0 := hbz.out.frozen 0
    have f1 := hbz.out.frozen 1
    have hlz := hbz.out.lt
    have p0 := hba.out.cell 0
    have p1 := hba.out.cell 1
    have hla := hba.out.lt
    have HMR := Lib.hid (HM.out.ext hx)
    by_cases ht0 : t.size = 0
    · obtain ⟨he1, he2, he3⟩ := str_empty ht0
      have HEnd := Lib.hid (show implFold (splitL 32 s.data.toList) noneC = some ⟨gc, gg⟩ from by rw [← hfold.out, he3]; rfl)
      have HCH := Lib.hid (implChange_some HEnd.out)
      have hk := bool_ways (changeOk_any ⟨gc, gg⟩ _ _ wr (AtomsO.read ho.out.c.slice2) (AtomsO.read ho.out.g.slice2))
      clear he3
      cases hok : changeOkB ⟨gc, gg⟩
      · have HNO := Lib.hid (show changeOf s.data.toList = none from by rw [HCH.out, hok]; rfl)
        have HK := Lib.hid (hk.2 hok)
        clear hk hok
        go_wp2_with (go_at_call 36; refine HK.out.mono ?_; rintro e w6 ⟨rfl, hx6⟩; have hz6 := hbz.out.ext hx6; have ha6 := hba.out.ext hx6; have r0 := hz6.cell 0; have r1 := hz6.cell 1; have s0 := hz6.frozen 0; have s1 := hz6.frozen 1; have t0 := ha6.cell 0; have t1 := ha6.cell 1; have hl6 := hz6.lt; have hl7 := ha6.lt; have HX6 := Lib.hid hx6; clear hx6 hz6 ha6)
        refine bodyPost_ret (v := .tuple #[.agg #[.slice none 0 0, .slice none 0 0], .bool false]) (by simp [results, Tryz.results9, go_sem, r0, r1]) rfl ⟨by rw [HNO.out]; rfl, ?_⟩
        exact Ext.setNew (a := w) (Ext.setNew (hx.trans' HX6.out) (Nat.le_refl _) _) (Nat.le_refl _) _
      · have HOK := Lib.hid (show changeOf s.data.toList = some ⟨gc, gg⟩ from by rw [HCH.out, hok]; rfl)
        have HK := Lib.hid (hk.1 hok)
        clear hk hok
        go_wp2_with (go_at_call 36; refine HK.out.mono ?_; rintro e w6 ⟨rfl, hx6⟩; have hz6 := hbz.out.ext hx6; have ha6 := hba.out.ext hx6; have r0 := hz6.cell 0; have r1 := hz6.cell 1; have s0 := hz6.frozen 0; have s1 := hz6.frozen 1; have t0 := ha6.cell 0; have t1 := ha6.cell 1; have hl6 := hz6.lt; have hl7 := ha6.lt; have HX6 := Lib.hid hx6; clear hx6 hz6 ha6)
        refine bodyPost_ret (v := .tuple #[.agg #[.slice Ac nc cc, .slice Ag ng cg], .bool true]) (by simp [results, Tryz.results9, go_sem, r0, r1]) rfl ⟨?_, ?_⟩
        · rw [HOK.out]
          exact (((ho.out.ext HX6.out).set (p := ⟨w.heap.size, 0, none⟩) (show w.heap.size < _ from by omega) _).set (p := ⟨w.heap.size, 1, none⟩) (show w.heap.size < _ from by omega) _).got (by omega) rfl rfl
        · exact Ext.setNew (a := w) (Ext.setNew (hx.trans' HX6.out) (Nat.le_refl _) _) (Nat.le_refl _) _
    have ht1 : 0 < t.size := by omega
    obtain ⟨he1, he2, he3⟩ := str_full ht1
    rcases cut_one 32 t.data.toList with ⟨hno, hcut⟩ | ⟨p, r, hpr, hno, hcut⟩
    · have HN := Lib.hid (implChange_none (hfold.out.symm.trans (implFold_whole hno he3 _)))
      have HC := Lib.hid (show Calls Tryz.prog 40 #[.string t, .string ⟨#[32]⟩] wr fun e w' => e = .returned (.tuple #[.string t, .string ⟨#[]⟩, .bool false]) ∧ Ext wr w' from by
        have h := strCut_any t 32 wr (by omega) HMR.out
        rw [hcut, strOf_list] at h
        exact h)
      clear hno hcut he3
      go_wp2_with (go_at_call 40; refine HC.out.mono ?_; rintro e w6 ⟨rfl, hx6⟩; have hz6 := hbz.out.ext hx6; have r0 := hz6.cell 0; have r1 := hz6.cell 1; have s0 := hz6.frozen 0; have s1 := hz6.frozen 1; have hl6 := hz6.lt; have HX6 := Lib.hid hx6; clear hx6 hz6)
      refine bodyPost_ret (v := .tuple #[.agg #[.slice none 0 0, .slice none 0 0], .bool false]) (by simp [results, Tryz.results9, go_sem, r0, r1]) rfl ⟨by rw [HN.out]; rfl, ?_⟩
      exact Ext.setNew (a := w) (Ext.setNew (hx.trans' HX6.out) (Nat.le_refl _) _) (Nat.le_refl _) _
    obtain ⟨ps, hps⟩ : ∃ ps, ps = strOf p := ⟨_, rfl⟩
    obtain ⟨rs, hrs⟩ : ∃ rs, rs = strOf r := ⟨_, rfl⟩
    have hlen : p.length + 1 + r.length = t.size := by
      have h := congrArg List.length hpr
      simp only [List.length_append, List.length_cons] at h
      have e : t.data.toList.length = t.size := by simp
      omega
    have hps1 : p.length = ps.size := by rw [hps, strOf_size]
    have hrs1 : r.length = rs.size := by rw [hrs, strOf_size]
    have HPS := Lib.hid (show ps.data.toList = p from by rw [hps, list_strOf])
    have HRS := Lib.hid (show rs.data.toList = r from by rw [hrs, list_strOf])
    have HF := Lib.hid (show implFold (splitL 32 s.data.toList) noneC = (wordImpl ps.data.toList ⟨gc, gg⟩).bind fun g' => implFold (splitL 32 rs.data.toList) g' from by
      rw [← hfold.out, hpr, implFold_cut hno, HPS.out, HRS.out])
    have HC := Lib.hid (show Calls Tryz.prog 40 #[.string t, .string ⟨#[32]⟩] wr fun e w' => e = .returned (.tuple #[.string ps, .string rs, .bool true]) ∧ Ext wr w' from by
      have h := strCut_any t 32 wr (by omega) HMR.out
      rw [hcut, ← hps, ← hrs] at h
      exact h)
    have hps63 : (ps.size : Int) ≤ 9223372036854775807 := by omega
    clear hno hcut he3 hps hrs hpr
    by_cases hp0 : ps.size = 0
    · obtain ⟨hpe1, hpe2, hpe3⟩ := str_empty hp0
      have HN := Lib.hid (show changeOf s.data.toList = none from implChange_none (by rw [HF.out, hpe3]; rfl))
      clear hpe3
      go_wp2_with (go_at_call 40; refine HC.out.mono ?_; rintro e w6 ⟨rfl, hx6⟩; have hz6 := hbz.out.ext hx6; have r0 := hz6.cell 0; have r1 := hz6.cell 1; have s0 := hz6.frozen 0; have s1 := hz6.frozen 1; have hl6 := hz6.lt; have HX6 := Lib.hid hx6; clear hx6 hz6)
      refine bodyPost_ret (v := .tuple #[.agg #[.slice none 0 0, .slice none 0 0], .bool false]) (by simp [results, Tryz.results9, go_sem, r0, r1]) rfl ⟨by rw [HN.out]; rfl, ?_⟩
      exact Ext.setNew (a := w) (Ext.setNew (hx.trans' HX6.out) (Nat.le_refl _) _) (Nat.le_refl _) _
    have hp1 : 0 < ps.size := by omega
    obtain ⟨hpe1, hpe2, hpe3⟩ := str_full hp1
    have HD := Lib.hid (head_str hp1)
    have HTL := Lib.hid (show ps.extract 1 ps.size = strOf (ps.data.toList.drop 1) from tail_str HD.out)
    have htl4 : (ps.extract 1 ps.size).size ≤ 4194304 := by rw [ByteArray.size_extract]; omega
    clear hpe3
    cases hat : atomOf (ps.extract 1 ps.size).data.toList with
    | none =>
      have HN := Lib.hid (show changeOf s.data.toList = none from by
        apply implChange_none
        rw [HF.out, HD.out, wordImpl_cons]
        have := hat
        rw [HTL.out, list_strOf] at this
        rw [this]; rfl)
      have HG := Lib.hid (fun (W : World) (hW : Ext wr W) => show Calls Tryz.prog 41 #[.string (ps.extract 1 ps.size)] W fun e w' => e = .returned (.tuple #[.agg #[.string ⟨#[]⟩, .slice none 0 0], .bool false]) ∧ Ext W w' from (atomGet_any (ps.extract 1 ps.size) W htl4 (HMR.out.ext hW)).mono fun e w' ⟨h1, h2⟩ => by
        rw [hat] at h1; exact ⟨h1, h2⟩)
      clear hat
      go_wp2_with (first
        | (go_at_call 40; refine HC.out.mono ?_; rintro e w5 ⟨rfl, hx5⟩; have HX5 := Lib.hid hx5; clear hx5)
        | (go_at_call 41; refine (HG.out _ HX5.out).mono ?_; rintro e w6 ⟨rfl, hx6⟩; have HX6 := Lib.hid (HX5.out.trans' hx6); have hz6 := hbz.out.ext HX6.out; have r0 := hz6.cell 0; have r1 := hz6.cell 1; have s0 := hz6.frozen 0; have s1 := hz6.frozen 1; have hl6 := hz6.lt; have HZ6 := Lib.hid hz6; clear hx6 hz6))
      have hzf := ((HZ6.out.set_ 0 (.slice none 0 0)).set_ 1 (.slice none 0 0)).alloc (.cells #[.string ⟨#[]⟩, .slice none 0 0] 67)
      have z0 := hzf.cell 0
      have z1 := hzf.cell 1
      simp at z0 z1
      refine bodyPost_ret (v := .tuple #[.agg #[.slice none 0 0, .slice none 0 0], .bool false]) (by simp [results, Tryz.results9, go_sem, z0, z1]) rfl ⟨by rw [HN.out]; rfl, ?_⟩
      exact (Ext.setNew (a := w) (Ext.setNew (hx.trans' HX6.out) (Nat.le_refl _) _) (Nat.le_refl _) _).alloc _
    | some a =>
      obtain ⟨an, al⟩ := a
      have HTD := Lib.hid (show atomOf (ps.data.toList.drop 1) = some ⟨an, al⟩ from by
        have := hat
        rw [HTL.out, list_strOf] at this
        exact this)
      have han := atomOf_small hat
      have HAN := Lib.hid (show an.size ≤ maxLen from maxOf (by have : an.size ≤ 4194304 := han; omega))
      obtain ⟨m, hm⟩ : ∃ m, m = al.length := ⟨_, rfl⟩
      have HG := Lib.hid (fun (W : World) (hW : Ext wr W) => show Calls Tryz.prog 41 #[.string (ps.extract 1 ps.size)] W fun e w' => GotSome W.heap.size an al m e w' ∧ Ext W w' from (atomGet_any (ps.extract 1 ps.size) W htl4 (HMR.out.ext hW)).mono fun e w' ⟨h1, h2⟩ => by
        rw [hat] at h1
        exact ⟨hm ▸ GotAtom.some h1, h2⟩)
      have hlenc : gc.length ≤ 4194304 := by have := hcount.out; omega
      have hleng : gg.length ≤ 4194304 := by have := hcount.out; omega
      have HF3 := Lib.hid (show implFold (splitL 32 s.data.toList) noneC = (if ps[0] = 45 ∧ gc = [] then some ⟨gc, gg ++ [⟨an, al⟩]⟩ else if ps[0] = 43 then some ⟨gc ++ [⟨an, al⟩], gg⟩ else none : Option GC).bind fun g' => implFold (splitL 32 rs.data.toList) g' from by
        rw [HF.out, HD.out, wordImpl_cons, HTD.out]; rfl)
      have HNC := Lib.hid (show nc = 0 ↔ gc = [] from by rw [hnc.out]; exact List.length_eq_zero_iff)
      have hx8 : ps[0].toNat < 256 := ps[0].toNat_lt
      clear hat hm han
      by_cases h45 : ps[0] = 45 ∧ nc = 0
      · have hb45 : ((ps[0].toNat : Int) == 45) = true := by rw [h45.1]; rfl
        have hnc0 : nc = 0 := h45.2
        have HF2 := Lib.hid (show implFold (splitL 32 s.data.toList) noneC = implFold (splitL 32 rs.data.toList) ⟨gc, gg ++ [⟨an, al⟩]⟩ from by
          rw [HF3.out, if_pos ⟨h45.1, HNC.out.1 h45.2⟩]; rfl)
        have hnb : ((nc : Int) == 0) = true := by rw [hnc0]; rfl
        clear h45
        go_wp2_with (first
          | (go_at_call 40; refine HC.out.mono ?_; rintro e w5 ⟨rfl, hx5⟩; have HX5 := Lib.hid hx5; have hl5 := hx5.size; clear hx5)
          | (go_at_call 41; refine (HG.out _ HX5.out).mono ?_; rintro e w1 ⟨⟨A1, c1, rfl, hm1, hm2, hto⟩, hx1'⟩
             have HTO := Lib.hid hto
             have hl1 := hx1'.size
             have HX1 := Lib.hid (HX5.out.trans' hx1')
             have HXA := Lib.hid (show Ext wr ((w1.alloc (.cells #[.string an, .slice A1 m c1] 67)).alloc (.cells #[.string an, .slice A1 m c1] 67)) from (HX1.out.alloc _).alloc _)
             have pc := ((hba.out.ext HX1.out).alloc (.cells #[.string an, .slice A1 m c1] 67)).cell 0
             have pa := ((hba.out.ext HX1.out).alloc (.cells #[.string an, .slice A1 m c1] 67)).cell 1
             clear hto hx1')
          | (at_builtin; refine wpList_appO (k := kAtomO) (S := Sg) (S' := fun b => Sg b ∨ (wr.heap.size ≤ b ∧ b < w1.heap.size + 2)) (T := From w5.heap.size) (base := B) (xs := gg) rfl (.tmp 47) (.tmp 49) 23 (by rfl) i0 _ 40 Tryz.underlying23 hi0 hz0 hz1 hz2 (by rfl) (by rfl)
               (ho.out.g.ext HXA.out) (w1.heap.size + 1) (by rfl) [.string an, .slice A1 m c1] ⟨an, al⟩ 67 ⟨_, rfl, HAN.out, (HTO.out.ext (((Ext.refl _).alloc _).alloc _))⟩ (by simpa using Blk.new (w1.alloc (.cells #[.string an, .slice A1 m c1] 67)) 67 #[.string an, .slice A1 m c1])
               (fun b hb hlt => .inr ⟨Nat.le_trans hl5 hb, by simpa using hlt⟩) (fun b hb => .inl hb) (fun b hb hs => absurd (Nat.le_trans hl5 (show w5.heap.size ≤ b from hb)) (Nat.not_le.2 (ho.out.lg b hs).2)) (fun g hg hb => absurd (Nat.le_trans hl5 (show w5.heap.size ≤ g from hb)) (Nat.not_le.2 (ho.out.og g hg).1)) (maxOf (by omega)) (by omega) (by go_size) ?_
             intro v5 w6 hap
             obtain ⟨A5, n5, c5, rfl, hn5, ha5, hb5⟩ := hap.own.form2
             have HAP := Lib.hid hap
             have HBL := Lib.hid (show Below B wr w6 from Below.trans (Below.mono HXA.out hsz) hap.below)
             have HE5 := Lib.hid (hap.toExt (w0 := w) (hx.trans' HXA.out) (by omega))
             have hb5' := hba.out.below HBL.out (by omega)
             have p3 := hb5'.cell 1
             have f3 := hb5'.frozen 1
             have hl6 := hb5'.lt
             clear hap hb5'))
        go_roundw
        case rel =>
          exact ⟨rs, _, _, gc, gg ++ [⟨an, al⟩], _, _, rfl, by omega, Lib.hid (by have := hcount.out; simp; omega), Lib.hid ((hbz.out.below HBL.out (by omega)).far (show w.heap.size ≠ w.heap.size + 1 from by omega) _), Lib.hid (by simpa using (hba.out.below HBL.out (by omega)).set_ 1 (.slice A5 n5 c5)), Lib.hid (by simpa using (((ho.out.swap.ext HXA.out).app HAP.out (by simp) (fun b hb => hb) hsz (by have := HXA.out.size; omega)).set (p := ⟨w.heap.size + 1, 1, none⟩) (show w.heap.size + 1 < _ from by omega) _).swap), Lib.hid (HF2.out.symm), Ext.setNew (a := w) HE5.out (show w.heap.size ≤ w.heap.size + 1 from by omega) _, by have := HBL.out.size; go_size⟩
        case measure => rw [strLen_str]; show rs.size < strLen (.string t); rw [strLen_str]; omega
      by_cases h43 : ps[0] = 43
      · have hb45 : ((ps[0].toNat : Int) == 45) = false := by rw [h43]; rfl
        have hb43 : ((ps[0].toNat : Int) == 43) = true := by rw [h43]; rfl
        have HF2 := Lib.hid (show implFold (splitL 32 s.data.toList) noneC = implFold (splitL 32 rs.data.toList) ⟨gc ++ [⟨an, al⟩], gg⟩ from by
          rw [HF3.out, if_neg (by rw [h43]; rintro ⟨h, _⟩; cases h), if_pos h43]; rfl)
        clear h45 h43
        go_wp2_with (first
          | (go_at_call 40; refine HC.out.mono ?_; rintro e w5 ⟨rfl, hx5⟩; have HX5 := Lib.hid hx5; have hl5 := hx5.size; clear hx5)
          | (go_at_call 41; refine (HG.out _ HX5.out).mono ?_; rintro e w1 ⟨⟨A1, c1, rfl, hm1, hm2, hto⟩, hx1'⟩
             have HTO := Lib.hid hto
             have hl1 := hx1'.size
             have HX1 := Lib.hid (HX5.out.trans' hx1')
             have HXA := Lib.hid (show Ext wr ((w1.alloc (.cells #[.string an, .slice A1 m c1] 67)).alloc (.cells #[.string an, .slice A1 m c1] 67)) from (HX1.out.alloc _).alloc _)
             have pc := ((hba.out.ext HX1.out).alloc (.cells #[.string an, .slice A1 m c1] 67)).cell 0
             clear hto hx1')
          | (at_builtin; refine wpList_appO (k := kAtomO) (S := Sc) (S' := fun b => Sc b ∨ (wr.heap.size ≤ b ∧ b < w1.heap.size + 2)) (T := From w5.heap.size) (base := B) (xs := gc) rfl (.tmp 57) (.tmp 59) 23 (by rfl) i0 _ 40 Tryz.underlying23 hi0 hz0 hz1 hz2 (by rfl) (by rfl)
               (ho.out.c.ext HXA.out) (w1.heap.size + 1) (by rfl) [.string an, .slice A1 m c1] ⟨an, al⟩ 67 ⟨_, rfl, HAN.out, (HTO.out.ext (((Ext.refl _).alloc _).alloc _))⟩ (by simpa using Blk.new (w1.alloc (.cells #[.string an, .slice A1 m c1] 67)) 67 #[.string an, .slice A1 m c1])
               (fun b hb hlt => .inr ⟨Nat.le_trans hl5 hb, by simpa using hlt⟩) (fun b hb => .inl hb) (fun b hb hs => absurd (Nat.le_trans hl5 (show w5.heap.size ≤ b from hb)) (Nat.not_le.2 (ho.out.lc b hs).2)) (fun g hg hb => absurd (Nat.le_trans hl5 (show w5.heap.size ≤ g from hb)) (Nat.not_le.2 (ho.out.oc g hg).1)) (maxOf (by omega)) (by omega) (by go_size) ?_
             intro v5 w6 hap
             obtain ⟨A5, n5, c5, rfl, hn5, ha5, hb5⟩ := hap.own.form2
             have HAP := Lib.hid hap
             have HBL := Lib.hid (show Below B wr w6 from Below.trans (Below.mono HXA.out hsz) hap.below)
             have HE5 := Lib.hid (hap.toExt (w0 := w) (hx.trans' HXA.out) (by omega))
             have hb5' := hba.out.below HBL.out (by omega)
             have p3 := hb5'.cell 0
             have f3 := hb5'.frozen 0
             have hl6 := hb5'.lt
             clear hap hb5'))
        go_roundw
        case rel =>
          exact ⟨rs, _, _, gc ++ [⟨an, al⟩], gg, _, _, rfl, by omega, Lib.hid (by have := hcount.out; simp; omega), Lib.hid ((hbz.out.below HBL.out (by omega)).far (show w.heap.size ≠ w.heap.size + 1 from by omega) _), Lib.hid (by simpa using (hba.out.below HBL.out (by omega)).set_ 0 (.slice A5 n5 c5)), Lib.hid (by simpa using (((ho.out.ext HXA.out).app HAP.out (by simp) (fun b hb => hb) hsz (by have := HXA.out.size; omega)).set (p := ⟨w.heap.size + 1, 0, none⟩) (show w.heap.size + 1 < _ from by omega) _)), Lib.hid (HF2.out.symm), Ext.setNew (a := w) HE5.out (show w.heap.size ≤ w.heap.size + 1 from by omega) _, by have := HBL.out.size; go_size⟩
        case measure => rw [strLen_str]; show rs.size < strLen (.string t); rw [strLen_str]; omega
      have hb43 : ((ps[0].toNat : Int) == 43) = false := by
        rw [beq_eq_false_iff_ne]; intro e; exact h43 (UInt8.toNat_inj.1 (by show _ = 43; omega))
      have HN := Lib.hid (show changeOf s.data.toList = none from by
        apply implChange_none
        rw [HF3.out, if_neg (fun h => h45 ⟨h.1, HNC.out.2 h.2⟩), if_neg h43]; rfl)
      by_cases h46 : ps[0] = 45
      · have hb45 : ((ps[0].toNat : Int) == 45) = true := by rw [h46]; rfl
        have hnb : ((nc : Int) == 0) = false := by rw [beq_eq_false_iff_ne]; intro e; exact h45 ⟨h46, by omega⟩
        clear h45 h43 h46
        go_wp2_with (first
          | (go_at_call 40; refine HC.out.mono ?_; rintro e w5 ⟨rfl, hx5⟩; have HX5 := Lib.hid hx5; have hl5 := hx5.size; clear hx5)
          | (go_at_call 41; refine (HG.out _ HX5.out).mono ?_; rintro e w1 ⟨⟨A1, c1, rfl, hm1, hm2, hto⟩, hx1'⟩
             have HX6 := Lib.hid (HX5.out.trans' hx1')
             have pc := ((hba.out.ext HX6.out).alloc (.cells #[.string an, .slice A1 m c1] 67)).cell 0
             have hz6 := hbz.out.ext HX6.out; have r0 := hz6.cell 0; have r1 := hz6.cell 1; have s0 := hz6.frozen 0; have s1 := hz6.frozen 1; have hl6 := hz6.lt; have HZ6 := Lib.hid hz6
             clear hto hx1' hz6))
        have hzf := ((HZ6.out.set_ 0 (.slice none 0 0)).set_ 1 (.slice none 0 0)).alloc (.cells #[.string an, .slice A1 m c1] 67)
        have z0 := hzf.cell 0
        have z1 := hzf.cell 1
        simp at z0 z1
        refine bodyPost_ret (v := .tuple #[.agg #[.slice none 0 0, .slice none 0 0], .bool false]) (by simp [results, Tryz.results9, go_sem, z0, z1]) rfl ⟨by rw [HN.out]; rfl, ?_⟩
        exact (Ext.setNew (a := w) (Ext.setNew (hx.trans' HX6.out) (Nat.le_refl _) _) (Nat.le_refl _) _).alloc _
      · have hb45 : ((ps[0].toNat : Int) == 45) = false := by
          rw [beq_eq_false_iff_ne]; intro e; exact h46 (UInt8.toNat_inj.1 (by show _ = 45; omega))
        clear h45 h43 h46
        go_wp2_with (first
          | (go_at_call 40; refine HC.out.mono ?_; rintro e w5 ⟨rfl, hx5⟩; have HX5 := Lib.hid hx5; have hl5 := hx5.size; clear hx5)
          | (go_at_call 41; refine (HG.out _ HX5.out).mono ?_; rintro e w1 ⟨⟨A1, c1, rfl, hm1, hm2, hto⟩, hx1'⟩
             have HX6 := Lib.hid (HX5.out.trans' hx1')
             have hz6 := hbz.out.ext HX6.out; have r0 := hz6.cell 0; have r1 := hz6.cell 1; have s0 := hz6.frozen 0; have s1 := hz6.frozen 1; have hl6 := hz6.lt; have HZ6 := Lib.hid hz6
             clear hto hx1' hz6))
        have hzf := ((HZ6.out.set_ 0 (.slice none 0 0)).set_ 1 (.slice none 0 0)).alloc (.cells #[.string an, .slice A1 m c1] 67)
        have z0 := hzf.cell 0
        have z1 := hzf.cell 1
        simp at z0 z1
        refine bodyPost_ret (v := .tuple #[.agg #[.slice none 0 0, .slice none 0 0], .bool false]) (by simp [results, Tryz.results9, go_sem, z0, z1]) rfl ⟨by rw [HN.out]; rfl, ?_⟩
        exact (Ext.setNew (a := w) (Ext.setNew (hx.trans' HX6.out) (Nat.le_refl _) _) (Nat.le_refl _) _).alloc _

end Go.Proofs.YthndnkafckapnaaGreatDoor
