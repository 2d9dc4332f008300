/- Part of the texts of a proof; what they say stands at each theorem. -/
import Derived.Test.YtmihponoillihaaGreatDoorBas26
set_option linter.unusedSimpArgs false
set_option linter.unusedVariables false
namespace Go.Proofs.YtmihponoillihaaGreatDoor
open Go.RowKit
theorem atomOf_small {l : List UInt8} {a : GA} (h : atomOf l = some a) : a.n.size ≤ 4194304 := by
 obtain ⟨h1, _⟩ := atomOf_is h; have h2 := atomL_ok_len h1; unfold atomL at h2
 have e : a.n.data.toList.length = a.n.size := by simp
 simp only [List.length_append] at h2; omega
theorem tail_str {x : ByteArray} {c : UInt8} {r : List UInt8} (h : x.data.toList = c :: r) : x.extract 1 x.size = strOf r := by
 rw [extract_str _ _ _ (Nat.le_refl _), h]
 have e : x.data.toList.length = x.size := by simp
 rw [h] at e; simp only [List.length_cons] at e; rw [List.drop_succ_cons, List.drop_zero, List.take_of_length_le (by omega)]
theorem head_str {x : ByteArray} (h : 0 < x.size) : x.data.toList = x[0] :: x.data.toList.drop 1 := by
 have e : x.data.toList.length = x.size := by simp
 have := List.drop_eq_getElem_cons (l := x.data.toList) (i := 0) (by omega); rw [List.drop_zero] at this; exact this
def GotSome (N : Nat) (an : ByteArray) (al : List GT) (m : Nat) (e : Ending) (w' : World) : Prop :=
 ∃ A c, e = .returned (.tuple #[.agg #[.string an, .slice A m c], .bool true]) ∧ m ≤ c ∧ c ≤ 9223372036854775807 ∧ TermsO (From N) w' (.slice A m c) al
theorem GotAtom.some {N : Nat} {a : GA} {e : Ending} {w' : World} (h : GotAtom N (some a) e w') : GotSome N a.n a.args a.args.length e w' := by
 obtain ⟨v, h1, h2⟩ := h; obtain ⟨A, c, rfl, h3, h4⟩ := SliceO.form h2; exact ⟨A, c, h1, h3, h4, h2⟩
theorem split_mem_len (c : UInt8) (l : List UInt8) {p : List UInt8} (h : p ∈ splitL c l) : p.length ≤ l.length := by
 have h1 := split_weight c l; have h2 := le_sum List.length h; have h3 := List.length_pos_iff.2 (splitL_ne c l); omega
theorem specFold_at {ws : List (List UInt8)} {i : Nat} (hi : i + 1 < ws.length) (g : GC) : specFold (ws.drop i) g = (wordSpec ws[i] g).bind fun g' => specFold (ws.drop (i + 1)) g' := by
 have h1 := List.drop_eq_getElem_cons (l := ws) (i := i) (by omega); have h2 := List.drop_eq_getElem_cons (l := ws) (i := i + 1) (by omega); rw [h1, h2, specFold_two]
theorem specFold_end {ws : List (List UInt8)} {i : Nat} (h : ws.length ≤ i + 1) (g : GC) : specFold (ws.drop i) g = some g := by
 rcases Nat.lt_or_ge i ws.length with hlt | hge
 · rw [List.drop_eq_getElem_cons hlt, List.drop_eq_nil_of_le (by omega)]; rfl
 rw [List.drop_eq_nil_of_le hge]; rfl
theorem specChange_none {l : List UInt8} (h : specFold (splitL 32 l) noneC = none) : changeOf l = none := by rw [← specChange_eq]; unfold specChange; rw [h]
theorem specChange_some {l : List UInt8} {g : GC} (h : specFold (splitL 32 l) noneC = some g) : changeOf l = if changePutL g = l then some g else none := by rw [← specChange_eq]; unfold specChange; rw [h]
set_option maxRecDepth 100000 in
set_option maxHeartbeats 2000000 in
theorem specChangeGet_any (s : ByteArray) (w : World) (hs : s.size ≤ 4194304) :
 Calls Tryz.prog 91 #[.string s] w fun e w' => GotChange w.heap.size (changeOf s.data.toList) e w' ∧ Ext w w' := by
 obtain ⟨i0, hi0, hz0, hz1, hz2⟩ := info_parts atom_info
 obtain ⟨wl, hwl⟩ : ∃ wl, wl = splitL 32 s.data.toList := ⟨_, rfl⟩
 obtain ⟨ws, hws⟩ : ∃ ws, ws = wl.map strOf := ⟨_, rfl⟩
 have hwn : ws.length = wl.length := by rw [hws, List.length_map]
 have hwl2 : ws.length ≤ 4194305 := by
  have h1 := split_len 32 s.data.toList
  have h3 : s.data.toList.length = s.size := by simp
  rw [hwn, hwl]; omega
 have HC := Lib.hid (fun W => show Calls Tryz.prog 34 #[.string s, .int .u8 32] W fun e w' => (∃ v, e = .returned v ∧ StrsR (From W.heap.size) w' v ws) ∧ Ext W w' from by
  have h := l1Cut_any s 32 W hs; rw [← hwl, ← hws] at h
  exact h)
 have HWN := Lib.hid hwn; have HWS := Lib.hid hws; have HWL := Lib.hid hwl; have HB2 := Lib.hid ((Blk.new w 32 #[.slice none 0 0, .slice none 0 0]).alloc (.cells #[.slice none 0 0, .slice none 0 0] 32)); have HB4 := Lib.hid (Blk.new (w.alloc (.cells #[.slice none 0 0, .slice none 0 0] 32)) 32 #[.slice none 0 0, .slice none 0 0]); clear hwn hws hwl
 go_enter Tryz.func91, Tryz.ntmps91
 go_wp2_with (go_at_call 34; refine (HC.out _).mono ?_; rintro e w3 ⟨⟨v3, rfl, hv3⟩, hx3⟩; obtain ⟨A3, c3, rfl, ha3, hb3⟩ := SliceR.form hv3; have HV3 := Lib.hid (show StrsR (fun b => b < w3.heap.size ∧ b ≠ w.heap.size + 1) w3 (.slice A3 ws.length c3) ws from ListK.sub (k := kStr) (ListK.low (k := kStr) hv3) (fun b hb => ⟨hb.2, fun e => absurd hb.1 (Nat.not_le.2 (by simp; omega))⟩)); have HX3 := Lib.hid hx3; have hz3 := hx3.size; simp only [World.size_alloc] at hz3; clear hv3 hx3)
 go_loopw [6] (fun ii wr => ∃ (i : Nat) (vc vg : Value) (gc gg : List GA) (Sc Sg : Nat → Prop), ii = .int .i64 i ∧ i ≤ ws.length ∧ Hid (gc.length + gg.length = i) ∧ Hid (Blk wr w.heap.size 32 #[.slice none 0 0, .slice none 0 0]) ∧ Hid (Blk wr (w.heap.size + 1) 32 #[vc, vg]) ∧ Hid (TwoO w3.heap.size wr.heap.size 54 Sc Sg wr vc gc vg gg) ∧ Hid (StrsR (fun b => b < w3.heap.size ∧ b ≠ w.heap.size + 1) wr (.slice A3 ws.length c3) ws) ∧ Hid (specFold (wl.drop i) ⟨gc, gg⟩ = specFold wl noneC) ∧ Ext w wr ∧ w3.heap.size ≤ wr.heap.size) (fun i _ => ws.length - (intOf i).toNat)
 case atStart => exact ⟨0, _, _, [], [], _, _, rfl, Nat.zero_le _, rfl, Lib.hid (HB2.out.ext HX3.out), Lib.hid (by simpa using HB4.out.ext HX3.out), Lib.hid (TwoO.nil _ _ _ _), HV3, rfl, (((Ext.refl w).alloc _).alloc _).trans' HX3.out, Nat.le_refl _⟩
 case round =>
  obtain ⟨i, vc, vg, gc, gg, Sc, Sg, rfl, hi, hcount, hbz, hba, ho, hst, hfold, hx, hsz⟩ := hrel; obtain ⟨Ac, nc, cc, rfl, hnc, hac, hbc⟩ := ho.out.c.form2; obtain ⟨Ag, ng, cg, rfl, hng, hag, hbg⟩ := ho.out.g.form2; have q0 := hbz.out.cell 0; have q1 := hbz.out.cell 1; have f0 := hbz.out.frozen 0; have f1 := hbz.out.frozen 1; have hlz := hbz.out.lt; have p0 := hba.out.cell 0; have p1 := hba.out.cell 1; have hla := hba.out.lt
  have hk0 : (0 : Int) ≤ (i : Int) := by omega
  by_cases hlt : i + 1 < ws.length
  · obtain ⟨bw, ow, x, rfl, hbw, hSw, hxw, hxs, hcw⟩ := StrsR.at_S hst.out (show i < ws.length by omega)
    have hk1 : (i : Int) + 1 < (ws.length : Int) := by omega
    have HXW := Lib.hid (show strOf (wl[i]'(by have := HWN.out; omega)) = x from by
     have h := hxw; rw [HWS.out, List.getElem?_map, List.getElem?_eq_getElem (by have := HWN.out; omega)] at h
     simpa using h)
    have HF := Lib.hid (show specFold wl noneC = (wordSpec x.data.toList ⟨gc, gg⟩).bind fun g' => specFold (wl.drop (i + 1)) g' from by
     rw [← hfold.out, specFold_at (by have := HWN.out; omega), ← HXW.out, list_strOf])
    have hx63 : (x.size : Int) ≤ 9223372036854775807 := by unfold maxLen at hxs; omega
    clear hxw
    by_cases hx0 : x.size = 0
    · have HN := Lib.hid (show changeOf s.data.toList = none from by
        apply specChange_none
        rw [← HWL.out, HF.out]; have : x.data.toList = [] := List.eq_nil_of_length_eq_zero (by have e : x.data.toList.length = x.size := (by simp); omega)
        rw [this]; rfl)
      have hzx : ((x.size : Int) == 0) = true := by rw [beq_iff_eq]; omega
      go_wp2; refine bodyPost_ret (v := .tuple #[.agg #[.slice none 0 0, .slice none 0 0], .bool false]) (by simp [results, Tryz.results91, go_sem, q0, q1]) rfl ⟨by rw [HN.out]; rfl, ?_⟩; exact Ext.setNew (a := w) (Ext.setNew hx (Nat.le_refl _) _) (Nat.le_refl _) _
    have hx1 : 0 < x.size := by omega
    have hzx : ((x.size : Int) == 0) = false := by rw [beq_eq_false_iff_ne]; omega
    have HD := Lib.hid (head_str hx1)
    obtain ⟨tl, htl⟩ : ∃ tl, tl = x.extract 1 x.size := ⟨_, rfl⟩
    have HTL := Lib.hid (show tl = strOf (x.data.toList.drop 1) from htl.trans (tail_str HD.out))
    have htl4 : tl.size ≤ 4194304 := by
     have hm : wl[i]'(by have := HWN.out; omega) ∈ splitL 32 s.data.toList := by rw [← HWL.out]; exact List.getElem_mem _
     have h1 := split_mem_len 32 s.data.toList hm; have h2 := congrArg ByteArray.size HXW.out; rw [strOf_size] at h2
     have e0 : s.data.toList.length = s.size := by simp
     rw [htl, ByteArray.size_extract]; omega
    subst htl; have HAG := Lib.hid (specAtomGet_any (x.extract 1 x.size) wr htl4)
    cases hat : atomOf (x.extract 1 x.size).data.toList with
    | none =>
      have HN := Lib.hid (show changeOf s.data.toList = none from by
       apply specChange_none
       rw [← HWL.out, HF.out, HD.out, wordSpec_cons]; have := hat; rw [HTL.out, list_strOf] at this
       rw [this]; rfl)
      have HG := Lib.hid (show Calls Tryz.prog 157 #[.string (x.extract 1 x.size)] wr fun e w' => e = .returned (.tuple #[.agg #[.string ⟨#[]⟩, .slice none 0 0], .bool false]) ∧ Ext wr w' from HAG.out.mono fun e w' ⟨h1, h2⟩ => by
       rw [hat] at h1; exact ⟨h1, h2⟩)
      clear HAG hat
      go_wp2_with (go_at_call 157; refine HG.out.mono ?_; rintro e w1 ⟨rfl, hx1'⟩; have HX1 := Lib.hid hx1'; have hz6 := hbz.out.ext hx1'; have r0 := hz6.cell 0; have r1 := hz6.cell 1; have s0 := hz6.frozen 0; have s1 := hz6.frozen 1; have hl6 := hz6.lt; have HZ6 := Lib.hid hz6; clear hx1' hz6)
      have hzf := ((HZ6.out.set_ 0 (.slice none 0 0)).set_ 1 (.slice none 0 0)).alloc (.cells #[.string ⟨#[]⟩, .slice none 0 0] 54); have z0 := hzf.cell 0; have z1 := hzf.cell 1; simp at z0 z1; refine bodyPost_ret (v := .tuple #[.agg #[.slice none 0 0, .slice none 0 0], .bool false]) (by simp [results, Tryz.results91, go_sem, z0, z1]) rfl ⟨by rw [HN.out]; rfl, ?_⟩; exact (Ext.setNew (a := w) (Ext.setNew (hx.trans' HX1.out) (Nat.le_refl _) _) (Nat.le_refl _) _).alloc _
    | some a =>
      obtain ⟨an, al⟩ := a
      have HTD := Lib.hid (show atomOf (x.data.toList.drop 1) = some ⟨an, al⟩ from by
       have := hat; rw [HTL.out, list_strOf] at this
       exact this)
      have han := atomOf_small hat; have HAN := Lib.hid (show an.size ≤ maxLen from maxOf (by have : an.size ≤ 4194304 := han; omega))
      obtain ⟨m, hm⟩ : ∃ m, m = al.length := ⟨_, rfl⟩
      have HG := Lib.hid (show Calls Tryz.prog 157 #[.string (x.extract 1 x.size)] wr fun e w' => GotSome wr.heap.size an al m e w' ∧ Ext wr w' from HAG.out.mono fun e w' ⟨h1, h2⟩ => by
       rw [hat] at h1; have h3 := GotAtom.some h1
       exact ⟨hm ▸ h3, h2⟩)
      have hlenc : gc.length ≤ 4194305 := by have := hcount.out; omega
      have hleng : gg.length ≤ 4194305 := by have := hcount.out; omega
      have HLT := Lib.hid hlt; clear HAG hat hm han
      by_cases h45 : x[0] = 45
      · have hb45 : ((x[0].toNat : Int) == 45) = true := by rw [h45]; rfl
        have HF2 := Lib.hid (show specFold wl noneC = specFold (wl.drop (i + 1)) ⟨gc, gg ++ [⟨an, al⟩]⟩ from by
         rw [HF.out, HD.out, wordSpec_cons, HTD.out]; show specFold _ (if _ then _ else _) = _
         rw [if_pos h45])
        clear h45
        go_wp2_with (first
         | (go_at_call 157; refine HG.out.mono ?_; rintro e w1 ⟨⟨A1, c1, rfl, hm1, hm2, hto⟩, hx1'⟩
            have HTO := Lib.hid hto; have HX1 := Lib.hid hx1'; have hl1 := hx1'.size; have HXA := Lib.hid (show Ext wr ((w1.alloc (.cells #[.string an, .slice A1 m c1] 54)).alloc (.cells #[.string an, .slice A1 m c1] 54)) from (hx1'.alloc _).alloc _); have r1 := (hx1'.cells.1 bw (ow + i) hbw).trans hcw; have r1' := ((hx1'.alloc (.cells #[.string an, .slice A1 m c1] 54)).cells.1 bw (ow + i) hbw).trans hcw; have pa := ((hba.out.ext hx1').alloc (.cells #[.string an, .slice A1 m c1] 54)).cell 1
            clear hto hx1')
         | (at_builtin; refine wpList_appO (k := kAtomO) (S := Sg) (S' := fun b => Sg b ∨ (wr.heap.size ≤ b ∧ b < w1.heap.size + 2)) (T := From wr.heap.size) (base := w3.heap.size) (xs := gg) rfl (.tmp 53) (.tmp 55) 30 (by rfl) i0 _ 40 Tryz.underlying30 hi0 hz0 hz1 hz2 (by rfl) (by rfl)
              (ho.out.g.ext HXA.out) (w1.heap.size + 1) (by rfl) [.string an, .slice A1 m c1] ⟨an, al⟩ 54 ⟨_, rfl, HAN.out, (HTO.out.ext (((Ext.refl _).alloc _).alloc _))⟩ (by simpa using Blk.new (w1.alloc (.cells #[.string an, .slice A1 m c1] 54)) 54 #[.string an, .slice A1 m c1])
              (fun b hb hlt => .inr ⟨hb, by simpa using hlt⟩) (fun b hb => .inl hb) (fun b hb hs => absurd (show wr.heap.size ≤ b from hb) (Nat.not_le.2 (ho.out.lg b hs).2)) (fun g hg hb => absurd (show wr.heap.size ≤ g from hb) (Nat.not_le.2 (ho.out.og g hg).1)) (maxOf (by omega)) (by omega) (by go_size) ?_
            intro v5 w5 hap; obtain ⟨A5, n5, c5, rfl, hn5, ha5, hb5⟩ := hap.own.form2; have HAP := Lib.hid hap; have HBL := Lib.hid (show Below w3.heap.size wr w5 from Below.trans (Below.mono HXA.out hsz) hap.below); have HE5 := Lib.hid (hap.toExt (w0 := w) (hx.trans' HXA.out) (by omega)); have hb5' := hba.out.below HBL.out (by omega); have p3 := hb5'.cell 1; have f3 := hb5'.frozen 1; have hl5 := hb5'.lt
            clear hap hb5'))
        go_roundw
        case rel =>
         refine ⟨i + 1, _, _, gc, gg ++ [⟨an, al⟩], _, _, by go_num, by omega, Lib.hid (by have := hcount.out; simp; omega), Lib.hid ((hbz.out.below HBL.out (by omega)).far (show w.heap.size ≠ w.heap.size + 1 from by omega) _), Lib.hid (by simpa using (hba.out.below HBL.out (by omega)).set_ 1 (.slice A5 n5 c5)), Lib.hid (by simpa using (((ho.out.swap.ext HXA.out).app HAP.out (by simp) (fun b hb => hb) hsz (by have := HXA.out.size; omega)).set (p := ⟨w.heap.size + 1, 1, none⟩) (show w.heap.size + 1 < _ from by omega) _).swap), Lib.hid (hst.out.imp (fun _ h => h) (fun b hb hlt => (Below.heap_setCell _ _ _ _ hb.2).trans (HBL.out.block b hb.1)) (by have := HBL.out.size; go_size)), Lib.hid (HF2.out.symm), Ext.setNew (a := w) HE5.out (show w.heap.size ≤ w.heap.size + 1 from by omega) _, by have := HBL.out.size; go_size⟩
        case measure => simp [intOf]; omega
      have hb45 : ((x[0].toNat : Int) == 45) = false := by
        rw [beq_eq_false_iff_ne]; intro e; exact h45 (UInt8.toNat_inj.1 (by show _ = 45; omega))
      have HF2 := Lib.hid (show specFold wl noneC = specFold (wl.drop (i + 1)) ⟨gc ++ [⟨an, al⟩], gg⟩ from by
       rw [HF.out, HD.out, wordSpec_cons, HTD.out]; show specFold _ (if _ then _ else _) = _
       rw [if_neg h45])
      clear h45
      go_wp2_with (first
       | (go_at_call 157; refine HG.out.mono ?_; rintro e w1 ⟨⟨A1, c1, rfl, hm1, hm2, hto⟩, hx1'⟩
          have HTO := Lib.hid hto; have HX1 := Lib.hid hx1'; have hl1 := hx1'.size; have HXA := Lib.hid (show Ext wr ((w1.alloc (.cells #[.string an, .slice A1 m c1] 54)).alloc (.cells #[.string an, .slice A1 m c1] 54)) from (hx1'.alloc _).alloc _); have r1 := (hx1'.cells.1 bw (ow + i) hbw).trans hcw; have r1' := ((hx1'.alloc (.cells #[.string an, .slice A1 m c1] 54)).cells.1 bw (ow + i) hbw).trans hcw; have pa := ((hba.out.ext hx1').alloc (.cells #[.string an, .slice A1 m c1] 54)).cell 0
          clear hto hx1')
       | (at_builtin; refine wpList_appO (k := kAtomO) (S := Sc) (S' := fun b => Sc b ∨ (wr.heap.size ≤ b ∧ b < w1.heap.size + 2)) (T := From wr.heap.size) (base := w3.heap.size) (xs := gc) rfl (.tmp 36) (.tmp 38) 30 (by rfl) i0 _ 40 Tryz.underlying30 hi0 hz0 hz1 hz2 (by rfl) (by rfl)
            (ho.out.c.ext HXA.out) (w1.heap.size + 1) (by rfl) [.string an, .slice A1 m c1] ⟨an, al⟩ 54 ⟨_, rfl, HAN.out, (HTO.out.ext (((Ext.refl _).alloc _).alloc _))⟩ (by simpa using Blk.new (w1.alloc (.cells #[.string an, .slice A1 m c1] 54)) 54 #[.string an, .slice A1 m c1])
            (fun b hb hlt => .inr ⟨hb, by simpa using hlt⟩) (fun b hb => .inl hb) (fun b hb hs => absurd (show wr.heap.size ≤ b from hb) (Nat.not_le.2 (ho.out.lc b hs).2)) (fun g hg hb => absurd (show wr.heap.size ≤ g from hb) (Nat.not_le.2 (ho.out.oc g hg).1)) (maxOf (by omega)) (by omega) (by go_size) ?_
          intro v5 w5 hap; obtain ⟨A5, n5, c5, rfl, hn5, ha5, hb5⟩ := hap.own.form2; have HAP := Lib.hid hap; have HBL := Lib.hid (show Below w3.heap.size wr w5 from Below.trans (Below.mono HXA.out hsz) hap.below); have HE5 := Lib.hid (hap.toExt (w0 := w) (hx.trans' HXA.out) (by omega)); have hb5' := hba.out.below HBL.out (by omega); have p3 := hb5'.cell 0; have f3 := hb5'.frozen 0; have hl5 := hb5'.lt
          clear hap hb5'))
      go_roundw
      case rel =>
       refine ⟨i + 1, _, _, gc ++ [⟨an, al⟩], gg, _, _, by go_num, by omega, Lib.hid (by have := hcount.out; simp; omega), Lib.hid ((hbz.out.below HBL.out (by omega)).far (show w.heap.size ≠ w.heap.size + 1 from by omega) _), Lib.hid (by simpa using (hba.out.below HBL.out (by omega)).set_ 0 (.slice A5 n5 c5)), Lib.hid (by simpa using (((ho.out.ext HXA.out).app HAP.out (by simp) (fun b hb => hb) hsz (by have := HXA.out.size; omega)).set (p := ⟨w.heap.size + 1, 0, none⟩) (show w.heap.size + 1 < _ from by omega) _)), Lib.hid (hst.out.imp (fun _ h => h) (fun b hb hlt => (Below.heap_setCell _ _ _ _ hb.2).trans (HBL.out.block b hb.1)) (by have := HBL.out.size; go_size)), Lib.hid (HF2.out.symm), Ext.setNew (a := w) HE5.out (show w.heap.size ≤ w.heap.size + 1 from by omega) _, by have := HBL.out.size; go_size⟩
      case measure => simp [intOf]; omega
  have hk1 : (ws.length : Int) ≤ (i : Int) + 1 := by omega
  have HEnd := Lib.hid (show specFold wl noneC = some ⟨gc, gg⟩ from by rw [← hfold.out]; exact specFold_end (by have := HWN.out; omega) _); have HCH := Lib.hid (show changeOf s.data.toList = if changePutL ⟨gc, gg⟩ = s.data.toList then some ⟨gc, gg⟩ else none from specChange_some (by rw [← HWL.out]; exact HEnd.out))
  obtain ⟨r, hr⟩ : ∃ r, r = strOf (changePutL ⟨gc, gg⟩) := ⟨_, rfl⟩
  have HR := Lib.hid hr; have HPUT := Lib.hid (show Calls Tryz.prog 158 #[.agg #[.slice Ac nc cc, .slice Ag ng cg]] wr fun e w' => e = .returned (.string r) ∧ Ext wr w' from hr ▸ specChangePut_any ⟨gc, gg⟩ _ _ wr (AtomsO.read ho.out.c.slice2) (AtomsO.read ho.out.g.slice2)); clear hr hlt
  by_cases he : r = s
  · subst he
    have HOK := Lib.hid (show changeOf r.data.toList = some ⟨gc, gg⟩ from by
     rw [HCH.out, if_pos]; have := congrArg (fun b : ByteArray => b.data.toList) HR.out; simp only [list_strOf] at this
     exact this.symm)
    go_wp2_with (go_at_call 158; refine HPUT.out.mono ?_; rintro e w6 ⟨rfl, hx6⟩; have hz6 := hbz.out.ext hx6; have ha6 := hba.out.ext hx6; have r0 := hz6.cell 0; have r1 := hz6.cell 1; have s0 := hz6.frozen 0; have s1 := hz6.frozen 1; have t0 := ha6.cell 0; have t1 := ha6.cell 1; have hl6 := hz6.lt; have hl7 := ha6.lt; have HX6 := Lib.hid hx6; clear hx6 hz6 ha6)
    refine bodyPost_ret (v := .tuple #[.agg #[.slice Ac nc cc, .slice Ag ng cg], .bool true]) (by simp [results, Tryz.results91, go_sem, r0, r1]) rfl ⟨?_, ?_⟩
    · rw [HOK.out]
      exact (((ho.out.ext HX6.out).set (p := ⟨w.heap.size, 0, none⟩) (show w.heap.size < _ from by omega) _).set (p := ⟨w.heap.size, 1, none⟩) (show w.heap.size < _ from by omega) _).got (by omega) rfl rfl
    exact Ext.setNew (a := w) (Ext.setNew (hx.trans' HX6.out) (Nat.le_refl _) _) (Nat.le_refl _) _
  have HNO := Lib.hid (show changeOf s.data.toList = none from by
    rw [HCH.out, if_neg]; intro h
    apply he
    rw [HR.out, h]
    exact strOf_list s)
  have hne : (r.toList == s.toList) = false := by
   rw [beq_eq_false_iff_ne]; intro e; rw [ByteArray.toList_eq, ByteArray.toList_eq] at e; exact he (bytes_inj e)
  clear he
  go_wp2_with (go_at_call 158; refine HPUT.out.mono ?_; rintro e w6 ⟨rfl, hx6⟩; have hz6 := hbz.out.ext hx6; have ha6 := hba.out.ext hx6; have r0 := hz6.cell 0; have r1 := hz6.cell 1; have s0 := hz6.frozen 0; have s1 := hz6.frozen 1; have t0 := ha6.cell 0; have t1 := ha6.cell 1; have hl6 := hz6.lt; have hl7 := ha6.lt; have HX6 := Lib.hid hx6; clear hx6 hz6 ha6)
  refine bodyPost_ret (v := .tuple #[.agg #[.slice none 0 0, .slice none 0 0], .bool false]) (by simp [results, Tryz.results91, go_sem, r0, r1]) rfl ⟨by rw [HNO.out]; rfl, ?_⟩; exact Ext.setNew (a := w) (Ext.setNew (hx.trans' HX6.out) (Nat.le_refl _) _) (Nat.le_refl _) _
def GotSomeC (N : Nat) (g : GC) (n m : Nat) (e : Ending) (w' : World) : Prop :=
 ∃ (A B : Option Addr) (c d : Nat) (S T : Nat → Prop), e = .returned (.tuple #[.agg #[.slice A n c, .slice B m d], .bool true]) ∧ (n ≤ c ∧ c ≤ 9223372036854775807 ∧ m ≤ d ∧ d ≤ 9223372036854775807) ∧
   AtomsO S w' (.slice A n c) g.comes ∧ AtomsO T w' (.slice B m d) g.goes ∧ (∀ b, S b → N ≤ b) ∧ (∀ b, T b → N ≤ b) ∧ ∀ b, S b → ¬ T b
theorem GotChange.some {N : Nat} {g : GC} {e : Ending} {w' : World} (h : GotChange N (some g) e w') : GotSomeC N g g.comes.length g.goes.length e w' := by
 obtain ⟨v, u, S, T, he, hv, hu, h1, h2, h3⟩ := h; obtain ⟨A, c, rfl, k1, k2⟩ := SliceO.form hv; obtain ⟨B, d, rfl, k3, k4⟩ := SliceO.form hu; exact ⟨A, B, c, d, S, T, he, ⟨k1, k2, k3, k4⟩, hv, hu, h1, h2, h3⟩
theorem str_neL {a b : ByteArray} (h : a ≠ b) : (a.toList == b.toList) = false := by
 rw [beq_eq_false_iff_ne, ByteArray.toList_eq, ByteArray.toList_eq]
 exact fun e => h (bytes_inj e)
theorem str_eq {a b : ByteArray} (h : a = b) : (a.toList == b.toList) = true := by rw [h]; exact beq_self_eq_true _
theorem head_take {s h : ByteArray} (hle : h.size ≤ s.size) (e : s.extract 0 h.size = h) : s.data.toList = h.data.toList ++ s.data.toList.drop h.size := by
 have h1 := extract_str s 0 h.size hle; rw [e, List.drop_zero, Nat.sub_zero] at h1; have h2 := congrArg (fun b : ByteArray => b.data.toList) h1; simp only [list_strOf] at h2
 conv => lhs; rw [← List.take_append_drop h.size s.data.toList]
 rw [← h2]
set_option maxRecDepth 100000 in
set_option maxHeartbeats 1000000 in
theorem l8Next_any (s : ByteArray) (t : Nat) (w : World) (hs : s.size ≤ 400000) (ht : t ≤ 100000) :
 Calls Tryz.prog 35 #[.string s, .int .i64 t] w fun e w' => GotChange w.heap.size (recOf t s.data.toList) e w' ∧ Ext w w' := by
 obtain ⟨d, hd⟩ : ∃ d, d = strOf (Lib.decDigits t) := ⟨_, rfl⟩
 have hds : d.size ≤ 10 := by rw [hd, strOf_size]; exact dec_len _ (by omega)
 obtain ⟨h, hh⟩ : ∃ h, d ++ ⟨#[58]⟩ = h := ⟨_, rfl⟩
 have hhe : h = strOf (Lib.decDigits t ++ [58]) := by rw [← hh, hd, ← strOf_append]; rfl
 have hhd : h.data.toList = Lib.decDigits t ++ [58] := by rw [hhe, list_strOf]
 have hhs : h.size ≤ 11 := by rw [hhe, strOf_size, List.length_append]; have := dec_len t (by omega); simp; omega
 have HD := Lib.hid (fun W => show Calls Tryz.prog 75 #[.int .i64 t] W fun e w' => e = .returned (.string d) ∧ Ext W w' from by
  have := l1Dec_any (t : Int) W (by omega) (by omega)
  rw [hd]; exact this)
 have HHD := Lib.hid hhd; have HB := Lib.hid (Blk.new w 32 #[.slice none 0 0, .slice none 0 0])
 have e0 : s.data.toList.length = s.size := by simp
 clear hd hhe hhd
 by_cases hlt : s.size < h.size
 · have HN := Lib.hid (show recOf t s.data.toList = none from specRec_head (by
     intro e; have h1 := congrArg List.length e; have h2 := congrArg List.length HHD.out; simp only [List.length_take, List.length_append, List.length_cons, List.length_nil] at h1 h2
     have h3 : h.data.toList.length = h.size := by simp
     omega))
   have hg1 : decide (s.size < h.size) = true := decide_eq_true hlt; clear e0
   go_enter Tryz.func35, Tryz.ntmps35
   go_wp2_with (go_at_call 75; refine (HD.out _).mono ?_; rintro e w1 ⟨rfl, hx1⟩; have hb := HB.out.ext hx1; have q0 := hb.cell 0; have q1 := hb.cell 1; have f0 := hb.frozen 0; have f1 := hb.frozen 1; have hl := hb.lt; have HX1 := Lib.hid hx1; clear hb hx1)
   go_wp2; refine bodyPost_ret (v := .tuple #[.agg #[.slice none 0 0, .slice none 0 0], .bool false]) (by simp [results, Tryz.results35, go_sem, q0, q1]) rfl ⟨by rw [HN.out]; rfl, ?_⟩; exact Ext.setNew (a := w) (Ext.setNew (((Ext.refl w).alloc _).trans' HX1.out) (Nat.le_refl _) _) (Nat.le_refl _) _
 have hge : h.size ≤ s.size := by omega
 have hg1 : decide (s.size < h.size) = false := decide_eq_false hlt
 by_cases hpre : s.extract 0 h.size = h
 case neg =>
  have HN := Lib.hid (show recOf t s.data.toList = none from specRec_head (by
   intro e
   apply hpre
   have h2 : h.size = (Lib.decDigits t).length + 1 := by
    have h2 := congrArg List.length HHD.out
    have h3 : h.data.toList.length = h.size := by simp
    simp only [List.length_append, List.length_cons, List.length_nil] at h2; omega
   rw [extract_str s 0 h.size hge, List.drop_zero, Nat.sub_zero]
   have h5 : List.take h.size s.data.toList = h.data.toList := by rw [h2, e, HHD.out]
   rw [h5, strOf_list]))
  have hne := str_neL hpre; clear e0 hpre
  go_enter Tryz.func35, Tryz.ntmps35
  go_wp2_with (go_at_call 75; refine (HD.out _).mono ?_; rintro e w1 ⟨rfl, hx1⟩; have hb := HB.out.ext hx1; have q0 := hb.cell 0; have q1 := hb.cell 1; have f0 := hb.frozen 0; have f1 := hb.frozen 1; have hl := hb.lt; have HX1 := Lib.hid hx1; clear hb hx1)
  go_wp2; refine bodyPost_ret (v := .tuple #[.agg #[.slice none 0 0, .slice none 0 0], .bool false]) (by simp [results, Tryz.results35, go_sem, q0, q1]) rfl ⟨by rw [HN.out]; rfl, ?_⟩; exact Ext.setNew (a := w) (Ext.setNew (((Ext.refl w).alloc _).trans' HX1.out) (Nat.le_refl _) _) (Nat.le_refl _) _
 have heq := str_eq hpre
 obtain ⟨r, hr⟩ : ∃ r, r = s.data.toList.drop h.size := ⟨_, rfl⟩
 have hsr : s.data.toList = Lib.decDigits t ++ 58 :: r := by
  rw [head_take hge hpre, HHD.out, ← hr]; simp
 have hrl : r.length = s.size - h.size := by rw [hr, List.length_drop, e0]
 obtain ⟨z, hz1, hz2, hz3⟩ := split_upTo 32 r
 obtain ⟨rs, hrs⟩ : ∃ rs, rs = s.extract h.size s.size := ⟨_, rfl⟩
 have hrse : rs = strOf r := by rw [hrs, extract_str s h.size s.size (Nat.le_refl _), ← hr, List.take_of_length_le (by omega)]
 obtain ⟨n, hn⟩ : ∃ n, n = (splitL 32 r).length := ⟨_, rfl⟩
 have hn1 : 1 ≤ n := by rw [hn]; exact List.length_pos_iff.2 (splitL_ne 32 r)
 have hn2 : n ≤ 400001 := by rw [hn]; have := split_len 32 r; omega
 have hul := congrArg List.length hz3; rw [List.length_append] at hul
 obtain ⟨m, hm⟩ : ∃ m, m = s.size - z.length := ⟨_, rfl⟩
 have hmm : h.size ≤ m ∧ m ≤ s.size ∧ m - h.size = (upTo 32 r).length := by omega
 obtain ⟨hm1, hm2, hm3⟩ := hmm
 obtain ⟨x, hx⟩ : ∃ x, x = s.extract h.size m := ⟨_, rfl⟩
 have hxe : x = strOf (upTo 32 r) := by
  rw [hx, extract_str s h.size m hm2, ← hr, hm3]
  congr 1
  conv => lhs; arg 2; rw [hz3]
  exact List.take_left' rfl
 have hxs : x.size ≤ 400000 := by rw [hxe, strOf_size]; omega
 have HC := Lib.hid (fun W => show Calls Tryz.prog 34 #[.string (s.extract h.size s.size), .int .u8 32] W fun e w' => (∃ v, e = .returned v ∧ StrsR (From W.heap.size) w' v ((splitL 32 r).map strOf)) ∧ Ext W w' from by
  have h2 := l1Cut_any (s.extract h.size s.size) 32 W (by rw [← hrs, hrse, strOf_size]; omega); rw [← hrs, hrse, list_strOf] at h2; rw [← hrs, hrse]
  exact h2)
 have HZ := Lib.hid (show ((splitL 32 r).map strOf)[n - 1]? = some (strOf z) from by
  rw [List.getElem?_map, hn, ← List.getLast?_eq_getElem?, hz1]; rfl)
 have HLEN := Lib.hid (show ((splitL 32 r).map strOf).length = n from by rw [List.length_map, hn])
 obtain ⟨zs, hzs⟩ : ∃ zs, zs = strOf z := ⟨_, rfl⟩
 have hzs1 : zs.size = z.length := by rw [hzs, strOf_size]
 have hsub : (s.size : Int) - (zs.size : Int) = ((m : Nat) : Int) := by omega
 rw [← hzs] at HZ
 obtain ⟨ws, hws⟩ : ∃ ws, ws = (splitL 32 r).map strOf := ⟨_, rfl⟩
 rw [← hws] at HC HZ HLEN; have HX := Lib.hid (show (s.extract h.size m).data.toList = upTo 32 r from by rw [← hx, hxe, list_strOf]); have HSR := Lib.hid hsr; have HXS := Lib.hid (show (s.extract h.size m).size ≤ 400000 from by rw [← hx]; exact hxs)
 have hi1 : (0 : Int) ≤ (n : Int) - 1 := by omega
 have hi2 : (n : Int) - 1 < (n : Int) := by omega
 have hi3 : ((n : Int) - 1).toNat = n - 1 := by omega
 have hmz : zs.size ≤ s.size := by omega
 clear hsr hrs hrse hn hul hm hx hxe hxs hzs hzs1 hws hz1 hz2 hz3 hr hrl hpre rs e0
 cases hc : changeOf (upTo 32 r) with
 | none =>
   have HN := Lib.hid (show recOf t s.data.toList = none from specRec_text HSR.out hc)
   have HG := Lib.hid (fun W => show Calls Tryz.prog 91 #[.string (s.extract h.size m)] W fun e w' => e = .returned (.tuple #[.agg #[.slice none 0 0, .slice none 0 0], .bool false]) ∧ Ext W w' from (specChangeGet_any (s.extract h.size m) W (by have := HXS.out; omega)).mono fun e w' ⟨h1, h2⟩ => by
    rw [HX.out, hc] at h1; exact ⟨h1, h2⟩)
   clear hc
   go_enter Tryz.func35, Tryz.ntmps35
   go_wp2_with (go_at_call 75; refine (HD.out _).mono ?_; rintro e w1 ⟨rfl, hx1⟩; have hb := HB.out.ext hx1; have HB1 := Lib.hid hb; have HX1 := Lib.hid hx1; clear hb hx1)
   go_wp2_with (first
    | (go_at_call 34; refine (HC.out _).mono ?_; rintro e w2 ⟨⟨v2, rfl, hv2⟩, hx2⟩; obtain ⟨A2, c2, rfl, ha2, hb2⟩ := SliceR.form hv2; rw [HLEN.out] at hv2 ha2 ⊢; obtain ⟨bw, ow, y, rfl, hbw, hyw, hys, hcw⟩ := StrsR.at_ hv2 (show n - 1 < n by omega); obtain rfl : y = zs := (Option.some.inj (hyw.symm.trans HZ.out)); have HX2 := Lib.hid (HX1.out.trans' hx2); have HB2 := Lib.hid (HB1.out.ext hx2); clear hx2 hv2 hyw)
    | (go_at_call 91; refine (HG.out _).mono ?_; rintro e w3 ⟨rfl, hx3⟩; have HX3 := Lib.hid (HX2.out.trans' hx3); have hb := HB2.out.ext hx3; have hl := hb.lt; have HB3 := Lib.hid hb; have q0 := hb.cell 0; have q1 := hb.cell 1; have f0 := hb.frozen 0; have f1 := hb.frozen 1; clear hb hx3))
   have hzf := ((HB3.out.set_ 0 (.slice none 0 0)).set_ 1 (.slice none 0 0)).alloc (.cells #[.slice none 0 0, .slice none 0 0] 32); have z0 := hzf.cell 0; have z1 := hzf.cell 1; simp at z0 z1; refine bodyPost_ret (v := .tuple #[.agg #[.slice none 0 0, .slice none 0 0], .bool false]) (by simp [results, Tryz.results35, go_sem, z0, z1]) rfl ⟨by rw [HN.out]; rfl, ?_⟩; exact (Ext.setNew (a := w) (Ext.setNew (((Ext.refl w).alloc _).trans' HX3.out) (Nat.le_refl _) _) (Nat.le_refl _) _).alloc _
 | some g =>
   obtain ⟨n1, hn1'⟩ : ∃ n1, n1 = g.comes.length := ⟨_, rfl⟩
   obtain ⟨m1, hm1'⟩ : ∃ m1, m1 = g.goes.length := ⟨_, rfl⟩
   have HG := Lib.hid (fun W => show Calls Tryz.prog 91 #[.string (s.extract h.size m)] W fun e w' => GotSomeC W.heap.size g n1 m1 e w' ∧ Ext W w' from (specChangeGet_any (s.extract h.size m) W (by have := HXS.out; omega)).mono fun e w' ⟨h1, h2⟩ => by
    rw [HX.out, hc] at h1; have h3 := GotChange.some h1; rw [← hn1', ← hm1'] at h3
    exact ⟨h3, h2⟩)
   obtain ⟨f, hf⟩ : ∃ f, f = strOf (logLine t (upTo 32 r)) := ⟨_, rfl⟩
   have HL := Lib.hid (fun W => show Calls Tryz.prog 92 #[.int .i64 t, .string (s.extract h.size m)] W fun e w' => e = .returned (.string f) ∧ Ext W w' from by
    have h3 := l8Line_any (t : Int) (s.extract h.size m) W (by omega) (by omega) (by have := HXS.out; omega); rw [HX.out, ← hf] at h3
    exact h3)
   obtain ⟨sn, hsn⟩ : ∃ sn, s ++ ⟨#[10]⟩ = sn := ⟨_, rfl⟩
   have HSN := Lib.hid (show sn = strOf (s.data.toList ++ [10]) from by
    rw [← hsn]
    apply bytes_inj
    rw [list_strOf]
    simp)
   have HF := Lib.hid hf; have HC2 := Lib.hid hc; have HLE := Lib.hid (show n1 = g.comes.length ∧ m1 = g.goes.length from ⟨hn1', hm1'⟩); clear hf hc hn1' hm1'
   by_cases he : f = sn
   · have HOK := Lib.hid (show recOf t s.data.toList = some g from specRec_yes HC2.out (by
       have h4 := congrArg (fun b : ByteArray => b.data.toList) (HF.out.symm.trans (he.trans HSN.out)); simp only [list_strOf] at h4
       exact h4))
     have he1 := str_eq he; clear he
     go_enter Tryz.func35, Tryz.ntmps35
     go_wp2_with (go_at_call 75; refine (HD.out _).mono ?_; rintro e w1 ⟨rfl, hx1⟩; have hb := HB.out.ext hx1; have HB1 := Lib.hid hb; have HX1 := Lib.hid hx1; clear hb hx1)
     go_wp2_with (first
      | (go_at_call 34; refine (HC.out _).mono ?_; rintro e w2 ⟨⟨v2, rfl, hv2⟩, hx2⟩; obtain ⟨A2, c2, rfl, ha2, hb2⟩ := SliceR.form hv2; rw [HLEN.out] at hv2 ha2 ⊢; obtain ⟨bw, ow, y, rfl, hbw, hyw, hys, hcw⟩ := StrsR.at_ hv2 (show n - 1 < n by omega); obtain rfl : y = zs := (Option.some.inj (hyw.symm.trans HZ.out)); have HX2 := Lib.hid (HX1.out.trans' hx2); have HB2 := Lib.hid (HB1.out.ext hx2); clear hx2 hv2 hyw)
      | (go_at_call 91; refine (HG.out _).mono ?_; rintro e w3 ⟨⟨A3, B3, c3, d3, S3, T3, rfl, ⟨k1, k2, k3, k4⟩, hv3, hu3, hS3, hT3, hD3⟩, hx3⟩
         have HV3 := Lib.hid hv3; have HU3 := Lib.hid hu3; have HS3 := Lib.hid hS3; have HT3 := Lib.hid hT3; have HD3 := Lib.hid hD3; have hz2 := HX2.out.size; simp only [World.size_alloc] at hz2; have HX3 := Lib.hid (HX2.out.trans' hx3); have HB3 := Lib.hid (HB2.out.ext hx3); have hl3 := HB3.out.lt
         clear hx3 hv3 hu3 hS3 hT3 hD3)
      | (go_at_call 92; refine (HL.out _).mono ?_; rintro e w4 ⟨rfl, hx4⟩
         have HX4 := Lib.hid ((HX3.out.alloc _).trans' hx4); have HY4 := Lib.hid hx4; have HB4 := Lib.hid ((HB3.out.alloc _).ext hx4); have hc4 := (Blk.new w3 32 #[.slice A3 n1 c3, .slice B3 m1 d3]).ext hx4; have p0 := hc4.cell 0; have p1 := hc4.cell 1; have q0 := HB4.out.cell 0; have q1 := HB4.out.cell 1; have f0 := HB4.out.frozen 0; have f1 := HB4.out.frozen 1; have hl4 := HB4.out.lt
         clear hx4 hc4))
     refine bodyPost_ret (v := .tuple #[.agg #[.slice A3 n1 c3, .slice B3 m1 d3], .bool true]) (by simp [results, Tryz.results35, go_sem, q0, q1]) rfl ⟨?_, ?_⟩
     · rw [HOK.out]
       refine ⟨_, _, S3, T3, rfl, ?_, ?_, fun b hb => Nat.le_trans ?_ (HS3.out b hb), fun b hb => Nat.le_trans ?_ (HT3.out b hb), HD3.out⟩
       · exact ((HV3.out.ext (((Ext.refl _).alloc _).trans' HY4.out)).setAt (b := w.heap.size) (o := 0) (fun hb => absurd (HS3.out _ hb) (by omega)) _).setAt (b := w.heap.size) (o := 1) (fun hb => absurd (HS3.out _ hb) (by omega)) _
       · exact ((HU3.out.ext (((Ext.refl _).alloc _).trans' HY4.out)).setAt (b := w.heap.size) (o := 0) (fun hb => absurd (HT3.out _ hb) (by omega)) _).setAt (b := w.heap.size) (o := 1) (fun hb => absurd (HT3.out _ hb) (by omega)) _
       · omega
       omega
     exact Ext.setNew (a := w) (Ext.setNew (((Ext.refl w).alloc _).trans' HX4.out) (Nat.le_refl _) _) (Nat.le_refl _) _
   have HN := Lib.hid (show recOf t s.data.toList = none from specRec_no HSR.out (by
     intro e
     apply he
     rw [HF.out, HSN.out, e]))
   have he1 := str_neL he; clear he
   go_enter Tryz.func35, Tryz.ntmps35
   go_wp2_with (go_at_call 75; refine (HD.out _).mono ?_; rintro e w1 ⟨rfl, hx1⟩; have hb := HB.out.ext hx1; have HB1 := Lib.hid hb; have HX1 := Lib.hid hx1; clear hb hx1)
   go_wp2_with (first
    | (go_at_call 34; refine (HC.out _).mono ?_; rintro e w2 ⟨⟨v2, rfl, hv2⟩, hx2⟩; obtain ⟨A2, c2, rfl, ha2, hb2⟩ := SliceR.form hv2; rw [HLEN.out] at hv2 ha2 ⊢; obtain ⟨bw, ow, y, rfl, hbw, hyw, hys, hcw⟩ := StrsR.at_ hv2 (show n - 1 < n by omega); obtain rfl : y = zs := (Option.some.inj (hyw.symm.trans HZ.out)); have HX2 := Lib.hid (HX1.out.trans' hx2); have HB2 := Lib.hid (HB1.out.ext hx2); clear hx2 hv2 hyw)
    | (go_at_call 91; refine (HG.out _).mono ?_; rintro e w3 ⟨⟨A3, B3, c3, d3, S3, T3, rfl, ⟨k1, k2, k3, k4⟩, hv3, hu3, hS3, hT3, hD3⟩, hx3⟩
       have HX3 := Lib.hid (HX2.out.trans' hx3); have HB3 := Lib.hid (HB2.out.ext hx3)
       clear hx3 hv3 hu3 hS3 hT3 hD3)
    | (go_at_call 92; refine (HL.out _).mono ?_; rintro e w4 ⟨rfl, hx4⟩
       have HX4 := Lib.hid ((HX3.out.alloc _).trans' hx4); have HB4 := Lib.hid ((HB3.out.alloc _).ext hx4); have q0 := HB4.out.cell 0; have q1 := HB4.out.cell 1; have f0 := HB4.out.frozen 0; have f1 := HB4.out.frozen 1; have hl4 := HB4.out.lt
       clear hx4))
   refine bodyPost_ret (v := .tuple #[.agg #[.slice none 0 0, .slice none 0 0], .bool false]) (by simp [results, Tryz.results35, go_sem, q0, q1]) rfl ⟨by rw [HN.out]; rfl, ?_⟩; exact Ext.setNew (a := w) (Ext.setNew (((Ext.refl w).alloc _).trans' HX4.out) (Nat.le_refl _) _) (Nat.le_refl _) _
def GotLog (gs : List GC) (n : Nat) (e : Ending) (w' : World) : Prop := ∃ v, e = .returned (.tuple #[v, .int .i64 n]) ∧ ChangesR Any w' v gs
theorem change_info : (Tryz.prog.info? 32).map (fun i => (i.zero, i.size, i.bytes)) = some (some (.agg #[.slice none 0 0, .slice none 0 0]), 2, 48) := by kernel_rfl
set_option maxRecDepth 100000 in
set_option maxHeartbeats 1000000 in
theorem specLogGet_any (s : ByteArray) (w : World) (hs : s.size ≤ 4194304) :
 Calls Tryz.prog 9 #[.string s] w fun e w' => GotLog (logGetL s.data.toList).1 (logGetL s.data.toList).2 e w' ∧ Ext w w' := by
 have e0 : s.data.toList.length = s.size := by simp
 by_cases hbig : 400000 < s.size
 · have HL := Lib.hid (show logGetL s.data.toList = ([], 0) from by unfold logGetL; rw [if_pos (by omega)])
   clear e0
   go_enter Tryz.func9, Tryz.ntmps9
   go_wp2
   go_ret2
   refine ⟨?_, (Ext.refl _).alloc _⟩; rw [HL.out]; exact ⟨_, rfl, SliceR.nil_ 0 (Nat.zero_le _) _⟩
 obtain ⟨i0, hi0, hz0, hz1, hz2⟩ := info_parts change_info
 obtain ⟨ls, hls⟩ : ∃ ls, ls = splitL 10 s.data.toList := ⟨_, rfl⟩
 obtain ⟨ws, hws⟩ : ∃ ws, ws = ls.map strOf := ⟨_, rfl⟩
 have hlen : ls.length = ws.length := by rw [hws, List.length_map]
 have hpos : 0 < ws.length := by rw [← hlen, hls]; exact List.length_pos_iff.2 (splitL_ne 10 _)
 have HC := Lib.hid (fun W => show Calls Tryz.prog 34 #[.string s, .int .u8 10] W fun e w' => (∃ v, e = .returned v ∧ StrsR (From W.heap.size) w' v ws) ∧ Ext W w' from by
  have h := l1Cut_any s 10 W hs; rw [← hls, ← hws] at h
  exact h)
 have HG := Lib.hid (show logGetL s.data.toList = logRead 0 ls from by unfold logGetL; rw [if_neg (by omega), hls]); have HW := Lib.hid (show wsum ls = s.size + 1 from by rw [hls, wsum_split, e0]); have HWS := Lib.hid hws
 have hw2 : ws.length ≤ 400001 := by rw [← hlen, hls]; have := split_len 10 s.data.toList; omega
 clear e0 hls hws
 go_enter Tryz.func9, Tryz.ntmps9
 go_wp2_with (go_at_call 34; refine (HC.out _).mono ?_; rintro e w3 ⟨⟨v3, rfl, hv3⟩, hx3⟩; obtain ⟨A3, c3, rfl, ha3, hb3⟩ := SliceR.form hv3; have HV3 := Lib.hid (show StrsR (fun b => w.heap.size < b ∧ b < w3.heap.size) w3 (.slice A3 ws.length c3) ws from ListK.sub (k := kStr) (ListK.low (k := kStr) hv3) (fun b hb => ⟨by have := hb.1; simp at this; omega, hb.2⟩)); have HX3 := Lib.hid hx3; have hz3 := hx3.size; simp only [World.size_alloc] at hz3; clear hv3 hx3)
 go_loopw [4, 5, 7] (fun vv nn ii wr => ∃ (i n : Nat) (gs : List GC), ii = .int .i64 i ∧ nn = .int .i64 n ∧ i < ws.length ∧ 4 * i ≤ n ∧ Hid (gs.length = i) ∧ Hid (n + wsum (ls.drop i) = s.size + 1) ∧ Hid (OwnK kChange w.heap.size 32 (fun b => w3.heap.size ≤ b) wr vv gs) ∧ Hid (∀ g, vv.ownBlock = some g → g = w.heap.size ∨ w3.heap.size ≤ g) ∧ Hid (StrsR (fun b => w.heap.size < b ∧ b < w3.heap.size) wr (.slice A3 ws.length c3) ws) ∧ Hid (logRead 0 ls = (gs ++ (logRead i (ls.drop i)).1, n + (logRead i (ls.drop i)).2)) ∧ Ext w wr ∧ w3.heap.size ≤ wr.heap.size) (fun _ _ i _ => ws.length - (intOf i).toNat)
 case atStart => exact ⟨0, 0, [], rfl, rfl, hpos, Nat.le_refl _, rfl, Lib.hid (by rw [Nat.zero_add]; exact HW.out), Lib.hid ((OwnK.empty rfl (Nat.le_refl _)).ext HX3.out), Lib.hid (fun g hg => by injection hg with hg; exact .inl hg.symm), HV3, Lib.hid (by simp), ((Ext.refl w).alloc _).trans' HX3.out, Nat.le_refl _⟩
 case round =>
  obtain ⟨i, n, gs, rfl, rfl, hi, hin, hgl, hsum, ho, hob, hst, hrd, hx, hsz⟩ := hrel; obtain ⟨A0, n0, c0, rfl, hn0, ha0, hb0⟩ := ho.out.form2; obtain rfl : i = n0 := hgl.out.symm.trans hn0.out.symm
  have hk0 : (0 : Int) ≤ (i : Int) := by omega
  have hdrop := wsum_drop (ws := ls) (i := i) (by omega)
  by_cases hlt : i + 1 < ws.length
  · obtain ⟨bw, ow, x, rfl, hbw, hSw, hxw, hxs, hcw⟩ := StrsR.at_S hst.out (show i < ws.length by omega)
    have hil : i < ls.length := by omega
    have HXW := Lib.hid (show x.data.toList = ls[i] from by
     have h := hxw; rw [HWS.out, List.getElem?_map, List.getElem?_eq_getElem hil] at h; simp only [Option.map_some, Option.some.injEq] at h
     rw [← h, list_strOf])
    have hx0 : x.size = ls[i].length := by rw [← HXW.out]; simp
    have hxn : x.size + n ≤ 400000 := by
     have := hsum.out; have h2 := wsum_drop (ws := ls) (i := i + 1) (by omega); omega
    have hi5 : i ≤ 100000 := by omega
    have HN := Lib.hid (fun W => l8Next_any x i W (by omega) hi5); have HDR := Lib.hid (List.drop_eq_getElem_cons hil); have HLT := Lib.hid hlt; have HSUM := Lib.hid (show (n + x.size + 1) + wsum (ls.drop (i + 1)) = s.size + 1 from by have := hsum.out; omega)
    have hk1 : (i : Int) + 1 < (ws.length : Int) := by omega
    have hx63 : (x.size : Int) ≤ 400000 := by omega
    have hn63 : (n : Int) ≤ 400000 := by omega
    clear hxw hx0 hsum
    cases hr : recOf i x.data.toList with
    | none =>
      have HE := Lib.hid (show logRead 0 ls = (gs, n) from by
       rw [hrd.out, HDR.out, ← HXW.out, logRead_none hr]; simp)
      have HNN := Lib.hid (fun W => show Calls Tryz.prog 35 #[.string x, .int .i64 i] W fun e w' => e = .returned (.tuple #[.agg #[.slice none 0 0, .slice none 0 0], .bool false]) ∧ Ext W w' from (HN.out W).mono fun e w' ⟨h1, h2⟩ => by rw [hr] at h1; exact ⟨h1, h2⟩); clear hr HN hdrop
      go_wp2_with (go_at_call 35; refine (HNN.out _).mono ?_; rintro e w4 ⟨rfl, hx4⟩; have HX4 := Lib.hid hx4; clear hx4)
      go_ret2
      refine ⟨?_, (hx.trans' HX4.out).alloc _⟩; rw [HG.out, HE.out]; exact ⟨_, rfl, (ho.out.ext (HX4.out.alloc _)).list (fun _ _ => trivial) (fun _ _ => trivial)⟩
    | some g =>
      obtain ⟨n1, hn1'⟩ : ∃ n1, n1 = g.comes.length := ⟨_, rfl⟩
      obtain ⟨m1, hm1'⟩ : ∃ m1, m1 = g.goes.length := ⟨_, rfl⟩
      have h3 := recOf_len hr
      have HE := Lib.hid (show logRead 0 ls = ((gs ++ [g]) ++ (logRead (i + 1) (ls.drop (i + 1))).1, (n + x.size + 1) + (logRead (i + 1) (ls.drop (i + 1))).2) from by
       rw [hrd.out, HDR.out, ← HXW.out, logRead_some (by intro e; have := congrArg List.length e; simp at this; omega) hr]
       have e : x.data.toList.length = x.size := by simp
       simp [e]; omega)
      have HNN := Lib.hid (fun W => show Calls Tryz.prog 35 #[.string x, .int .i64 i] W fun e w' => GotSomeC W.heap.size g n1 m1 e w' ∧ Ext W w' from (HN.out W).mono fun e w' ⟨h1, h2⟩ => by
       rw [hr] at h1; have h3 := GotChange.some h1; rw [← hn1', ← hm1'] at h3
       exact ⟨h3, h2⟩)
      have hi4 : 4 * (i + 1) ≤ n + x.size + 1 := by
       have e : x.data.toList.length = x.size := by simp
       omega
      have hglen : gs.length ≤ 400001 := by have := hgl.out; omega
      clear hr HN hdrop hn1' hm1' h3
      go_wp2_with (first
       | (go_at_call 35; refine (HNN.out _).mono ?_; rintro e w4 ⟨⟨A4, B4, c4, d4, S4, T4, rfl, ⟨k1, k2, k3, k4⟩, hv4, hu4, hS4, hT4, hD4⟩, hx4⟩
          have HX4 := Lib.hid hx4; have hl4 := hx4.size; have HXA := Lib.hid (show Ext wr ((w4.alloc (.cells #[.slice A4 n1 c4, .slice B4 m1 d4] 32)).alloc (.cells #[.slice A4 n1 c4, .slice B4 m1 d4] 32)) from (hx4.alloc _).alloc _); have HCE := Lib.hid (show ChangeE (From wr.heap.size) w4 [.slice A4 n1 c4, .slice B4 m1 d4] g from ⟨_, _, rfl, AtomsR.sub hv4.read hS4, AtomsR.sub hu4.read hT4⟩); have HBN := Lib.hid (show Blk ((w4.alloc (.cells #[.slice A4 n1 c4, .slice B4 m1 d4] 32)).alloc (.cells #[.slice A4 n1 c4, .slice B4 m1 d4] 32)) (w4.heap.size + 1) 32 #[.slice A4 n1 c4, .slice B4 m1 d4] from by simpa using Blk.new (w4.alloc (.cells #[.slice A4 n1 c4, .slice B4 m1 d4] 32)) 32 #[.slice A4 n1 c4, .slice B4 m1 d4]); have r1 := (hx4.cells.1 bw (ow + i) hbw).trans hcw; have r2 := ((hx4.alloc (.cells #[.slice A4 n1 c4, .slice B4 m1 d4] 32)).cells.1 bw (ow + i) hbw).trans hcw
          clear hx4 hv4 hu4 hS4 hT4 hD4)
       | (at_builtin; refine wpList_appK (k := kChange) (S := fun b => w3.heap.size ≤ b) (T := From wr.heap.size) (base := w.heap.size) (xs := gs) (ys := [g]) rfl (.tmp 38) (.tmp 40) 24 (by rfl) i0 _ 48 Tryz.underlying24 hi0 hz0 hz1 hz2 (by rfl) (by rfl)
            (ho.out.ext HXA.out) (some ⟨w4.heap.size + 1, 0, none⟩) 1 1 (by rfl) (ElemsK.one (k := kChange) (x := g) (l := [.slice A4 n1 c4, .slice B4 m1 d4]) HBN.out (HCE.out.ext (((Ext.refl _).alloc _).alloc _)))
            (fun b hb _ => Nat.le_trans hsz hb) (fun g hg hb => absurd (ho.out.at_ g hg).2 (Nat.not_lt.2 hb)) (maxOf (by omega)) (by omega) (by have := hx.size; go_size) ?_
          intro v5 w5 hap; have HAP := Lib.hid hap
          have hno : (Value.slice A0 i c0).ownBlock ≠ some bw := fun e => by
           rcases hob.out bw e with h | h <;> have := hSw.1 <;> have := hSw.2 <;> omega
          have r3 : w5.cell? ⟨bw, ow + i, none⟩ = some (.string x) := (World.cell?_of_block (a := ⟨bw, ow + i, none⟩) (hap.grown.block bw (by have := HXA.out.size; omega) (fun e => hno e.symm))).trans ((HXA.out.cells.1 bw (ow + i) hbw).trans hcw)
          clear hap))
      go_roundw
      case rel =>
       refine ⟨i + 1, n + x.size + 1, gs ++ [g], by go_num, by go_num, by omega, hi4, Lib.hid (by have := hgl.out; simp; omega), HSUM, Lib.hid HAP.out.own, Lib.hid (fun b hb => ?_), Lib.hid (hst.out.imp (fun _ h => h) (fun b hb hlt => ?_) (by have := HXA.out.size; have := HAP.out.grown.size; omega)), HE, HAP.out.toExt (hx.trans' HXA.out) (Nat.le_refl _), by have := HXA.out.size; have := HAP.out.grown.size; omega⟩
       · rcases HAP.out.at_ with e | e
         · exact hob.out b (e ▸ hb)
         rw [e] at hb; injection hb with hb
         have := HXA.out.size; exact .inr (by omega)
       have hb2 := HAP.out.grown.block b (by have := HXA.out.size; omega) (fun e => by
         rcases hob.out b e.symm with h | h <;> have := hb.1 <;> have := hb.2 <;> omega)
       exact hb2.trans (HXA.out.block b hlt)
      case measure => simp [intOf]; omega
  have hk1 : (ws.length : Int) ≤ (i : Int) + 1 := by omega
  have HE := Lib.hid (show logRead 0 ls = (gs, n) from by
   have hil : i < ls.length := by omega
   rw [hrd.out, List.drop_eq_getElem_cons hil, List.drop_eq_nil_of_le (by omega), logRead_one]; simp)
  clear hdrop; go_wp2
  go_ret2
  refine ⟨?_, hx⟩; rw [HG.out, HE.out]; exact ⟨_, rfl, ho.out.list (fun _ _ => trivial) (fun _ _ => trivial)⟩
end Go.Proofs.YtmihponoillihaaGreatDoor
