/- The walk of the reference's ChangeGet. -/
import Derived.Test.YthndnkafckapnaaGreatDoorReadX
import Derived.Test.YthndnkafckapnaaGreatDoorTwo
namespace Go.Proofs.YthndnkafckapnaaGreatDoor
open Go.RowKit

theorem atomOf_small {l : List UInt8} {a : GA} (h : atomOf l = some a) : a.n.size ≤ 4194304 := by
  obtain ⟨h1, _⟩ := atomOf_is h
  have h2 := atomL_ok_len h1
  unfold atomL at h2
  have e : a.n.data.toList.length = a.n.size := by simp
  simp only [List.length_append] at h2
  omega
theorem tail_str {x : ByteArray} {c : UInt8} {r : List UInt8} (h : x.data.toList = c :: r) : x.extract 1 x.size = strOf r := by
  rw [extract_str _ _ _ (Nat.le_refl _), h]
  have e : x.data.toList.length = x.size := by simp
  rw [h] at e
  simp only [List.length_cons] at e
  rw [List.drop_succ_cons, List.drop_zero, List.take_of_length_le (by omega)]
theorem head_str {x : ByteArray} (h : 0 < x.size) : x.data.toList = x[0] :: x.data.toList.drop 1 := by
  have e : x.data.toList.length = x.size := by simp
  have := List.drop_eq_getElem_cons (l := x.data.toList) (i := 0) (by omega)
  rw [List.drop_zero] at this
  exact this

/-- What reading an atom hands back, when there is one. -/
def GotSome (N : Nat) (an : ByteArray) (al : List GT) (m : Nat) (e : Ending) (w' : World) : Prop :=
  ∃ A c, e = .returned (.tuple #[.agg #[.string an, .slice A m c], .bool true]) ∧ m ≤ c ∧ c ≤ 9223372036854775807 ∧ TermsO (From N) w' (.slice A m c) al
theorem GotAtom.some {N : Nat} {a : GA} {e : Ending} {w' : World} (h : GotAtom N (some a) e w') : GotSome N a.n a.args a.args.length e w' := by
  obtain ⟨v, h1, h2⟩ := h
  obtain ⟨A, c, rfl, h3, h4⟩ := SliceO.form h2
  exact ⟨A, c, h1, h3, h4, h2⟩

theorem split_mem_len (c : UInt8) (l : List UInt8) {p : List UInt8} (h : p ∈ splitL c l) : p.length ≤ l.length := by
  have h1 := split_weight c l
  have h2 := le_sum List.length h
  have h3 := List.length_pos_iff.2 (splitL_ne c l)
  omega
theorem wordSpec_nil (g : GC) : wordSpec [] g = none := rfl
theorem specFold_at {ws : List (List UInt8)} {i : Nat} (hi : i + 1 < ws.length) (g : GC) : specFold (ws.drop i) g = (wordSpec ws[i] g).bind fun g' => specFold (ws.drop (i + 1)) g' := by
  have h1 := List.drop_eq_getElem_cons (l := ws) (i := i) (by omega)
  have h2 := List.drop_eq_getElem_cons (l := ws) (i := i + 1) (by omega)
  rw [h1, h2, specFold_two]
theorem specFold_end {ws : List (List UInt8)} {i : Nat} (h : ws.length ≤ i + 1) (g : GC) : specFold (ws.drop i) g = some g := by
  rcases Nat.lt_or_ge i ws.length with hlt | hge
  · rw [List.drop_eq_getElem_cons hlt, List.drop_eq_nil_of_le (by omega)]; rfl
  · rw [List.drop_eq_nil_of_le hge]; rfl
theorem specChange_none {l : List UInt8} (h : specFold (splitL 32 l) noneC = none) : changeOf l = none := by rw [← specChange_eq]; unfold specChange; rw [h]
theorem specChange_some {l : List UInt8} {g : GC} (h : specFold (splitL 32 l) noneC = some g) : changeOf l = if changePutL g = l then some g else none := by rw [← specChange_eq]; unfold specChange; rw [h]

set_option maxRecDepth 100000 in
set_option maxHeartbeats 2000000 in
theorem specChangeGet_any (s : ByteArray) (w : World) (hs : s.size ≤ 4194304) :
    Calls Tryz.prog 14 #[.string s] w fun e w' => GotChange w.heap.size (changeOf s.data.toList) e w' ∧ Ext w w' := by
  obtain ⟨i0, hi0, hz0, hz1, hz2⟩ := info_parts atom_info
  obtain ⟨wl, hwl⟩ : ∃ wl, wl = splitL 32 s.data.toList := ⟨_, rfl⟩
  obtain ⟨ws, hws⟩ : ∃ ws, ws = wl.map strOf := ⟨_, rfl⟩
  have hwn : ws.length = wl.length := by rw [hws, List.length_map]
  have hwl2 : ws.length ≤ 4194305 := by
    have h1 := split_len 32 s.data.toList
    have h3 : s.data.toList.length = s.size := by simp
    rw [hwn, hwl]; omega
  have HC := Lib.hid (fun W => show Calls Tryz.prog 48 #[.string s, .int .u8 32] W fun e w' => (∃ v, e = .returned v ∧ StrsR (From W.heap.size) w' v ws) ∧ Ext W w' from by
    have h := l1Cut_any s 32 W hs
    rw [← hwl, ← hws] at h
    exact h)
  have HWN := Lib.hid hwn
  have HWS := Lib.hid hws
  have HWL := Lib.hid hwl
  have HB2 := Lib.hid ((Blk.new w 25 #[.slice none 0 0, .slice none 0 0]).alloc (.cells #[.slice none 0 0, .slice none 0 0] 25))
  have HB4 := Lib.hid (Blk.new (w.alloc (.cells #[.slice none 0 0, .slice none 0 0] 25)) 25 #[.slice none 0 0, .slice none 0 0])
  clear hwn hws hwl
  go_enter Tryz.func14, Tryz.ntmps14
  go_wp2_with (go_at_call 48; refine (HC.out _).mono ?_; rintro e w3 ⟨⟨v3, rfl, hv3⟩, hx3⟩; obtain ⟨A3, c3, rfl, ha3, hb3⟩ := SliceR.form hv3; have HV3 := Lib.hid (show StrsR (fun b => b < w3.heap.size ∧ b ≠ w.heap.size + 1) w3 (.slice A3 ws.length c3) ws from ListK.sub (k := kStr) (ListK.low (k := kStr) hv3) (fun b hb => ⟨hb.2, fun e => absurd hb.1 (Nat.not_le.2 (by simp; omega))⟩)); have HX3 := Lib.hid hx3; have hz3 := hx3.size; simp only [World.size_alloc] at hz3; clear hv3 hx3)
  go_loopw [6] (fun ii wr => ∃ (i : Nat) (vc vg : Value) (gc gg : List GA) (Sc Sg : Nat → Prop), ii = .int .i64 i ∧ i ≤ ws.length ∧ Hid (gc.length + gg.length = i) ∧ Hid (Blk wr w.heap.size 25 #[.slice none 0 0, .slice none 0 0]) ∧ Hid (Blk wr (w.heap.size + 1) 25 #[vc, vg]) ∧ Hid (TwoO w3.heap.size wr.heap.size 67 Sc Sg wr vc gc vg gg) ∧ Hid (StrsR (fun b => b < w3.heap.size ∧ b ≠ w.heap.size + 1) wr (.slice A3 ws.length c3) ws) ∧ Hid (specFold (wl.drop i) ⟨gc, gg⟩ = specFold wl noneC) ∧ Ext w wr ∧ w3.heap.size ≤ wr.heap.size) (fun i _ => ws.length - (intOf i).toNat)
  case atStart => exact ⟨0, _, _, [], [], _, _, rfl, Nat.zero_le _, rfl, Lib.hid (HB2.out.ext HX3.out), Lib.hid (by simpa using HB4.out.ext HX3.out), Lib.hid (TwoO.nil _ _ _ _), HV3, rfl, (((Ext.refl w).alloc _).alloc _).trans' HX3.out, Nat.le_refl _⟩
  case round =>
    obtain ⟨i, vc, vg, gc, gg, Sc, Sg, rfl, hi, hcount, hbz, hba, ho, hst, hfold, hx, hsz⟩ := hrel
    obtain ⟨Ac, nc, cc, rfl, hnc, hac, hbc⟩ := ho.out.c.form2
    obtain ⟨Ag, ng, cg, rfl, hng, hag, hbg⟩ := ho.out.g.form2
    have q0 := hbz.out.cell 0
    have q1 := hbz.out.cell 1
    have f0 := hbz.out.frozen 0
    have f1 := hbz.out.frozen 1
    have hlz := hbz.out.lt
    have p0 := hba.out.cell 0
    have p1 := hba.out.cell 1
    have hla := hba.out.lt
    have hk0 : (0 : Int) ≤ (i : Int) := by omega
    by_cases hlt : i + 1 < ws.length
    · obtain ⟨bw, ow, x, rfl, hbw, hSw, hxw, hxs, hcw⟩ := StrsR.at_S hst.out (show i < ws.length by omega)
      have hk1 : (i : Int) + 1 < (ws.length : Int) := by omega
      have HXW := Lib.hid (show strOf (wl[i]'(by have := HWN.out; omega)) = x from by
        have h := hxw
        rw [HWS.out, List.getElem?_map, List.getElem?_eq_getElem (by have := HWN.out; omega)] at h
        simpa using h)
      have HF := Lib.hid (show specFold wl noneC = (wordSpec x.data.toList ⟨gc, gg⟩).bind fun g' => specFold (wl.drop (i + 1)) g' from by
        rw [← hfold.out, specFold_at (by have := HWN.out; omega), ← HXW.out, list_strOf])
      have hx63 : (x.size : Int) ≤ 9223372036854775807 := by unfold maxLen at hxs; omega
      clear hxw
      by_cases hx0 : x.size = 0
      · have HN := Lib.hid (show changeOf s.data.toList = none from by
          apply specChange_none
          rw [← HWL.out, HF.out]
          have : x.data.toList = [] := List.eq_nil_of_length_eq_zero (by have e : x.data.toList.length = x.size := (by simp); omega)
          rw [this]; rfl)
        have hzx : ((x.size : Int) == 0) = true := by rw [beq_iff_eq]; omega
        go_wp2
        refine bodyPost_ret (v := .tuple #[.agg #[.slice none 0 0, .slice none 0 0], .bool false]) (by simp [results, Tryz.results14, go_sem, q0, q1]) rfl ⟨by rw [HN.out]; rfl, ?_⟩
        exact Ext.setNew (a := w) (Ext.setNew hx (Nat.le_refl _) _) (Nat.le_refl _) _
      have hx1 : 0 < x.size := by omega
      have hzx : ((x.size : Int) == 0) = false := by rw [beq_eq_false_iff_ne]; omega
      have HD := Lib.hid (head_str hx1)
      obtain ⟨tl, htl⟩ : ∃ tl, tl = x.extract 1 x.size := ⟨_, rfl⟩
      have HTL := Lib.hid (show tl = strOf (x.data.toList.drop 1) from htl.trans (tail_str HD.out))
      have htl4 : tl.size ≤ 4194304 := by
        have hm : wl[i]'(by have := HWN.out; omega) ∈ splitL 32 s.data.toList := by rw [← HWL.out]; exact List.getElem_mem _
        have h1 := split_mem_len 32 s.data.toList hm
        have h2 := congrArg ByteArray.size HXW.out
        rw [strOf_size] at h2
        have e0 : s.data.toList.length = s.size := by simp
        rw [htl, ByteArray.size_extract]
        omega
      subst htl
      have HAG := Lib.hid (specAtomGet_any (x.extract 1 x.size) wr htl4)
      cases hat : atomOf (x.extract 1 x.size).data.toList with
      | none =>
        have HN := Lib.hid (show changeOf s.data.toList = none from by
          apply specChange_none
          rw [← HWL.out, HF.out, HD.out, wordSpec_cons]
          have := hat
          rw [HTL.out, list_strOf] at this
          rw [this]; rfl)
        have HG := Lib.hid (show Calls Tryz.prog 49 #[.string (x.extract 1 x.size)] wr fun e w' => e = .returned (.tuple #[.agg #[.string ⟨#[]⟩, .slice none 0 0], .bool false]) ∧ Ext wr w' from HAG.out.mono fun e w' ⟨h1, h2⟩ => by
          rw [hat] at h1; exact ⟨h1, h2⟩)
        clear HAG hat
        go_wp2_with (go_at_call 49; refine HG.out.mono ?_; rintro e w1 ⟨rfl, hx1'⟩; have HX1 := Lib.hid hx1'; have hz6 := hbz.out.ext hx1'; have r0 := hz6.cell 0; have r1 := hz6.cell 1; have s0 := hz6.frozen 0; have s1 := hz6.frozen 1; have hl6 := hz6.lt; have HZ6 := Lib.hid hz6; clear hx1' hz6)
        have hzf := ((HZ6.out.set_ 0 (.slice none 0 0)).set_ 1 (.slice none 0 0)).alloc (.cells #[.string ⟨#[]⟩, .slice none 0 0] 67)
        have z0 := hzf.cell 0
        have z1 := hzf.cell 1
        simp at z0 z1
        refine bodyPost_ret (v := .tuple #[.agg #[.slice none 0 0, .slice none 0 0], .bool false]) (by simp [results, Tryz.results14, go_sem, z0, z1]) rfl ⟨by rw [HN.out]; rfl, ?_⟩
        exact (Ext.setNew (a := w) (Ext.setNew (hx.trans' HX1.out) (Nat.le_refl _) _) (Nat.le_refl _) _).alloc _
      | some a =>
        obtain ⟨an, al⟩ := a
        have HTD := Lib.hid (show atomOf (x.data.toList.drop 1) = some ⟨an, al⟩ from by
          have := hat
          rw [HTL.out, list_strOf] at this
          exact this)
        have han := atomOf_small hat
        have HAN := Lib.hid (show an.size ≤ maxLen from maxOf (by have : an.size ≤ 4194304 := han; omega))
        obtain ⟨m, hm⟩ : ∃ m, m = al.length := ⟨_, rfl⟩
        have HG := Lib.hid (show Calls Tryz.prog 49 #[.string (x.extract 1 x.size)] wr fun e w' => GotSome wr.heap.size an al m e w' ∧ Ext wr w' from HAG.out.mono fun e w' ⟨h1, h2⟩ => by
          rw [hat] at h1
          have h3 := GotAtom.some h1
          exact ⟨hm ▸ h3, h2⟩)
        have hlenc : gc.length ≤ 4194305 := by have := hcount.out; omega
        have hleng : gg.length ≤ 4194305 := by have := hcount.out; omega
        have HLT := Lib.hid hlt
        clear HAG hat hm han
        by_cases h45 : x[0] = 45
        · have hb45 : ((x[0].toNat : Int) == 45) = true := by rw [h45]; rfl
          have HF2 := Lib.hid (show specFold wl noneC = specFold (wl.drop (i + 1)) ⟨gc, gg ++ [⟨an, al⟩]⟩ from by
            rw [HF.out, HD.out, wordSpec_cons, HTD.out]
            show specFold _ (if _ then _ else _) = _
            rw [if_pos h45])
          clear h45
          go_wp2_with (first
            | (go_at_call 49; refine HG.out.mono ?_; rintro e w1 ⟨⟨A1, c1, rfl, hm1, hm2, hto⟩, hx1'⟩
               have HTO := Lib.hid hto
               have HX1 := Lib.hid hx1'
               have hl1 := hx1'.size
               have HXA := Lib.hid (show Ext wr ((w1.alloc (.cells #[.string an, .slice A1 m c1] 67)).alloc (.cells #[.string an, .slice A1 m c1] 67)) from (hx1'.alloc _).alloc _)
               have r1 := (hx1'.cells.1 bw (ow + i) hbw).trans hcw
               have r1' := ((hx1'.alloc (.cells #[.string an, .slice A1 m c1] 67)).cells.1 bw (ow + i) hbw).trans hcw
               have pa := ((hba.out.ext hx1').alloc (.cells #[.string an, .slice A1 m c1] 67)).cell 1
               clear hto hx1')
            | (at_builtin; refine wpList_appO (k := kAtomO) (S := Sg) (S' := fun b => Sg b ∨ (wr.heap.size ≤ b ∧ b < w1.heap.size + 2)) (T := From wr.heap.size) (base := w3.heap.size) (xs := gg) rfl (.tmp 53) (.tmp 55) 23 (by rfl) i0 _ 40 Tryz.underlying23 hi0 hz0 hz1 hz2 (by rfl) (by rfl)
                 (ho.out.g.ext HXA.out) (w1.heap.size + 1) (by rfl) [.string an, .slice A1 m c1] ⟨an, al⟩ 67 ⟨_, rfl, HAN.out, (HTO.out.ext (((Ext.refl _).alloc _).alloc _))⟩ (by simpa using Blk.new (w1.alloc (.cells #[.string an, .slice A1 m c1] 67)) 67 #[.string an, .slice A1 m c1])
                 (fun b hb hlt => .inr ⟨hb, by simpa using hlt⟩) (fun b hb => .inl hb) (fun b hb hs => absurd (show wr.heap.size ≤ b from hb) (Nat.not_le.2 (ho.out.lg b hs).2)) (fun g hg hb => absurd (show wr.heap.size ≤ g from hb) (Nat.not_le.2 (ho.out.og g hg).1)) (maxOf (by omega)) (by omega) (by go_size) ?_
               intro v5 w5 hap
               obtain ⟨A5, n5, c5, rfl, hn5, ha5, hb5⟩ := hap.own.form2
               have HAP := Lib.hid hap
               have HBL := Lib.hid (show Below w3.heap.size wr w5 from Below.trans (Below.mono HXA.out hsz) hap.below)
               have HE5 := Lib.hid (hap.toExt (w0 := w) (hx.trans' HXA.out) (by omega))
               have hb5' := hba.out.below HBL.out (by omega)
               have p3 := hb5'.cell 1
               have f3 := hb5'.frozen 1
               have hl5 := hb5'.lt
               clear hap hb5'))
          go_roundw
          case rel =>
            refine ⟨i + 1, _, _, gc, gg ++ [⟨an, al⟩], _, _, by go_num, by omega, Lib.hid (by have := hcount.out; simp; omega), Lib.hid ((hbz.out.below HBL.out (by omega)).far (show w.heap.size ≠ w.heap.size + 1 from by omega) _), Lib.hid (by simpa using (hba.out.below HBL.out (by omega)).set_ 1 (.slice A5 n5 c5)), Lib.hid (by simpa using (((ho.out.swap.ext HXA.out).app HAP.out (by simp) (fun b hb => hb) hsz (by have := HXA.out.size; omega)).set (p := ⟨w.heap.size + 1, 1, none⟩) (show w.heap.size + 1 < _ from by omega) _).swap), Lib.hid (hst.out.imp (fun _ h => h) (fun b hb hlt => (Below.heap_setCell _ _ _ _ hb.2).trans (HBL.out.block b hb.1)) (by have := HBL.out.size; go_size)), Lib.hid (HF2.out.symm), Ext.setNew (a := w) HE5.out (show w.heap.size ≤ w.heap.size + 1 from by omega) _, by have := HBL.out.size; go_size⟩
          case measure => simp [intOf]; omega
        · have hb45 : ((x[0].toNat : Int) == 45) = false := by
            rw [beq_eq_false_iff_ne]; intro e; exact h45 (UInt8.toNat_inj.1 (by show _ = 45; omega))
          have HF2 := Lib.hid (show specFold wl noneC = specFold (wl.drop (i + 1)) ⟨gc ++ [⟨an, al⟩], gg⟩ from by
            rw [HF.out, HD.out, wordSpec_cons, HTD.out]
            show specFold _ (if _ then _ else _) = _
            rw [if_neg h45])
          clear h45
          go_wp2_with (first
            | (go_at_call 49; refine HG.out.mono ?_; rintro e w1 ⟨⟨A1, c1, rfl, hm1, hm2, hto⟩, hx1'⟩
               have HTO := Lib.hid hto
               have HX1 := Lib.hid hx1'
               have hl1 := hx1'.size
               have HXA := Lib.hid (show Ext wr ((w1.alloc (.cells #[.string an, .slice A1 m c1] 67)).alloc (.cells #[.string an, .slice A1 m c1] 67)) from (hx1'.alloc _).alloc _)
               have r1 := (hx1'.cells.1 bw (ow + i) hbw).trans hcw
               have r1' := ((hx1'.alloc (.cells #[.string an, .slice A1 m c1] 67)).cells.1 bw (ow + i) hbw).trans hcw
               have pa := ((hba.out.ext hx1').alloc (.cells #[.string an, .slice A1 m c1] 67)).cell 0
               clear hto hx1')
            | (at_builtin; refine wpList_appO (k := kAtomO) (S := Sc) (S' := fun b => Sc b ∨ (wr.heap.size ≤ b ∧ b < w1.heap.size + 2)) (T := From wr.heap.size) (base := w3.heap.size) (xs := gc) rfl (.tmp 36) (.tmp 38) 23 (by rfl) i0 _ 40 Tryz.underlying23 hi0 hz0 hz1 hz2 (by rfl) (by rfl)
                 (ho.out.c.ext HXA.out) (w1.heap.size + 1) (by rfl) [.string an, .slice A1 m c1] ⟨an, al⟩ 67 ⟨_, rfl, HAN.out, (HTO.out.ext (((Ext.refl _).alloc _).alloc _))⟩ (by simpa using Blk.new (w1.alloc (.cells #[.string an, .slice A1 m c1] 67)) 67 #[.string an, .slice A1 m c1])
                 (fun b hb hlt => .inr ⟨hb, by simpa using hlt⟩) (fun b hb => .inl hb) (fun b hb hs => absurd (show wr.heap.size ≤ b from hb) (Nat.not_le.2 (ho.out.lc b hs).2)) (fun g hg hb => absurd (show wr.heap.size ≤ g from hb) (Nat.not_le.2 (ho.out.oc g hg).1)) (maxOf (by omega)) (by omega) (by go_size) ?_
               intro v5 w5 hap
               obtain ⟨A5, n5, c5, rfl, hn5, ha5, hb5⟩ := hap.own.form2
               have HAP := Lib.hid hap
               have HBL := Lib.hid (show Below w3.heap.size wr w5 from Below.trans (Below.mono HXA.out hsz) hap.below)
               have HE5 := Lib.hid (hap.toExt (w0 := w) (hx.trans' HXA.out) (by omega))
               have hb5' := hba.out.below HBL.out (by omega)
               have p3 := hb5'.cell 0
               have f3 := hb5'.frozen 0
               have hl5 := hb5'.lt
               clear hap hb5'))
          go_roundw
          case rel =>
            refine ⟨i + 1, _, _, gc ++ [⟨an, al⟩], gg, _, _, by go_num, by omega, Lib.hid (by have := hcount.out; simp; omega), Lib.hid ((hbz.out.below HBL.out (by omega)).far (show w.heap.size ≠ w.heap.size + 1 from by omega) _), Lib.hid (by simpa using (hba.out.below HBL.out (by omega)).set_ 0 (.slice A5 n5 c5)), Lib.hid (by simpa using (((ho.out.ext HXA.out).app HAP.out (by simp) (fun b hb => hb) hsz (by have := HXA.out.size; omega)).set (p := ⟨w.heap.size + 1, 0, none⟩) (show w.heap.size + 1 < _ from by omega) _)), Lib.hid (hst.out.imp (fun _ h => h) (fun b hb hlt => (Below.heap_setCell _ _ _ _ hb.2).trans (HBL.out.block b hb.1)) (by have := HBL.out.size; go_size)), Lib.hid (HF2.out.symm), Ext.setNew (a := w) HE5.out (show w.heap.size ≤ w.heap.size + 1 from by omega) _, by have := HBL.out.size; go_size⟩
          case measure => simp [intOf]; omega
    · have hk1 : (ws.length : Int) ≤ (i : Int) + 1 := by omega
      have HEnd := Lib.hid (show specFold wl noneC = some ⟨gc, gg⟩ from by rw [← hfold.out]; exact specFold_end (by have := HWN.out; omega) _)
      have HCH := Lib.hid (show changeOf s.data.toList = if changePutL ⟨gc, gg⟩ = s.data.toList then some ⟨gc, gg⟩ else none from specChange_some (by rw [← HWL.out]; exact HEnd.out))
      obtain ⟨r, hr⟩ : ∃ r, r = strOf (changePutL ⟨gc, gg⟩) := ⟨_, rfl⟩
      have HR := Lib.hid hr
      have HPUT := Lib.hid (show Calls Tryz.prog 10 #[.agg #[.slice Ac nc cc, .slice Ag ng cg]] wr fun e w' => e = .returned (.string r) ∧ Ext wr w' from hr ▸ specChangePut_any ⟨gc, gg⟩ _ _ wr (AtomsO.read ho.out.c.slice2) (AtomsO.read ho.out.g.slice2))
      clear hr hlt
      by_cases he : r = s
      · subst he
        have HOK := Lib.hid (show changeOf r.data.toList = some ⟨gc, gg⟩ from by
          rw [HCH.out, if_pos]
          have := congrArg (fun b : ByteArray => b.data.toList) HR.out
          simp only [list_strOf] at this
          exact this.symm)
        go_wp2_with (go_at_call 10; refine HPUT.out.mono ?_; rintro e w6 ⟨rfl, hx6⟩; have hz6 := hbz.out.ext hx6; have ha6 := hba.out.ext hx6; have r0 := hz6.cell 0; have r1 := hz6.cell 1; have s0 := hz6.frozen 0; have s1 := hz6.frozen 1; have t0 := ha6.cell 0; have t1 := ha6.cell 1; have hl6 := hz6.lt; have hl7 := ha6.lt; have HX6 := Lib.hid hx6; clear hx6 hz6 ha6)
        refine bodyPost_ret (v := .tuple #[.agg #[.slice Ac nc cc, .slice Ag ng cg], .bool true]) (by simp [results, Tryz.results14, go_sem, r0, r1]) rfl ⟨?_, ?_⟩
        · rw [HOK.out]
          exact (((ho.out.ext HX6.out).set (p := ⟨w.heap.size, 0, none⟩) (show w.heap.size < _ from by omega) _).set (p := ⟨w.heap.size, 1, none⟩) (show w.heap.size < _ from by omega) _).got (by omega) rfl rfl
        · exact Ext.setNew (a := w) (Ext.setNew (hx.trans' HX6.out) (Nat.le_refl _) _) (Nat.le_refl _) _
      · have HNO := Lib.hid (show changeOf s.data.toList = none from by
          rw [HCH.out, if_neg]
          intro h
          apply he
          rw [HR.out, h]
          exact strOf_list s)
        have hne : (r.toList == s.toList) = false := by
          rw [beq_eq_false_iff_ne]
          intro e
          rw [ByteArray.toList_eq, ByteArray.toList_eq] at e
          exact he (bytes_inj e)
        clear he
        go_wp2_with (go_at_call 10; refine HPUT.out.mono ?_; rintro e w6 ⟨rfl, hx6⟩; have hz6 := hbz.out.ext hx6; have ha6 := hba.out.ext hx6; have r0 := hz6.cell 0; have r1 := hz6.cell 1; have s0 := hz6.frozen 0; have s1 := hz6.frozen 1; have t0 := ha6.cell 0; have t1 := ha6.cell 1; have hl6 := hz6.lt; have hl7 := ha6.lt; have HX6 := Lib.hid hx6; clear hx6 hz6 ha6)
        refine bodyPost_ret (v := .tuple #[.agg #[.slice none 0 0, .slice none 0 0], .bool false]) (by simp [results, Tryz.results14, go_sem, r0, r1]) rfl ⟨by rw [HNO.out]; rfl, ?_⟩
        exact Ext.setNew (a := w) (Ext.setNew (hx.trans' HX6.out) (Nat.le_refl _) _) (Nat.le_refl _) _

end Go.Proofs.YthndnkafckapnaaGreatDoor
