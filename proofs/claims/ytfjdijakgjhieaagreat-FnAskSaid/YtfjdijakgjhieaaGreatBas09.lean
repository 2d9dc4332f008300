/- Part of the texts of a proof: own texts joined in the order of their building; what they say stands at each theorem. -/
import Derived.Test.YtfjdijakgjhieaaGreatBas07
import Derived.Test.YtfjdijakgjhieaaGreatBas08
import Derived.Test.YtfjdijakgjhieaaGreatBas06
import Derived.Deep.RegionHeld3
import Derived.Test.YtfjdijakgjhieaaGreatBas03
import Derived.Test.YtfjdijakgjhieaaGreatBas05
import Derived.WideKeyEntry
import Derived.DeepKeys4
import Derived.Maps.OwnSet
import Derived.Maps.Views
namespace Go.Proofs.YtfjdijakgjhieaaGreat
set_option linter.unusedSimpArgs false
set_option linter.unusedVariables false
open Go.RowKit

theorem slot_take {vs : List ByteArray} {ts : List GT} {k : Nat} {t : GT} (h : ts[k]? = some t) : (ts.take (k + 1)).map (slotOf vs) = (ts.take k).map (slotOf vs) ++ [slotOf vs t] := by
 rw [List.take_add_one, h, List.map_append]; rfl
/-- p's box: its name, its slots. -/
structure PatBox (w0 : World) (bx base : Nat) (n : ByteArray) (v : Value) (xs : List GS) (w : World) : Prop where
 blk : Blk w bx 184 #[.string n, v]
 own : OwnK kSlot base 218 None w v xs
 ext : Ext w0 w
 lo : w0.heap.size ≤ bx ∧ bx < base ∧ base ≤ w.heap.size
theorem PatBox.next {w0 w : World} {bx base : Nat} {n : ByteArray} {v : Value} {xs : List GS} (h : PatBox w0 bx base n v xs w) {w' : World} (hx : Ext w w') : PatBox w0 bx base n v xs w' :=
 ⟨h.blk.ext hx, h.own.ext hx, h.ext.trans' hx, h.lo.1, h.lo.2.1, Nat.le_trans h.lo.2.2 hx.size⟩
theorem PatBox.app {w0 w w' : World} {bx base : Nat} {n : ByteArray} {v v' : Value} {xs ys : List GS} (h : PatBox w0 bx base n v xs w) (ha : Apped kSlot base 218 None w v ys v' w') : PatBox w0 bx base n v' ys (w'.setCell ⟨bx, 1, none⟩ v') := by
 have hb := ha.blk h.blk h.lo.2.1
 refine ⟨?_, ha.own.set (p := ⟨bx, 1, none⟩) h.lo.2.1 (fun h => h) v', ?_, h.lo.1, h.lo.2.1, ?_⟩
 · have := hb.set_ 1 v'
   simpa using this
 · exact ((Inside.set (S := fun b => b = bx) w' ⟨bx, 1, none⟩ v' rfl)).toExt (ha.toExt h.ext (Nat.le_trans h.lo.1 (Nat.le_of_lt h.lo.2.1))) (fun i hi => by subst hi; exact h.lo.1)
 · have : w'.heap.size ≤ (w'.setCell ⟨bx, 1, none⟩ v').heap.size := by simp [World.setCell]
   exact Nat.le_trans h.lo.2.2 (Nat.le_trans ha.below.size this)

set_option maxRecDepth 100000 in
set_option maxHeartbeats 4000000 in
theorem pattern_any (a : GA) (vs : List ByteArray) (u0 u1 qv av : Value) (w : World) {V P : Nat → Prop} (hq : StrsR V w qv vs) (ht : TermsR P w av a.args) (ha : AscS vs) (hv : ∀ t ∈ a.args, t.v = true → t.n ∈ vs) (hl : a.args.length ≤ 1000) (hvl : vs.length ≤ 4294967296) :
 Calls Tryz.prog 146 #[.agg #[u0, u1, qv], .agg #[.string a.n, av]] w fun e w' => (∃ v, e = .returned (.agg #[.string a.n, v]) ∧ SlotsR (From w.heap.size) w' v (patOf vs a).slots) ∧ Ext w w' := by
 obtain ⟨A, c, rfl, hc1, hc2⟩ := SliceR.form ht
 obtain ⟨QA, qc, rfl, hqc1, hqc2⟩ := SliceR.form hq
 have HQ := Lib.hid hq
 have HT := Lib.hid ht
 have HA := Lib.hid ha
 have HV := Lib.hid hv
 clear hq ht ha hv
 go_enter Tryz.func146, Tryz.ntmps146
 go_wp2_with fail
 have HB0 := Lib.hid (show PatBox w (w.heap.size + 1 + 1 + 1) (w.heap.size + 1 + 1 + 1 + 1) a.n (.slice none 0 0) [] ((((w.alloc (.cells #[u0, u1, .slice QA vs.length qc] 139)).alloc (.cells #[.string a.n, .slice A a.args.length c] 26)).alloc (.cells #[.string ⟨#[]⟩, .slice none 0 0] 184)).alloc (.cells #[.string a.n, .slice none 0 0] 184)) from
  ⟨Blk.at_new (by simp), OwnK.nil, ((((Ext.refl w).alloc _).alloc _).alloc _).alloc _, by omega, by omega, by simp⟩)
 have HB1 := Lib.hid (show Blk ((((w.alloc (.cells #[u0, u1, .slice QA vs.length qc] 139)).alloc (.cells #[.string a.n, .slice A a.args.length c] 26)).alloc (.cells #[.string ⟨#[]⟩, .slice none 0 0] 184)).alloc (.cells #[.string a.n, .slice none 0 0] 184)) w.heap.size 139 #[u0, u1, .slice QA vs.length qc] from (((Blk.new _ _ _).alloc _).alloc _).alloc _)
 have HB2 := Lib.hid (show Blk ((((w.alloc (.cells #[u0, u1, .slice QA vs.length qc] 139)).alloc (.cells #[.string a.n, .slice A a.args.length c] 26)).alloc (.cells #[.string ⟨#[]⟩, .slice none 0 0] 184)).alloc (.cells #[.string a.n, .slice none 0 0] 184)) (w.heap.size + 1 + 1) 184 #[.string ⟨#[]⟩, .slice none 0 0] from (Blk.at_new (by simp)).alloc _)
 obtain ⟨i0, hi0⟩ : ∃ i, Tryz.prog.info? 218 = some i := ⟨_, by rfl⟩
 have hz0 : i0.zero = some (.agg #[.int .i64 0, .string ⟨#[]⟩]) := by have := hi0; revert this; intro h; cases h; rfl
 have hz1 : i0.size = 2 := by have := hi0; revert this; intro h; cases h; rfl
 have hz2 : i0.bytes = 24 := by have := hi0; revert this; intro h; cases h; rfl
 go_loopw [18] (fun i wr => ∃ (k : Nat) (v : Value), k ≤ a.args.length ∧ i = .int .i64 k ∧ Hid (PatBox w (w.heap.size + 1 + 1 + 1) (w.heap.size + 1 + 1 + 1 + 1) a.n v ((a.args.take k).map (slotOf vs)) wr ∧ Blk wr w.heap.size 139 #[u0, u1, .slice QA vs.length qc] ∧ Blk wr (w.heap.size + 1 + 1) 184 #[.string ⟨#[]⟩, .slice none 0 0])) (fun i _ => a.args.length - (intOf i).toNat)
 case atStart => exact ⟨0, _, Nat.zero_le _, rfl, Lib.hid ⟨HB0.out, HB1.out, HB2.out⟩⟩
 case round =>
  obtain ⟨k, v, hk, rfl, hrl⟩ := hrel
  obtain ⟨hpb, hqb, hrb⟩ := hrl.out
  obtain ⟨VA, vn, vc, rfl, hvn, hv1, hv2⟩ := hpb.own.form2
  have hk0 : (0 : Int) ≤ (k : Int) := by omega
  by_cases hlt : k < a.args.length
  · have hk1 : (k : Int) < (a.args.length : Int) := by omega
    obtain ⟨bt, ot, t, rfl, hbt, htk, htn, ht0, ht1⟩ := TermsR.at_ (HT.out.ext hpb.ext) hlt
    have HST := Lib.hid (slot_take (vs := vs) htk)
    have HPB := Lib.hid hpb
    have HQB := Lib.hid hqb
    have HRB := Lib.hid hrb
    have hmem := List.mem_of_getElem? htk
    have HLN := Lib.hid (show ((a.args.take k).map (slotOf vs)).length = k from by rw [List.length_map, List.length_take]; omega)
    clear htk hpb hqb hrb hrl
    rcases Bool.eq_false_or_eq_true t.v with hv | hv
    · rw [hv] at ht0
      obtain ⟨i, hi⟩ := List.getElem?_of_mem (HV.out t hmem hv)
      have HSL := Lib.hid (show slotOf vs t = ⟨some i, noWord⟩ from by unfold slotOf; rw [if_pos hv, idx_nodup HA.out.nodup hi]; rfl)
      have HBS := Lib.hid (fun (W : World) (hW : Ext w W) => binSearch_any vs _ t.n i W (HQ.out.ext hW) HA.out hi hvl)
      clear hmem hv hi
      go_wp2_with (first | (go_at_call 143; refine (kindOf_ways t.n _).2.mono ?_; rintro e w1 ⟨rfl, hx1⟩) | fail)
      have HX1 := Lib.hid (show Ext wr w1 from ((Ext.refl wr).alloc _).trans' hx1)
      have HP1 := Lib.hid (HPB.out.next HX1.out)
      have q2 := (HQB.out.ext HX1.out).cell 2
      have ql := (HQB.out.ext HX1.out).lt
      have HBS1 := Lib.hid (fun (W : World) (hW : Ext w1 W) => HBS.out W (HP1.out.ext.trans' hW))
      refine calm_region (by kernel_rfl) (by kernel_rfl) ?_
      repeat (go_big_quiet_step ((first | (go_at_call 145; exact calm_same (variableText_any _ _)) | (go_at_call 178; exact calm_same (HBS1.out _ (Later.ext _))))))
      refine wpQuiet_nil ?_
      rintro w3 ⟨⟨_, hx3⟩, rfl⟩
      have HP3 := Lib.hid (HP1.out.next hx3)
      have HQ3 := Lib.hid (HQB.out.ext (HX1.out.trans' hx3))
      have HR3 := Lib.hid (HRB.out.ext (HX1.out.trans' hx3))
      have c1 := HP3.out.blk.cell 1
      have cl := HP3.out.blk.lt
      have hbw := HP3.out.lo.2.2
      clear q2 ql
      go_wp2_with (at_builtin; go_loud (refine wpList_appL (k := kSlot) (S := None) (T := None) (base := w.heap.size + 1 + 1 + 1 + 1) (xs := (a.args.take k).map (slotOf vs)) (ys := [slotOf vs t]) rfl (.tmp 36) (.tmp 39) 182 (by rfl) i0 _ 24 Tryz.underlying182 hi0 hz0 hz1 hz2 (by rfl) (by rfl) (HP3.out.own.alloc _) _ 1 1 (by rfl) (ElemsK.one (k := kSlot) (x := slotOf vs t) (l := [.int .i64 (i : Int), .string ⟨#[]⟩]) (Blk.at_new (by simp)) (by rw [HSL.out]; exact ⟨rfl, Nat.zero_le _⟩)) (fun _ h => h.elim) (maxOf (by rw [HLN.out]; simp; omega)) (by rw [HLN.out]; omega) (by go_size) ?_; intro v6 w6 hap; have HAP := Lib.hid hap; obtain ⟨A6, c6, rfl, _, _⟩ := hap.own.form; have e1 := (hap.blk (HP3.out.blk.alloc _) (by omega)).cell 1; have e2 := (hap.blk (HP3.out.blk.alloc _) (by omega)).frozen 1; have e3 := (hap.blk (HP3.out.blk.alloc _) (by omega)).lt; clear hap))
      have h6 := HAP.out
      have hlen : ((a.args.take k).map (slotOf vs) ++ [slotOf vs t]).length = k + 1 := by rw [List.length_append, HLN.out]; rfl
      rw [hlen] at h6
      have H6 := Lib.hid h6
      clear h6 hlen HAP
      go_roundw
      case rel =>
       refine ⟨k + 1, .slice A6 (k + 1) c6, by omega, by go_num, Lib.hid ⟨?_, ?_, ?_⟩⟩
       · rw [HST.out]; exact (HP3.out.next ((Ext.refl _).alloc _)).app H6.out
       · exact (H6.out.blk (HQ3.out.alloc _) (by omega)).far (by show w.heap.size ≠ w.heap.size + 1 + 1 + 1; omega) _
       · exact (H6.out.blk (HR3.out.alloc _) (by omega)).far (by show w.heap.size + 1 + 1 ≠ w.heap.size + 1 + 1 + 1; omega) _
      case measure => simp [intOf]; omega
    · rw [hv] at ht0
      have HSL := Lib.hid (show slotOf vs t = ⟨none, t.n⟩ from by unfold slotOf; rw [hv]; rfl)
      clear hmem hv
      go_wp2_with (first | (go_at_call 143; refine (kindOf_ways t.n _).1.mono ?_; rintro e w1 ⟨rfl, hx1⟩) | fail)
      have HX1 := Lib.hid (show Ext wr w1 from ((Ext.refl wr).alloc _).trans' hx1)
      have HP1 := Lib.hid (HPB.out.next HX1.out)
      have HQ1 := Lib.hid (HQB.out.ext HX1.out)
      have HR1 := Lib.hid (HRB.out.ext HX1.out)
      have c1 := HP1.out.blk.cell 1
      have cl := HP1.out.blk.lt
      have hbw := HP1.out.lo.2.2
      refine wp_region_noPanic ?_
      refine wp_region_held_drew (S := (fun w' => True ∧ True)) (by kernel_rfl) ?_ (fun hHeld => ?_)
      · (try dsimp only); (first | exact ⟨trivial, trivial⟩)
      refine tk 0 (v := ?_) rfl ?_ ?_
      rotate_left
      · (intro w hSw; (try dsimp only at hSw); go_simp) <;> with_reducible rfl
      try simp only [Act.put, stz]
      refine tk 2 (v := ?_) rfl ?_ ?_
      rotate_left
      · (intro w hSw; (try dsimp only at hSw); go_simp) <;> with_reducible rfl
      try simp only [Act.put, stz]
      refine wpAnyH_ready (rs := [1, 3]) (by kernel_rfl) (by simp) ?_
      refine AllReadyH.cons (o := _) rfl (fun K hK => ?_) ?_
      · go_simp
        refine hK.out _ _ ?_ (fun hNew => ?_)
        · (try dsimp only); (first | exact ⟨trivial, trivial⟩)
        clear hK K hHeld
        have hHeld := hNew
        clear hNew
        try simp only [Act.put, stz]
        refine wpAnyH_ready (rs := [3]) (by kernel_rfl) (by simp) ?_
        refine AllReadyH.cons (o := _) rfl (fun K hK => ?_) ?_
        · go_simp
          go_at_call 174; refine (wordText_any t.n _).mono ?_; rintro e w4 ⟨rfl, rfl⟩
          refine hK.out _ _ ?_ (fun hNew => ?_)
          · (try dsimp only); (first | exact ⟨trivial, trivial⟩)
          clear hK K hHeld
          have hHeld := hNew
          clear hNew
          try simp only [Act.put, stz]
          refine tk 4 (v := ?_) rfl ?_ ?_
          rotate_left
          · (intro w hSw; (try dsimp only at hSw); go_simp) <;> with_reducible rfl
          try simp only [Act.put, stz]
          refine wpAnyH_ready (rs := [5]) (by kernel_rfl) (by simp) ?_
          refine AllReadyH.cons (o := _) rfl (fun K hK => ?_) ?_
          · go_simp
            refine hK.out _ _ ?_ (fun hNew => ?_)
            · (try dsimp only); (first | exact ⟨trivial, trivial⟩)
            clear hK K hHeld
            have hHeld := hNew
            clear hNew
            try simp only [Act.put, stz]
            refine wpAnyH_ready (rs := [6]) (by kernel_rfl) (by simp) ?_
            refine AllReadyH.cons (o := _) rfl (fun K hK => ?_) ?_
            · refine step_appL (o := ⟨some 51, _, _, _, _, _⟩) (k := kSlot) (S := None) (T := None) (base := w.heap.size + 1 + 1 + 1 + 1) (xs := (a.args.take k).map (slotOf vs)) (ys := [slotOf vs t]) (by rfl) (.tmp 46) (.tmp 50) 182 (by rfl) i0 _ 24 Tryz.underlying182 hi0 hz0 hz1 hz2 (by rfl) (by rfl) ((HP1.out.own.ext (Ext.refl _).drew).alloc _) _ 1 1 (by rfl) (ElemsK.one (k := kSlot) (x := slotOf vs t) (l := [.int .i64 (-1), .string t.n]) (Blk.new _ _ _) (by rw [HSL.out]; exact ⟨rfl, htn⟩)) (fun _ h => h.elim) (maxOf (by rw [HLN.out]; simp; omega)) (by rw [HLN.out]; omega) (by go_size) ?_
              intro v6 w6 hap
              obtain ⟨A6, c6, rfl, _, _⟩ := hap.own.form
              have e1 := (hap.blk ((HP1.out.blk.ext (Ext.refl _).drew).alloc _) (by omega)).cell 1
              have e2 := (hap.blk ((HP1.out.blk.ext (Ext.refl _).drew).alloc _) (by omega)).frozen 1
              have e3 := (hap.blk ((HP1.out.blk.ext (Ext.refl _).drew).alloc _) (by omega)).lt
              have HAP := Lib.hid hap
              clear hap
              refine hK.out _ _ ?_ (fun hNew => ?_)
              · (try dsimp only); (first | exact ⟨trivial, trivial⟩)
              clear hK K hHeld
              have hHeld := hNew
              clear hNew
              try simp only [Act.put, stz]
              refine tk 7 (v := ?_) rfl ?_ ?_
              rotate_left
              · (intro w hSw; (try dsimp only at hSw); go_simp) <;> with_reducible rfl
              try simp only [Act.put, stz]
              refine wpAnyH_ready (rs := [8]) (by kernel_rfl) (by simp) ?_
              refine AllReadyH.cons (o := _) rfl (fun K hK => ?_) ?_
              · go_simp
                refine hK.out _ _ ?_ (fun hNew => ?_)
                · (try dsimp only); (first | exact ⟨trivial, trivial⟩)
                clear hK K hHeld
                have hHeld := hNew
                clear hNew
                try simp only [Act.put, stz]
                refine wpAnyH_done (by kernel_rfl) ?_ _
                refine NoPanic.normal ?_
                go_wp2
                have h6 := HAP.out
                have hlen : ((a.args.take k).map (slotOf vs) ++ [slotOf vs t]).length = k + 1 := by rw [List.length_append, HLN.out]; rfl
                rw [hlen] at h6
                have H6 := Lib.hid h6
                clear h6 hlen HAP
                go_roundw
                case rel =>
                 refine ⟨k + 1, .slice A6 (k + 1) c6, by omega, by go_num, Lib.hid ⟨?_, ?_, ?_⟩⟩
                 · rw [HST.out]; exact (HP1.out.next ((Ext.refl _).drew.alloc _)).app H6.out
                 · exact (H6.out.blk ((HQ1.out.ext (Ext.refl _).drew).alloc _) (by omega)).far (by show w.heap.size ≠ w.heap.size + 1 + 1 + 1; omega) _
                 · exact (H6.out.blk ((HR1.out.ext (Ext.refl _).drew).alloc _) (by omega)).far (by show w.heap.size + 1 + 1 ≠ w.heap.size + 1 + 1 + 1; omega) _
                case measure => simp [intOf]; omega
              exact AllReadyH.nil
            exact AllReadyH.nil
          exact AllReadyH.nil
        exact AllReadyH.nil
      refine AllReadyH.cons (o := _) rfl (fun K hK => ?_) ?_
      · go_simp
        go_at_call 174; refine (wordText_any t.n _).mono ?_; rintro e w4 ⟨rfl, rfl⟩
        refine hK.out _ _ ?_ (fun hNew => ?_)
        · (try dsimp only); (first | exact ⟨trivial, trivial⟩)
        clear hK K hHeld
        have hHeld := hNew
        clear hNew
        try simp only [Act.put, stz]
        refine tk 4 (v := ?_) rfl ?_ ?_
        rotate_left
        · (intro w hSw; (try dsimp only at hSw); go_simp) <;> with_reducible rfl
        try simp only [Act.put, stz]
        refine wpAnyH_ready (rs := [1, 5]) (by kernel_rfl) (by simp) ?_
        refine AllReadyH.cons (o := _) rfl (fun K hK => ?_) ?_
        · go_simp
          refine hK.out _ _ ?_ (fun hNew => ?_)
          · (try dsimp only); (first | exact ⟨trivial, trivial⟩)
          clear hK K hHeld
          have hHeld := hNew
          clear hNew
          try simp only [Act.put, stz]
          refine wpAnyH_ready (rs := [5]) (by kernel_rfl) (by simp) ?_
          refine AllReadyH.cons (o := _) rfl (fun K hK => ?_) ?_
          · go_simp
            refine hK.out _ _ ?_ (fun hNew => ?_)
            · (try dsimp only); (first | exact ⟨trivial, trivial⟩)
            clear hK K hHeld
            have hHeld := hNew
            clear hNew
            try simp only [Act.put, stz]
            refine wpAnyH_ready (rs := [6]) (by kernel_rfl) (by simp) ?_
            refine AllReadyH.cons (o := _) rfl (fun K hK => ?_) ?_
            · refine step_appL (o := ⟨some 51, _, _, _, _, _⟩) (k := kSlot) (S := None) (T := None) (base := w.heap.size + 1 + 1 + 1 + 1) (xs := (a.args.take k).map (slotOf vs)) (ys := [slotOf vs t]) (by rfl) (.tmp 46) (.tmp 50) 182 (by rfl) i0 _ 24 Tryz.underlying182 hi0 hz0 hz1 hz2 (by rfl) (by rfl) ((HP1.out.own.ext (Ext.refl _).drew).alloc _) _ 1 1 (by rfl) (ElemsK.one (k := kSlot) (x := slotOf vs t) (l := [.int .i64 (-1), .string t.n]) (Blk.new _ _ _) (by rw [HSL.out]; exact ⟨rfl, htn⟩)) (fun _ h => h.elim) (maxOf (by rw [HLN.out]; simp; omega)) (by rw [HLN.out]; omega) (by go_size) ?_
              intro v6 w6 hap
              obtain ⟨A6, c6, rfl, _, _⟩ := hap.own.form
              have e1 := (hap.blk ((HP1.out.blk.ext (Ext.refl _).drew).alloc _) (by omega)).cell 1
              have e2 := (hap.blk ((HP1.out.blk.ext (Ext.refl _).drew).alloc _) (by omega)).frozen 1
              have e3 := (hap.blk ((HP1.out.blk.ext (Ext.refl _).drew).alloc _) (by omega)).lt
              have HAP := Lib.hid hap
              clear hap
              refine hK.out _ _ ?_ (fun hNew => ?_)
              · (try dsimp only); (first | exact ⟨trivial, trivial⟩)
              clear hK K hHeld
              have hHeld := hNew
              clear hNew
              try simp only [Act.put, stz]
              refine tk 7 (v := ?_) rfl ?_ ?_
              rotate_left
              · (intro w hSw; (try dsimp only at hSw); go_simp) <;> with_reducible rfl
              try simp only [Act.put, stz]
              refine wpAnyH_ready (rs := [8]) (by kernel_rfl) (by simp) ?_
              refine AllReadyH.cons (o := _) rfl (fun K hK => ?_) ?_
              · go_simp
                refine hK.out _ _ ?_ (fun hNew => ?_)
                · (try dsimp only); (first | exact ⟨trivial, trivial⟩)
                clear hK K hHeld
                have hHeld := hNew
                clear hNew
                try simp only [Act.put, stz]
                refine wpAnyH_done (by kernel_rfl) ?_ _
                refine NoPanic.normal ?_
                go_wp2
                have h6 := HAP.out
                have hlen : ((a.args.take k).map (slotOf vs) ++ [slotOf vs t]).length = k + 1 := by rw [List.length_append, HLN.out]; rfl
                rw [hlen] at h6
                have H6 := Lib.hid h6
                clear h6 hlen HAP
                go_roundw
                case rel =>
                 refine ⟨k + 1, .slice A6 (k + 1) c6, by omega, by go_num, Lib.hid ⟨?_, ?_, ?_⟩⟩
                 · rw [HST.out]; exact (HP1.out.next ((Ext.refl _).drew.alloc _)).app H6.out
                 · exact (H6.out.blk ((HQ1.out.ext (Ext.refl _).drew).alloc _) (by omega)).far (by show w.heap.size ≠ w.heap.size + 1 + 1 + 1; omega) _
                 · exact (H6.out.blk ((HR1.out.ext (Ext.refl _).drew).alloc _) (by omega)).far (by show w.heap.size + 1 + 1 ≠ w.heap.size + 1 + 1 + 1; omega) _
                case measure => simp [intOf]; omega
              exact AllReadyH.nil
            exact AllReadyH.nil
          exact AllReadyH.nil
        refine AllReadyH.cons (o := _) rfl (fun K hK => ?_) ?_
        · go_simp
          refine hK.out _ _ ?_ (fun hNew => ?_)
          · (try dsimp only); (first | exact ⟨trivial, trivial⟩)
          clear hK K hHeld
          have hHeld := hNew
          clear hNew
          try simp only [Act.put, stz]
          refine wpAnyH_ready (rs := [1]) (by kernel_rfl) (by simp) ?_
          refine AllReadyH.cons (o := _) rfl (fun K hK => ?_) ?_
          · go_simp
            refine hK.out _ _ ?_ (fun hNew => ?_)
            · (try dsimp only); (first | exact ⟨trivial, trivial⟩)
            clear hK K hHeld
            have hHeld := hNew
            clear hNew
            try simp only [Act.put, stz]
            refine wpAnyH_ready (rs := [6]) (by kernel_rfl) (by simp) ?_
            refine AllReadyH.cons (o := _) rfl (fun K hK => ?_) ?_
            · refine step_appL (o := ⟨some 51, _, _, _, _, _⟩) (k := kSlot) (S := None) (T := None) (base := w.heap.size + 1 + 1 + 1 + 1) (xs := (a.args.take k).map (slotOf vs)) (ys := [slotOf vs t]) (by rfl) (.tmp 46) (.tmp 50) 182 (by rfl) i0 _ 24 Tryz.underlying182 hi0 hz0 hz1 hz2 (by rfl) (by rfl) ((HP1.out.own.ext (Ext.refl _).drew).alloc _) _ 1 1 (by rfl) (ElemsK.one (k := kSlot) (x := slotOf vs t) (l := [.int .i64 (-1), .string t.n]) (Blk.new _ _ _) (by rw [HSL.out]; exact ⟨rfl, htn⟩)) (fun _ h => h.elim) (maxOf (by rw [HLN.out]; simp; omega)) (by rw [HLN.out]; omega) (by go_size) ?_
              intro v6 w6 hap
              obtain ⟨A6, c6, rfl, _, _⟩ := hap.own.form
              have e1 := (hap.blk ((HP1.out.blk.ext (Ext.refl _).drew).alloc _) (by omega)).cell 1
              have e2 := (hap.blk ((HP1.out.blk.ext (Ext.refl _).drew).alloc _) (by omega)).frozen 1
              have e3 := (hap.blk ((HP1.out.blk.ext (Ext.refl _).drew).alloc _) (by omega)).lt
              have HAP := Lib.hid hap
              clear hap
              refine hK.out _ _ ?_ (fun hNew => ?_)
              · (try dsimp only); (first | exact ⟨trivial, trivial⟩)
              clear hK K hHeld
              have hHeld := hNew
              clear hNew
              try simp only [Act.put, stz]
              refine tk 7 (v := ?_) rfl ?_ ?_
              rotate_left
              · (intro w hSw; (try dsimp only at hSw); go_simp) <;> with_reducible rfl
              try simp only [Act.put, stz]
              refine wpAnyH_ready (rs := [8]) (by kernel_rfl) (by simp) ?_
              refine AllReadyH.cons (o := _) rfl (fun K hK => ?_) ?_
              · go_simp
                refine hK.out _ _ ?_ (fun hNew => ?_)
                · (try dsimp only); (first | exact ⟨trivial, trivial⟩)
                clear hK K hHeld
                have hHeld := hNew
                clear hNew
                try simp only [Act.put, stz]
                refine wpAnyH_done (by kernel_rfl) ?_ _
                refine NoPanic.normal ?_
                go_wp2
                have h6 := HAP.out
                have hlen : ((a.args.take k).map (slotOf vs) ++ [slotOf vs t]).length = k + 1 := by rw [List.length_append, HLN.out]; rfl
                rw [hlen] at h6
                have H6 := Lib.hid h6
                clear h6 hlen HAP
                go_roundw
                case rel =>
                 refine ⟨k + 1, .slice A6 (k + 1) c6, by omega, by go_num, Lib.hid ⟨?_, ?_, ?_⟩⟩
                 · rw [HST.out]; exact (HP1.out.next ((Ext.refl _).drew.alloc _)).app H6.out
                 · exact (H6.out.blk ((HQ1.out.ext (Ext.refl _).drew).alloc _) (by omega)).far (by show w.heap.size ≠ w.heap.size + 1 + 1 + 1; omega) _
                 · exact (H6.out.blk ((HR1.out.ext (Ext.refl _).drew).alloc _) (by omega)).far (by show w.heap.size + 1 + 1 ≠ w.heap.size + 1 + 1 + 1; omega) _
                case measure => simp [intOf]; omega
              exact AllReadyH.nil
            exact AllReadyH.nil
          exact AllReadyH.nil
        exact AllReadyH.nil
      exact AllReadyH.nil
  · have b0 := hrb
    have c0 := hpb.blk.cell 0
    have c1 := hpb.blk.cell 1
    have hbl := hpb.blk.lt
    have d0 := hrb.cell 0
    have d1 := hrb.cell 1
    have f0 := hrb.frozen 0
    have f1 := hrb.frozen 1
    have hrl' := hrb.lt
    have e0 : a.args.take k = a.args := List.take_of_length_le (by omega)
    rw [e0] at hpb
    have HPB := Lib.hid hpb
    have HRB := Lib.hid hrb
    clear hpb hrb hqb hrl b0 e0
    go_wp2
    refine bodyPost_ret (v := .agg #[.string a.n, .slice VA vn vc]) (by simp [results, Tryz.results146, go_sem, d0, d1]) rfl ⟨⟨_, rfl, ?_⟩, ?_⟩
    · have h1 : SlotsR (From (w.heap.size + 1 + 1 + 1 + 1)) wr (.slice VA vn vc) (a.args.map (slotOf vs)) := HPB.out.own.list (S' := From (w.heap.size + 1 + 1 + 1 + 1)) (fun _ h => h.elim) (fun _ h => h)
      exact SlotsR.impL h1 (fun b hb _ => Nat.le_trans (by omega) hb) (((Agree.refl _ _).setCell (notFrom (by show w.heap.size + 1 + 1 < _; omega)) _).setCell (notFrom (by show w.heap.size + 1 + 1 < _; omega)) _) (by go_size)
    · exact Ext.setNew (a := w) (Ext.setNew HPB.out.ext (by show _ ≤ w.heap.size + 1 + 1; omega) _) (by show _ ≤ w.heap.size + 1 + 1; omega) _

end Go.Proofs.YtfjdijakgjhieaaGreat

namespace Go.Proofs.YtfjdijakgjhieaaGreat
set_option linter.unusedSimpArgs false
set_option linter.unusedVariables false
open Go.RowKit
open Go.ChangeMaps (setBlock heap_setBlock_same heap_setBlock_other)

def nilS : Value := .slice none 0 0
def idR (v : Value) : Option (DataW Value × List MemPlace) := some (.held v, [])
theorem wkRow : (221 : TypeId) < Tryz.prog.types.size := of_decide_eq_true (by kernel_rfl)
theorem wkWide : (match Tryz.prog.underlying 221 with | some (.array _ _) | some (.struct _) => true | _ => false) = true := by kernel_rfl
theorem wkLaid : laidOutB Tryz.prog = true := by kernel_rfl
set_option maxRecDepth 100000 in
theorem wkLaw : WideMaps.KeyLaw Tryz.prog 221 := deep_law_laid wkLaid (m := 3) (by omega) wkRow (by kernel_rfl) wkWide
theorem wkKeyed : Go.Maps.Keyed Tryz.prog 221 := Go.Maps.Keyed.of_law wkLaw
theorem wkZero (w : World) : (zeroValue 122).run Tryz.prog w = .ok nilS w := by kernel_rfl
/-- A key: name, how many terms, a place (or -1), a word. -/
def wkey (n : ByteArray) (size : Nat) (at_ : Int) (s : ByteArray) : Value := .agg #[.string n, .int .i64 (size : Int), .int .i64 at_, .string s]
theorem wk_type : Tryz.prog.keyType 221 = true := by kernel_rfl
theorem wk_cells : Tryz.prog.cellsOf 221 = 4 ∧ Tryz.prog.cellsOf 9 = 1 ∧ Tryz.prog.cellsOf 3 = 1 := ⟨by kernel_rfl, by kernel_rfl, by kernel_rfl⟩
theorem wk_depth : ∃ d, Tryz.prog.types.size + 1 = d + 1 + 1 := by
 have h : (221 : Nat) < Tryz.prog.types.size := wkRow
 exact ⟨Tryz.prog.types.size - 1, by omega⟩
theorem wk_gen {P : Program} {k ts ti : TypeId} {f0 f1 f2 f3 : Field} (hk : P.underlying k = some (.struct #[f0, f1, f2, f3])) (hs : P.underlying ts = some .string) (hi : P.underlying ti = some (.int .i64))
 (t0 : f0.type = ts ∧ f0.offset = 0 ∧ (f0.name != "_") = true) (t1 : f1.type = ti ∧ f1.offset = 1 ∧ (f1.name != "_") = true) (t2 : f2.type = ti ∧ f2.offset = 2 ∧ (f2.name != "_") = true) (t3 : f3.type = ts ∧ f3.offset = 3 ∧ (f3.name != "_") = true)
 (hkt : P.keyType k = true) (c4 : P.cellsOf k = 4) (c1 : P.cellsOf ts = 1) (c2 : P.cellsOf ti = 1) {d : Nat} (hd : P.types.size + 1 = d + 1 + 1)
 {n s : ByteArray} {a b : Int} (hn : n.size ≤ maxLen) (hss : s.size ≤ maxLen) (h1 : (Lit.int .i64 a).wf = true) (h2 : (Lit.int .i64 b).wf = true) : ∃ kl, keyOf P k (.agg #[.string n, .int .i64 a, .int .i64 b, .string s]) = some kl := by
 obtain ⟨q0, r0, n0⟩ := t0
 obtain ⟨q1, r1, n1⟩ := t1
 obtain ⟨q2, r2, n2⟩ := t2
 obtain ⟨q3, r3, n3⟩ := t3
 have hd' : P.types.size = d + 1 := by omega
 unfold keyOf
 simp only [bne_iff_ne, ne_eq] at n0 n1 n2 n3
 simp [hk, hkt, Value.formed, c4, hd', Program.keyLits, hs, hi, c1, c2, hn, hss, h1, h2, q0, q1, q2, q3, r0, r1, r2, r3, n0, n1, n2, n3, Value.cells]
theorem wkey_lit {n s : ByteArray} {size : Nat} {at_ : Int} (hn : n.size ≤ maxLen) (hs : s.size ≤ maxLen) (hz : size ≤ 1000000) (ha1 : -1 ≤ at_) (ha2 : at_ ≤ 1000000) : ∃ kl, keyOf Tryz.prog 221 (wkey n size at_ s) = some kl := by
 obtain ⟨d, hd⟩ := wk_depth
 obtain ⟨c1, c2, c3⟩ := wk_cells
 exact wk_gen Tryz.underlying221 Tryz.underlying9 Tryz.underlying3 ⟨rfl, rfl, by decide⟩ ⟨rfl, rfl, by decide⟩ ⟨rfl, rfl, by decide⟩ ⟨rfl, rfl, by decide⟩ wk_type c1 c2 c3 hd hn hs (WalkArith.wf_i64 (by omega)) (WalkArith.wf_i64 (by omega))

/-- A map of at most n keys that reads as f. -/
def MapV (w : World) (B n : Nat) (f : Value → Value) : Prop :=
 ∃ D : DataW Value, w.ownsMap Tryz.prog 221 idR B n D ∧ ∀ key kl, keyOf Tryz.prog 221 key = some kl → D.atKey kl (.held nilS) = .held (f key)
section
variable {w w' : World} {B n : Nat} {f : Value → Value}
theorem MapV.made (w : World) : MapV (w.alloc (.map #[] 0)) w.heap.size 0 (fun _ => nilS) := ⟨.map [], World.ownsMap_made _ _ _ _, fun _ _ _ => rfl⟩
theorem MapV.lt (h : MapV w B n f) : B < w.heap.size := by obtain ⟨D, h1, _⟩ := h; exact h1.lt
theorem MapV.mono (h : MapV w B n f) {m : Nat} (hm : n ≤ m) : MapV w B m f := by obtain ⟨D, h1, h2⟩ := h; exact ⟨D, h1.mono hm, h2⟩
theorem MapV.same (h : MapV w B n f) (hx : w'.heap[B]? = w.heap[B]?) : MapV w' B n f := by
 obtain ⟨D, ⟨es, clock, hb, r⟩, h2⟩ := h; exact ⟨D, ⟨es, clock, hx.trans hb, r⟩, h2⟩
theorem MapV.kept {row : Option Nat} (h : MapV w B n f) (hg : w.grownBy w' row) (hne : some B ≠ row) : MapV w' B n f := h.same (hg.block B h.lt hne)
theorem MapV.ext (h : MapV w B n f) (hx : Ext w w') : MapV w' B n f := h.same (hx.block B h.lt)
theorem MapV.inside {S : Nat → Prop} (h : MapV w B n f) (hx : Inside S w w') (hS : ¬ S B) : MapV w' B n f := h.same (hx.block B h.lt hS)
theorem MapV.set (h : MapV w B n f) {p : Addr} (hp : B ≠ p.block) (u : Value) : MapV (w.setCell p u) B n f := h.same (Below.heap_setCell w p u B hp)
set_option maxRecDepth 100000 in
theorem MapV.look (h : MapV w B n f) {key : Value} {kl : Lit} (hkey : keyOf Tryz.prog 221 key = some kl) : (Instr.lookup 186 (.map (some B)) key false).run Tryz.prog w = .ok (f key) w := by
 obtain ⟨D, h1, h2⟩ := h
 obtain ⟨v, ps, hr, hv⟩ := h1.lookup wkKeyed Tryz.underlying186 (wkZero w) (zd := .held nilS) (zp := []) rfl hkey
 rw [h2 key kl hkey] at hv
 unfold idR at hv
 injection hv with hv
 injection hv with hv _
 injection hv with hv
 rw [hr, hv]
set_option maxRecDepth 100000 in
theorem MapV.entry (h : MapV w B n f) (hn : n < maxLen) {key : Value} {kl : Lit} (hkey : keyOf Tryz.prog 221 key = some kl) :
 ∃ (st : Nat) (w1 : World), (Instr.mapEntry 186 (.map (some B)) key).run Tryz.prog w = .ok (.tuple #[f key, .int .i64 (st : Int)]) w1 ∧ w.grownBy w1 (some B) ∧ w1.heap.size = w.heap.size ∧
   ∀ (w2 : World) (val : Value), w2.heap[B]? = w1.heap[B]? → ∃ w3, (Instr.entryStore 186 (.map (some B)) (.int .i64 (st : Int)) val).run Tryz.prog w2 = .ok () w3 ∧ (∃ f', f' key = val ∧ (∀ k, k ≠ key → f' k = f k) ∧ MapV w3 B (n + 1) f') ∧ w2.grownBy w3 (some B) ∧ w3.heap.size = w2.heap.size := by
 have hl := h.look hkey
 obtain ⟨D, h1, h2⟩ := h
 obtain ⟨es, clock, hb, F, hs, hD⟩ := id h1
 obtain ⟨v0, st, es1, clock1, hr, hv, hst⟩ := WideElems.entry_then_store (R := idR) wkLaw Tryz.underlying186 (fun u => wkZero u) hb F hkey
 have hg : ∀ (u : World) (o : Obj) (es0 : Array MapEntry) (c0 : Nat), u.heap[B]? = some (.map es0 c0) → (u.grownBy (setBlock u B o) (some B) ∧ (setBlock u B o).heap.size = u.heap.size) := fun u o es0 c0 hu =>
  ⟨⟨rfl, rfl, rfl, by simp [setBlock], fun i _ hi => heap_setBlock_other hu _ (fun e => hi (by rw [e]))⟩, by simp [setBlock]⟩
 have hv0 : v0 = f key := by
  rcases Maps.fit_look false wkKeyed Tryz.underlying186 (wkZero w) hb F hkey with ⟨k1, k2, _⟩ | ⟨e0, y, k1, k2, k3, _⟩
  · rw [hl] at k1
    injection k1 with k1 _
    rcases hv with ⟨e1, g1, g2, _⟩ | ⟨_, g⟩
    · exact absurd g2 (k2 e1 g1)
    · rw [g]; exact k1.symm
  · rw [hl] at k3
    injection k3 with k3 _
    rcases hv with ⟨e1, g1, g2, g3⟩ | ⟨g, _⟩
    · -- one entry alone bears the key
      have he : e1 = e0 := by
       apply Classical.byContradiction
       intro he
       obtain ⟨i, hi⟩ := List.getElem?_of_mem g1
       obtain ⟨j, hj⟩ := List.getElem?_of_mem k1
       have hp := Maps.fit_apart wkKeyed F
       rw [List.pairwise_map] at hp
       have hij : i ≠ j := fun e => he (by rw [e, hj] at hi; injection hi with hi; exact hi.symm)
       obtain ⟨y1, hy1⟩ := F.reads e1 g1
       obtain ⟨y0, hy0⟩ := F.reads e0 k1
       have hk1 := WideElems.rd_key hy1
       have hk0 := WideElems.rd_key hy0
       rw [g2, ← k2] at hk1
       have hyy : y1.1 = y0.1 := by rw [hk1] at hk0; injection hk0
       rcases Nat.lt_or_gt_of_ne hij with h | h
       · have := List.pairwise_iff_getElem.1 hp i j (List.getElem?_eq_some_iff.1 hi).1 (List.getElem?_eq_some_iff.1 hj).1 h
         rw [(List.getElem?_eq_some_iff.1 hi).2, (List.getElem?_eq_some_iff.1 hj).2, WideElems.rg_of hy1, WideElems.rg_of hy0] at this
         exact this hyy
       · have := List.pairwise_iff_getElem.1 hp j i (List.getElem?_eq_some_iff.1 hj).1 (List.getElem?_eq_some_iff.1 hi).1 h
         rw [(List.getElem?_eq_some_iff.1 hi).2, (List.getElem?_eq_some_iff.1 hj).2, WideElems.rg_of hy1, WideElems.rg_of hy0] at this
         exact this hyy.symm
      rw [g3, he]; exact k3.symm
    · exact absurd k2 (g e0 k1)
 refine ⟨st, _, by rw [hr, hv0]; rfl, (hg w _ _ _ hb).1, (hg w _ _ _ hb).2, fun w2 val hw2 => ?_⟩
 rw [heap_setBlock_same hb] at hw2
 obtain ⟨es', clock', r1, r2⟩ := hst w2 val hw2
 obtain ⟨w4, r3, r4, r5⟩ := h1.update wkKeyed Tryz.underlying186 hn (val := val) (d := .held val) (ps := []) hkey rfl
 rw [r2] at r3
 injection r3 with _ r3
 subst r3
 classical
 refine ⟨_, r1, ⟨fun k => if k = key then val else f k, if_pos rfl, fun k hk => if_neg hk, D.put kl (.held val), ?_, fun k l hk => ?_⟩, (hg w2 _ _ _ hw2).1, (hg w2 _ _ _ hw2).2⟩
 · obtain ⟨es3, clock3, q1, q2, q3, q4⟩ := r4
   rw [heap_setBlock_same hb] at q1
   injection q1 with q1
   injection q1 with q1 q5
   subst q1; subst q5
   exact ⟨_, _, heap_setBlock_same hw2 _, q2, q3, q4⟩
 · by_cases e : k = key
   · subst e
     rw [hk] at hkey
     injection hkey with hkey
     subst hkey
     rw [Maps.atKey_put_same h1.isMap (wkKeyed.key hk)]
     show _ = DataW.held (if k = k then val else f k)
     rw [if_pos rfl]
   · have hne : l ≠ kl := fun e2 => e (wkKeyed.inj hk (by rw [e2]; exact hkey))
     rw [Maps.atKey_put_other hne]
     show _ = DataW.held (if k = key then val else f k)
     rw [if_neg e]
     exact h2 k l hk
end
set_option maxRecDepth 100000 in
theorem MapN.look_ok {w : World} {B n : Nat} {f : ByteArray → Option Nat} (h : MapN w B n f) {s : ByteArray} (hs : s.size ≤ maxLen) : (Instr.lookup 187 (.map (some B)) (.string s) true).run Tryz.prog w = .ok (.tuple #[.int .i64 (((f s).getD 0 : Nat) : Int), .bool (f s).isSome]) w := by
 obtain ⟨D, h1, h2, h3⟩ := h
 obtain ⟨v, ps, hr, hv⟩ := h1.look_ok keyLaw Tryz.underlying187 (zeroInt w) (plainElem_int Tryz.underlying3 (by decide)) (Go.WideMaps.keyOf_string_mk Tryz.underlying9 hs)
 rw [(h3 s).2] at hv
 obtain ⟨c, rfl, hc, _⟩ := plainElem_int_inv Tryz.underlying3 hv
 simp only [Prod.mk.injEq] at hc
 have hc1 := hc.1
 injection hc1 with hc1
 injection hc1 with _ hc1
 rw [hr, (h3 s).1, hc1]

end Go.Proofs.YtfjdijakgjhieaaGreat
