/- Part of the texts of a proof; what they say stands at each theorem. -/
import Derived.Test.YtmihponoillihaaGreatDoorBas24
import Derived.Test.YtmihponoillihaaGreatDoorBas25
set_option linter.unusedSimpArgs false
set_option linter.unusedVariables false
namespace Go.Proofs.YtmihponoillihaaGreatDoor
open Go.RowKit
theorem logPut_len (t : Int) (g : GC) : (logPutL t g).length ≤ (changeL g).length + 30 := by
 unfold logPutL
 split
 · rename_i h
   simp only [Bool.and_eq_true] at h; have ht : 0 ≤ t ∧ t ≤ 100000 := of_decide_eq_true h.2; have h1 := dec_len t.toNat (by omega); have h2 := sumI_bd (logHead t (changeL g)); have h3 := dec_len (sumI (logHead t (changeL g))).toNat (by omega); unfold logLine; rw [List.length_append, List.length_append]
   have h4 : (logHead t (changeL g)).length = (Lib.decDigits t.toNat).length + 1 + (changeL g).length := by unfold logHead; rw [List.length_append, List.length_append]; rfl
   simp only [List.length_cons, List.length_nil]; omega
 simp
set_option maxRecDepth 100000 in
set_option maxHeartbeats 8000000 in
theorem l10Log_any (rb m : Nat) (w : World) (hr : Rd w rb m) (hp : m + 2700 ≤ 1000000) :
 Calls Tryz.prog 31 #[.pointer (some ⟨rb, 0, none⟩)] w fun e w' =>
  (∃ s : ByteArray, e = .returned (.string s) ∧ s.size ≤ 210000) ∧ Rd w' rb (m + 2700) ∧ Else rb w w' := by
 have hrl := hr.lt; have HR := Lib.hid hr; clear hr; go_enter Tryz.func31, Tryz.ntmps31
 go_wp2_with fail
 refine (l10Base_any rb m _ HR.out (by omega)).mono ?_; rintro e w2 ⟨⟨v2, B, rfl, hb2, hk2⟩, hr2, he2⟩; obtain ⟨A1, c1, A2, c2, A3, c3, rfl⟩ := hb2.form
 have HH : Hid (ChangesR (From w.heap.size) w2 (.slice A3 B.hist.length c3) B.hist) := Lib.hid (by
  obtain ⟨a, b, c, h1, _, _, h4⟩ := hb2
  injection h1 with h1
  simp only [Array.mk.injEq, List.cons.injEq] at h1
  rw [h1.2.2.2.1]; exact h4)
 have HS := Lib.hid (fun (c : GC) (hc : c ∈ B.hist) => hk2.text hc); have hhl : B.hist.length ≤ 30 := hk2.hist.1; have HR2 := Lib.hid hr2; have HE2 := Lib.hid he2; have hw2 : w.heap.size ≤ w2.heap.size := he2.size; clear hb2 hk2 hr2 he2 HR
 go_wp2_with fail
 obtain ⟨W3, hW3⟩ : ∃ W3, W3 = w2.alloc (.cells #[.slice A1 B.rules.length c1, .int .i64 B.time, .slice A2 B.given.length c2, .slice A3 B.hist.length c3] 45) := ⟨_, rfl⟩
 have hx3 : Ext w2 W3 := by rw [hW3]; exact (Ext.refl _).alloc _
 have HB3 := Lib.hid (show Blk W3 w2.heap.size 45 #[.slice A1 B.rules.length c1, .int .i64 B.time, .slice A2 B.given.length c2, .slice A3 B.hist.length c3] from by rw [hW3]; exact Blk.new _ _ _); have HX3 := Lib.hid hx3; rw [← hW3]; clear hW3 hx3
 go_loopw [3, 5] (fun o i wr => ∃ (k : Nat) (s : ByteArray), o = .string s ∧ i = .int .i64 k ∧ k ≤ B.hist.length ∧ s.size ≤ 6750 * k ∧ Hid (Ext W3 wr)) (fun _ i _ => B.hist.length - (intOf i).toNat)
 case atStart => exact ⟨0, ⟨#[]⟩, rfl, rfl, Nat.zero_le _, Nat.zero_le _, Lib.hid (Ext.refl _)⟩
 case round =>
  obtain ⟨k, s, rfl, rfl, hk, hs, hx⟩ := hrel; have hb := HB3.out.ext hx.out; have p1 := hb.cell 1; have p3 := hb.cell 3; have pl := hb.lt
  have hk0 : (0 : Int) ≤ (k : Int) := (by omega)
  have hstop : ∀ (o : ByteArray) (wx : World), True := fun _ _ => trivial
  clear hstop
  by_cases hlt : k < B.hist.length
  · have hk1 : (k : Int) < (B.hist.length : Int) := by omega
    by_cases htm : B.time = (B.hist.length : Int)
    · have ht1 : ((B.time == ((B.hist.length : Nat) : Int)) : Bool) = true := by rw [beq_iff_eq]; exact htm
      obtain ⟨b, off, x, v1, u1, rfl, hbb, hxk, hv1, hu1, hc0, hc1⟩ := ChangesR.at_ (ListK.ext (k := kChange) HH.out (HX3.out.trans' hx.out)) hlt; obtain ⟨VA, va, rfl, _, _⟩ := SliceR.form hv1; obtain ⟨UA, ua, rfl, _, _⟩ := SliceR.form hu1
      have hlen : (logPutL (k : Int) x).length ≤ 6750 := by have h1 := logPut_len (k : Int) x; have h2 := HS.out x (List.mem_of_getElem? hxk); omega
      obtain ⟨y, hy⟩ : ∃ y, y = strOf (logPutL (k : Int) x) := ⟨_, rfl⟩
      have hys : y.size ≤ 6750 := by rw [hy, strOf_size]; exact hlen
      have HLP := Lib.hid (show Calls Tryz.prog 86 #[.int .i64 (k : Int), .agg #[.slice VA x.comes.length va, .slice UA x.goes.length ua]] wr fun e w' => e = .returned (.string y) ∧ Ext wr w' from by rw [hy]; exact specLogPut_any (k : Int) x _ _ wr hv1 hu1); have hm1 : (9223372036854775807 < s.size + y.size) = False := eq_false (by omega); clear hy hlen hxk hv1 hu1 htm
      go_wp2_with (first
       | (go_at_call 86; refine HLP.out.mono ?_; rintro e w5 ⟨rfl, hx5⟩)
       | fail)
      go_roundw
      case rel => exact ⟨k + 1, _, rfl, by go_num, by omega, by simp only [ByteArray.size_append]; omega, Lib.hid (hx.out.trans' hx5)⟩
      case measure => simp [intOf]; omega
    have ht1 : ((B.time == ((B.hist.length : Nat) : Int)) : Bool) = false := by rw [beq_eq_false_iff_ne]; exact htm
    clear htm
    go_wp2_with fail
    refine (rdPick_any rb (m + 2500) 8 _ (by omega) ((HR2.out.ext HX3.out).ext hx.out) (by omega)).mono ?_; rintro e w6 ⟨⟨z6, hz6, rfl⟩, hr6, he6⟩; have HE6 := Lib.hid ((HE2.out.trans' (.of_ext (HX3.out.trans' hx.out))).trans' he6); have HR6 := Lib.hid hr6; have HB6 := Lib.hid (hb.else_ he6 (by omega)); clear hr6 he6 p1 p3 pl hb; have p3 := HB6.out.cell 3; have pl := HB6.out.lt
    go_wp2_with fail
    · go_region_held3 (fun W' => W'.cell? ⟨w2.heap.size, 3, none⟩ = some (.slice A3 B.hist.length c3))
        (first | exact ((HB6.out.else_ HE8.out (by omega)).cell 3).trans rfl | exact ((HB6.out.else_ HE7.out (by omega)).cell 3).trans rfl | exact ((HB6.out.ext (Ext.refl w6).drew).cell 3).trans rfl)
        (first
         | (go_at_call 87; refine (l10Change_any rb (m + 2501) _ (HR6.out.ext (Ext.refl w6).drew) (by omega)).mono ?_; rintro e w7 ⟨⟨g, v7, u7, rfl, hv7, hu7, hl71, hl72, hs71, hs72⟩, hr7, he7⟩
            obtain ⟨P7, e7, rfl, _, _⟩ := SliceR.form hv7; obtain ⟨Q7, f7, rfl, _, _⟩ := SliceR.form hu7; have HE7 := Lib.hid ((Else.of_ext (rb := rb) (Ext.refl w6).drew).trans' he7); have HR7 := Lib.hid hr7
            have hlen : (logPutL (B.hist.length : Int) g).length ≤ 900 := by
             have h1 := logPut_len (B.hist.length : Int) g; have h2 := signedL_small 43 hs71; have h3 := signedL_small 45 hs72
             have h4 : (changeL g).length = (signedL 45 g.goes).length + (signedL 43 g.comes).length := by unfold changeL; rw [List.length_append]
             omega
            obtain ⟨y, hy⟩ : ∃ y, y = strOf (logPutL (B.hist.length : Int) g) := ⟨_, rfl⟩
            have hys : y.size ≤ 900 := (by rw [hy, strOf_size]; exact hlen)
            have HLP := Lib.hid (show Calls Tryz.prog 86 #[.int .i64 (B.hist.length : Int), .agg #[.slice P7 g.comes.length e7, .slice Q7 g.goes.length f7]] w7 fun e w' => e = .returned (.string y) ∧ Ext w7 w' from by rw [hy]; exact specLogPut_any (B.hist.length : Int) g _ _ w7 hv7 hu7); have hm1 : (9223372036854775807 < s.size + y.size) = False := eq_false (by omega)
            clear hy hlen hv7 hu7 hs71 hs72 hr7 he7)
         | (go_at_call 86; refine HLP.out.mono ?_; rintro e w8 ⟨rfl, hx8⟩
            have HE8 := Lib.hid (HE7.out.trans' (.of_ext hx8)); have HR8 := Lib.hid (HR7.out.ext hx8)
            clear hx8))
      all_goals go_wp2_with fail
      all_goals go_ret
      all_goals exact ⟨⟨_, rfl, by simp only [ByteArray.size_append]; omega⟩, HR8.out.le (by omega), HE6.out.trans' HE8.out⟩
    go_ret; exact ⟨⟨_, rfl, by omega⟩, HR6.out.le (by omega), HE6.out⟩
  have hk1 : ¬ (k : Int) < (B.hist.length : Int) := (by omega)
  go_wp2_with fail
  refine (rdPick_any rb (m + 2500) 8 _ (by omega) ((HR2.out.ext HX3.out).ext hx.out) (by omega)).mono ?_; rintro e w6 ⟨⟨z6, hz6, rfl⟩, hr6, he6⟩; have HE6 := Lib.hid ((HE2.out.trans' (.of_ext (HX3.out.trans' hx.out))).trans' he6); have HR6 := Lib.hid hr6; have HB6 := Lib.hid (hb.else_ he6 (by omega)); clear hr6 he6 p1 p3 pl hb; have p3 := HB6.out.cell 3; have pl := HB6.out.lt
  go_wp2_with fail
  · go_region_held3 (fun W' => W'.cell? ⟨w2.heap.size, 3, none⟩ = some (.slice A3 B.hist.length c3))
      (first | exact ((HB6.out.else_ HE8.out (by omega)).cell 3).trans rfl | exact ((HB6.out.else_ HE7.out (by omega)).cell 3).trans rfl | exact ((HB6.out.ext (Ext.refl w6).drew).cell 3).trans rfl)
      (first
       | (go_at_call 87; refine (l10Change_any rb (m + 2501) _ (HR6.out.ext (Ext.refl w6).drew) (by omega)).mono ?_; rintro e w7 ⟨⟨g, v7, u7, rfl, hv7, hu7, hl71, hl72, hs71, hs72⟩, hr7, he7⟩
          obtain ⟨P7, e7, rfl, _, _⟩ := SliceR.form hv7; obtain ⟨Q7, f7, rfl, _, _⟩ := SliceR.form hu7; have HE7 := Lib.hid ((Else.of_ext (rb := rb) (Ext.refl w6).drew).trans' he7); have HR7 := Lib.hid hr7
          have hlen : (logPutL (B.hist.length : Int) g).length ≤ 900 := by
           have h1 := logPut_len (B.hist.length : Int) g; have h2 := signedL_small 43 hs71; have h3 := signedL_small 45 hs72
           have h4 : (changeL g).length = (signedL 45 g.goes).length + (signedL 43 g.comes).length := by unfold changeL; rw [List.length_append]
           omega
          obtain ⟨y, hy⟩ : ∃ y, y = strOf (logPutL (B.hist.length : Int) g) := ⟨_, rfl⟩
          have hys : y.size ≤ 900 := (by rw [hy, strOf_size]; exact hlen)
          have HLP := Lib.hid (show Calls Tryz.prog 86 #[.int .i64 (B.hist.length : Int), .agg #[.slice P7 g.comes.length e7, .slice Q7 g.goes.length f7]] w7 fun e w' => e = .returned (.string y) ∧ Ext w7 w' from by rw [hy]; exact specLogPut_any (B.hist.length : Int) g _ _ w7 hv7 hu7); have hm1 : (9223372036854775807 < s.size + y.size) = False := eq_false (by omega)
          clear hy hlen hv7 hu7 hs71 hs72 hr7 he7)
       | (go_at_call 86; refine HLP.out.mono ?_; rintro e w8 ⟨rfl, hx8⟩
          have HE8 := Lib.hid (HE7.out.trans' (.of_ext hx8)); have HR8 := Lib.hid (HR7.out.ext hx8)
          clear hx8))
    all_goals go_wp2_with fail
    all_goals go_ret
    all_goals exact ⟨⟨_, rfl, by simp only [ByteArray.size_append]; omega⟩, HR8.out.le (by omega), HE6.out.trans' HE8.out⟩
  go_ret; exact ⟨⟨_, rfl, by omega⟩, HR6.out.le (by omega), HE6.out⟩
set_option maxRecDepth 100000 in
set_option maxHeartbeats 2000000 in
theorem drawLogGet_any (v : Value) (xs : List UInt8) (w : World) {S : Nat → Prop} (hv : BytesR S w v xs) :
 Calls Tryz.prog 7 #[v] w fun e w' => (∃ s : ByteArray, e = .returned (.string s) ∧ s.size ≤ 210005) ∧ Ext w w' := by
 obtain ⟨A, c, rfl, hc1, hc2⟩ := SliceR.form hv; have HV := Lib.hid hv; clear hv; go_enter Tryz.func7, Tryz.ntmps7
 go_wp2_with (first
  | (go_at_call 29; refine (l1Open_any _ xs _ HV.out).mono ?_; rintro e w1 ⟨rb, rfl, hr1, hx1, hrb⟩; have HR1 := Lib.hid (show Rd w1 rb 0 from ⟨0, Nat.le_refl _, hr1⟩); have HX1 := Lib.hid hx1; clear hr1 hx1)
  | (go_at_call 31; refine (l10Log_any rb 0 _ HR1.out (by omega)).mono ?_; rintro e w2 ⟨⟨s, rfl, hs⟩, hr2, he2⟩; have HR2 := Lib.hid hr2; have HX2 := Lib.hid (Else.toExt HX1.out he2 hrb); clear hr2 he2)
  | (go_at_call 30; refine (l10Cut_any rb 2700 _ _ (by omega) HR2.out (by omega)).mono ?_; rintro e w4 ⟨⟨t, rfl, ht⟩, hr4, he4⟩; have HE4 := Lib.hid he4; clear hr4 he4)
  | fail)
 go_ret; exact ⟨⟨t, rfl, by omega⟩, Else.toExt HX2.out HE4.out hrb⟩
end Go.Proofs.YtmihponoillihaaGreatDoor
