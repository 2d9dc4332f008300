/- Proved here, for all inputs and without conditions: the given statement of the law FnLogGet. -/
import Derived.Test.YtmihponoillihaaGreatDoorLgt01
import Derived.Test.YtmihponoillihaaGreatDoorBas30
import Derived.ProofKit
import Derived.ChangeSame
import Derived.WideKeyArgs
import Derived.ChangeSlices
import Derived.HandedShaped
import Derived.Shelf.Vars
import Derived.Test.YtmihponoillihaaGreatDoorTie
import Derived.LaidMore
import Derived.OpenShut
import Derived.MakeChecks
import Derived.Stop.LaidErr
import Derived.Lay
import Derived.Stop.Joined
import Derived.Test.YtmihponoillihaaGreatDoorLgtC
import Derived.Test.YtmihponoillihaaGreatDoorLgtD
set_option linter.unusedSimpArgs false
set_option linter.unusedVariables false
namespace Go.Proofs.YtmihponoillihaaGreatDoor
open Go.RowKit
theorem line_len (t : Int) (l : List UInt8) : 3 ≤ (logLine t l).length := by
 have h1 := dec_pos t.toNat; unfold logLine logHead; simp only [List.length_append, List.length_cons, List.length_nil]; omega
theorem cat_len : ∀ (gs : List GC) (t : Nat), 3 * gs.length ≤ (logCat t gs).length
 | [], _ => Nat.zero_le _
 | g :: gs, t => by
   have h1 := cat_len gs (t + 1); have h2 := line_len t (changeL g); rw [logCat, List.length_append, List.length_cons]; omega
theorem cat_step {gs : List GC} {k : Nat} {x : GC} (h : gs[k]? = some x) : logCat 0 (gs.take (k + 1)) = logCat 0 (gs.take k) ++ logLine (k : Int) (changeL x) := by
 obtain ⟨hk, _⟩ := List.getElem?_eq_some_iff.1 h; rw [List.take_add_one, h, Option.toList_some, cat_app, List.length_take, Nat.min_eq_left (by omega), Nat.zero_add]; simp [logCat]
theorem cat_take (gs : List GC) (k : Nat) : (logCat 0 (gs.take k)).length ≤ (logCat 0 gs).length := by
 have h := cat_app (gs.take k) 0 (gs.drop k); rw [List.take_append_drop] at h; rw [h, List.length_append]; omega
set_option maxRecDepth 100000 in
set_option maxHeartbeats 8000000 in
theorem logGet_law (v u : Value) (xs ys : List UInt8) (T : TypeId) (y0 : Value) (w : World) {S U : Nat → Prop} (hv : BytesR S w v xs) (hu : BytesR U w u ys) (hm : MaxIs w) (he : EofIs w T y0) (htab : Lib.TabIs Tryz.prog w "internal/strconv.uint64pow10" .u64 Lib.pow10Tab) :
 Calls Tryz.prog 4 #[v, u] w fun e w' => e = .returned (.bool true) ∧ Ext w w' := by
 obtain ⟨A, c, rfl, hc1, hc2⟩ := SliceR.form hv; obtain ⟨B, d, rfl, hd1, hd2⟩ := SliceR.form hu; have HV := Lib.hid hv; have HU := Lib.hid hu; have HM := Lib.hid hm; have HE := Lib.hid he; have HT := Lib.hid htab; clear hv hu hm he htab
 by_cases h1 : 1048576 < xs.length
 · go_enter Tryz.func4, Tryz.ntmps4
   go_wp2; go_ret; exact ⟨rfl, Ext.refl _⟩
 by_cases h2 : 1048576 < ys.length
 · go_enter Tryz.func4, Tryz.ntmps4
   go_wp2; go_ret; exact ⟨rfl, Ext.refl _⟩
 go_enter Tryz.func4, Tryz.ntmps4
 go_wp2_with (fail)
 refine (drawLogGet_any _ xs _ HV.out).mono ?_; rintro e w1 ⟨⟨s, rfl, hs⟩, hx1⟩
 have hl : s.data.toList.length ≤ 400000 := by simp; omega
 obtain ⟨hok, hn, htake, hmore⟩ := get_law hl
 obtain ⟨gs, hgs⟩ : ∃ gs, gs = (logGetL s.data.toList).1 := ⟨_, rfl⟩
 obtain ⟨n, hnn⟩ : ∃ n, n = (logGetL s.data.toList).2 := ⟨_, rfl⟩
 rw [← hgs] at hok htake hmore; rw [← hnn] at hn htake hmore
 have hns : n ≤ s.size := by simpa using hn
 have hcl : (logCat 0 gs).length = n := by rw [← htake, List.length_take]; omega
 have hgl : gs.length ≤ 70002 := by have := cat_len gs 0; omega
 obtain ⟨y, hy⟩ : ∃ y, y = strOf (logCat 0 gs) := ⟨_, rfl⟩
 have hys : y.size = n := by rw [hy, strOf_size, hcl]
 have hyd : y.data.toList = logCat 0 gs := by rw [hy, list_strOf]
 have hext : s.extract 0 n = y := by rw [hy, ← htake]; exact ext_take s hns
 have HI := Lib.hid (fun W (hW : Ext w W) => show Calls Tryz.prog 8 #[.string s] W fun e w' => GotRead gs n e w' ∧ Ext W w' from by
  have h := logGet_any s T y0 W (by omega) (HM.out.ext hW) (HE.out.ext hW) (pow_ext HT.out hW); rw [← hgs, ← hnn] at h
  exact h.mono fun _ _ ⟨h1, h2⟩ => ⟨h1.toR, h2⟩)
 have HS := Lib.hid (fun W => show Calls Tryz.prog 9 #[.string s] W fun e w' => GotRead gs n e w' ∧ Ext W w' from by
  have h := specLogGet_any s W (by omega); rw [← hgs, ← hnn] at h
  exact h.mono fun _ _ ⟨h1, h2⟩ => ⟨h1.toR, h2⟩)
 have HOK := Lib.hid hok; have HMO := Lib.hid hmore; have HCL := Lib.hid hcl; have HY := Lib.hid hy; have HYD := Lib.hid hyd; have HX1 := Lib.hid hx1; have HTK := Lib.hid htake; have HHY := Lib.hid hext
 have hy400 : y.size ≤ 210005 := by omega
 have HYS := Lib.hid hys; have tok : True := trivial; clear hx1 hgs hnn hok hmore hcl hy hyd hl hn htake hext hys
 go_wp2_with (first
  | (go_at_call 8; have _t := tok; refine (HI.out _ HX1.out).mono ?_; clear tok _t; rintro e w2 ⟨⟨A2, c2, rfl, hv2, hc21, hc22⟩, hx2⟩
     have HV2 := Lib.hid hv2; have HX2 := Lib.hid (HX1.out.trans' hx2)
     clear hv2 hx2)
  | (go_at_call 9; refine (HS.out _).mono ?_; rintro e w3 ⟨⟨A3, c3, rfl, hv3, hc31, hc32⟩, hx3⟩
     have HV3 := Lib.hid hv3; have HY3 := Lib.hid (ListK.ext (k := kChange) HV2.out hx3); have HX3 := Lib.hid (HX2.out.trans' hx3)
     clear hv3 hx3)
  | (go_at_call 10; refine (fsChanges_same _ _ gs _ HY3.out HV3.out).mono ?_; rintro e w4 ⟨rfl, hx4⟩
     have HV4 := Lib.hid (ListK.ext (k := kChange) HY3.out hx4); have HX4 := Lib.hid (HX3.out.trans' hx4)
     clear hx4)
  | fail)
 clear HV2 HY3 HV3 HX2 HX3 HI HS
 go_loopw [10, 11] (fun o i wr => ∃ k : Nat, o = .string (strOf (logCat 0 (gs.take k))) ∧ i = .int .i64 k ∧ k ≤ gs.length ∧ Hid (Ext w4 wr)) (fun _ i _ => gs.length - (intOf i).toNat)
 case atStart => exact ⟨0, rfl, rfl, Nat.zero_le _, Lib.hid (Ext.refl _)⟩
 case round =>
  obtain ⟨k, rfl, rfl, hk, hx⟩ := hrel
  have hk0 : (0 : Int) ≤ (k : Int) := by omega
  by_cases hlt : k < gs.length
  · have hk1 : (k : Int) < (gs.length : Int) := by omega
    obtain ⟨b, off, x, v1, u1, rfl, hbb, hxk, hv1, hu1, hp0, hp1⟩ := ChangesR.at_ (ListK.ext (k := kChange) HV4.out hx.out) hlt; obtain ⟨VA, va, rfl, _, _⟩ := SliceR.form hv1; obtain ⟨UA, ua, rfl, _, _⟩ := SliceR.form hu1; have hxo := HOK.out x (List.mem_of_getElem? hxk)
    have hpl : logPutL (k : Int) x = logLine (k : Int) (changeL x) := by
     unfold logPutL; rw [if_pos (by rw [hxo]; exact decide_eq_true ⟨by omega, by omega⟩)]
    have HST := Lib.hid (cat_step hxk)
    obtain ⟨z, hz⟩ : ∃ z, z = strOf (logLine (k : Int) (changeL x)) := ⟨_, rfl⟩
    obtain ⟨q, hq⟩ : ∃ q, q = strOf (logCat 0 (gs.take k)) := ⟨_, rfl⟩
    have hqz : strOf (logCat 0 (gs.take (k + 1))) = q ++ z := by rw [HST.out, hq, hz, strOf_append]
    have hsz : q.size + z.size ≤ 400000 := by
     have h1 := cat_take gs (k + 1); have h2 := congrArg ByteArray.size hqz; rw [strOf_size, ByteArray.size_append] at h2; have := HCL.out; omega
    have hm1 : (9223372036854775807 < q.size + z.size) = False := eq_false (by omega)
    have HLP := Lib.hid (show Calls Tryz.prog 11 #[.int .i64 (k : Int), .agg #[.slice VA x.comes.length va, .slice UA x.goes.length ua]] wr fun e w' => e = .returned (.string z) ∧ Ext wr w' from by
     rw [hz, ← hpl]; exact logPut_any (k : Int) x _ _ wr hv1 hu1 (pow_ext HT.out (HX4.out.trans' hx.out)))
    have HQZ := Lib.hid hqz; rw [← hq]; clear hz hq hqz hpl hxo hxk hv1 hu1
    go_wp2_with (first
     | (go_at_call 11; refine HLP.out.mono ?_; rintro e w5 ⟨rfl, hx5⟩)
     | fail)
    go_roundw
    case rel => exact ⟨k + 1, by rw [HQZ.out], by go_num, by omega, Lib.hid (hx.out.trans' hx5)⟩
    case measure => simp [intOf]; omega
  obtain rfl : k = gs.length := by omega
  rw [List.take_length, ← HY.out]
  go_wp2_with fail
  refine (drawLogPut_any _ ys _ (HU.out.ext (HX4.out.trans' hx.out))).mono ?_; rintro e w6 ⟨⟨z6, g, v6, u6, rfl, hv6, hu6, hg1, hg2, hm1, hm2⟩, hx6⟩; obtain ⟨A6, c6, rfl, _, _⟩ := SliceR.form hv6; obtain ⟨B6, d6, rfl, _, _⟩ := SliceR.form hu6
  obtain ⟨nc, hnc⟩ : ∃ nc, nc = g.comes.length := ⟨_, rfl⟩
  obtain ⟨ng, hng⟩ : ∃ ng, ng = g.goes.length := ⟨_, rfl⟩
  rw [← hnc] at hv6 ⊢; rw [← hng] at hu6 ⊢
  have htx : (changeL g).length ≤ 4000 := by
   have h5 := signedL_mid 43 hm1; have h6 := signedL_mid 45 hm2; unfold changeL; rw [List.length_append]; omega
  have hpl := logPut_len (gs.length : Int) g
  obtain ⟨W7, hW7⟩ : ∃ W7, W7 = w6.alloc (.cells #[.slice A6 nc c6, .slice B6 ng d6] 32) := ⟨_, rfl⟩
  have hx7 : Ext w6 W7 := by rw [hW7]; exact (Ext.refl _).alloc _
  have HX7 := Lib.hid (HX4.out.trans' (hx.out.trans' (hx6.trans' hx7))); have HV7 := Lib.hid (ListK.ext (k := kChange) HV4.out (hx.out.trans' (hx6.trans' hx7))); have HB7 := Lib.hid (show Blk W7 w6.heap.size 32 #[.slice A6 nc c6, .slice B6 ng d6] from by rw [hW7]; exact Blk.new _ _ _); have HG7 := Lib.hid (show AtomsR (From wr.heap.size) W7 (.slice A6 nc c6) g.comes from hv6.ext hx7); have HH7 := Lib.hid (show AtomsR (From wr.heap.size) W7 (.slice B6 ng d6) g.goes from hu6.ext hx7); have p0 := HB7.out.cell 0; have p1 := HB7.out.cell 1; have pl := HB7.out.lt
  obtain ⟨z, hz⟩ : ∃ z, z = strOf (logPutL (gs.length : Int) g) := ⟨_, rfl⟩
  have hzs : z.size ≤ 4030 := by rw [hz, strOf_size]; omega
  have HLP := Lib.hid (show Calls Tryz.prog 11 #[.int .i64 (gs.length : Int), .agg #[.slice A6 nc c6, .slice B6 ng d6]] W7 fun e w' => e = .returned (.string z) ∧ Ext W7 w' from by
   rw [hz]; exact logPut_any (gs.length : Int) g _ _ W7 HG7.out HH7.out (pow_ext HT.out HX7.out))
  have hyy : (y.toList == y.toList) = true := beq_self_eq_true _; have hexy := HHY.out
  have hn0 : (0 : Int) ≤ (n : Int) := by omega
  have hn1 : (n : Int) ≤ (s.size : Int) := by have := HYS.out; omega
  clear hv6 hu6 hm1 hm2 hx6 hx7 hnc hng HV4 hpl
  go_wp2_with fail
  rw [← hW7]; clear hW7
  by_cases hgo : changeOkB g = true
  · have hpe : logPutL (gs.length : Int) g = logLine (gs.length : Int) (changeL g) := by
      unfold logPutL; rw [if_pos (by rw [hgo]; exact decide_eq_true ⟨by omega, by omega⟩)]
    rw [hpe] at hz; have hzl := line_len (gs.length : Int) (changeL g)
    have hzz : z.size = (logLine (gs.length : Int) (changeL g)).length := by rw [hz, strOf_size]
    have hze : (z.toList == ([] : List UInt8)) = false := by
     rw [beq_eq_false_iff_ne]; intro h
     have h2 : z.data.toList.length = 0 := by rw [← ByteArray.toList_eq, h]; rfl
     have h3 : z.data.toList.length = z.size := rfl; omega
    have hze2 : z.toList.isEmpty = false := by
     rw [List.isEmpty_eq_false_iff]; intro h; rw [h] at hze
     cases hze
    have hcat : y.size + z.size ≤ 400000 := by omega
    have hm1 : (9223372036854775807 < y.size + z.size) = False := eq_false (by omega)
    have hall : logGetL (y ++ z).data.toList = (gs ++ [g], n + z.size) := by
     have h1 : (y ++ z).data.toList = s.data.toList.take n ++ logLine (gs.length : Nat) (changeL g) := by
      rw [HTK.out, ByteArray.data_append, Array.toList_append, HYD.out, hz, list_strOf]
     rw [h1, HMO.out g hgo (by have := HYS.out; omega), hzz]
    obtain ⟨N, hN⟩ : ∃ N, N = (gs ++ [g]).length := ⟨_, rfl⟩
    obtain ⟨M, hM⟩ : ∃ M, M = n + z.size := ⟨_, rfl⟩
    have HIA := Lib.hid (fun W (hW : Ext w W) => show Calls Tryz.prog 8 #[.string (y ++ z)] W fun e w' => (∃ A c, e = .returned (.tuple #[.slice A N c, .int .i64 (M : Int)]) ∧ ChangesR Any w' (.slice A N c) (gs ++ [g]) ∧ N ≤ c ∧ c ≤ 9223372036854775807) ∧ Ext W w' from by
     have h := logGet_any (y ++ z) T y0 W (by rw [ByteArray.size_append]; omega) (HM.out.ext hW) (HE.out.ext hW) (pow_ext HT.out hW); rw [hall] at h; rw [hN, hM]
     exact h.mono fun _ _ ⟨h1, h2⟩ => ⟨h1.toR, h2⟩)
    have hNg : gs.length < N := by rw [hN]; simp
    have hNg' : (gs.length : Int) < (N : Int) := by omega
    have hNe : (((N : Nat) : Int) == ((gs.length : Nat) : Int) + 1) = true := by rw [beq_iff_eq, hN]; simp
    have hMe : (((M : Nat) : Int) == ((y.size : Nat) : Int) + ((z.size : Nat) : Int)) = true := by rw [beq_iff_eq, hM]; have := HYS.out; omega
    have hg0 : (0 : Int) ≤ (gs.length : Int) := by omega
    clear hN hM; clear hz hall hpe hzl hzz
    go_wp2_with (first
     | (go_at_call 11; refine HLP.out.mono ?_; rintro e w8 ⟨rfl, hx8⟩
        have HX8 := Lib.hid (HX7.out.trans' hx8); have HB8 := Lib.hid (HB7.out.ext hx8); have HG8 := Lib.hid (HG7.out.ext hx8); have HH8 := Lib.hid (HH7.out.ext hx8)
        clear hx8 p0 p1 pl)
     | (go_at_call 8; refine (HIA.out _ HX8.out).mono ?_; rintro e w9 ⟨⟨A9, c9, rfl, hv9, hc91, hc92⟩, hx9⟩
        have HX9 := Lib.hid (HX8.out.trans' hx9); obtain ⟨b9, o9, x9, v9, u9, rfl, hb9, hxk9, hv91, hu91, hc90, hc91'⟩ := ChangesR.at_ hv9 hNg
        obtain rfl : g = x9 := by simpa using hxk9
        obtain ⟨V9, e9, rfl, _, _⟩ := SliceR.form hv91; obtain ⟨U9, f9, rfl, _, _⟩ := SliceR.form hu91; have HV9 := Lib.hid hv91; have HU9 := Lib.hid hu91; have HB9 := Lib.hid (HB8.out.ext hx9); have HG9 := Lib.hid (HG8.out.ext hx9); have HH9 := Lib.hid (HH8.out.ext hx9); have r0 := HB9.out.cell 0; have r1 := HB9.out.cell 1; have rl := HB9.out.lt; have HFS := Lib.hid (fun (W : World) (hW : Ext w9 W) => fsChange_same g _ _ _ _ W (HV9.out.ext hW) (HU9.out.ext hW) (HG9.out.ext hW) (HH9.out.ext hW))
        clear hv9 hx9 hxk9 hv91 hu91)
     | fail)
    refine calm_region (by kernel_rfl) (by kernel_rfl) ?_
    repeat (go_big_quiet_step ((go_at_call 13; exact calm_call (HFS.out _ (Later.ext _)))))
    refine wpQuiet_nil ?_; rintro w10 ⟨⟨_, hx10⟩, rfl⟩
    go_wp2_with fail
    go_ret; exact ⟨rfl, HX9.out.trans' hx10⟩
  have hpe : logPutL (gs.length : Int) g = [] := by
    unfold logPutL; rw [if_neg (by simp [hgo])]
  rw [hpe] at hz; obtain rfl : z = ⟨#[]⟩ := hz; clear hpe
  go_wp2_with (first
   | (go_at_call 11; refine HLP.out.mono ?_; rintro e w8 ⟨rfl, hx8⟩)
   | fail)
  go_ret; exact ⟨rfl, HX7.out.trans' hx8⟩
end Go.Proofs.YtmihponoillihaaGreatDoor
namespace Go.Proofs.YtmihponoillihaaGreatDoor
open Go.RowKit Go.ChangeShapes Go.WideShapes
theorem law_own : ownKnob Tryz.prog.godebug = none := by kernel_rfl
theorem law_laidOut : laidOutB Tryz.prog = true := by kernel_rfl
section
variable {H : Type} {enc : TypeId × Value → H} {P : Program}
theorem trodAll_stays (hl : laidOutB P = true) {W W' : World} (hb : Below W.heap.size W W') : ∀ (ts : List TypeId) (vs : List Value) (ds : List (DataW H)) (ps : List MemPlace), (∀ t ∈ ts, P.readableRec t = true ∧ t < P.types.size) →
 DataW.TrodAll enc P W 0 (fun _ => true) true ts vs ds ps → (∀ x ∈ ps, x.block < W.heap.size) → ∀ sp : Nat → Bool, (∀ x ∈ ps, sp x.block = true) → DataW.TrodAll enc P W' 0 sp true ts vs ds ps
 | [], [], [], ps, _, h, _, _, _ => h
 | t :: ts, v :: vs, d :: ds, ps, ht, h, hlt, sp, hsp => by
   obtain ⟨p, q, h1, h2, rfl⟩ := h; refine ⟨p, q, ?_, trodAll_stays hl hb ts vs ds q (fun t ht' => ht t (List.mem_cons_of_mem _ ht')) h2 (fun x hx => hlt x (List.mem_append.2 (.inr hx))) sp (fun x hx => hsp x (List.mem_append.2 (.inr hx))), rfl⟩; exact WideElems.Trod_stays hl (ht t (by simp)).1 (ht t (by simp)).2 h1 (fun x hx => hb.same (hlt x (List.mem_append.2 (.inl hx)))) (fun x hx => hsp x (List.mem_append.2 (.inl hx)))
 | [], _ :: _, _, _, _, h, _, _, _ => by simp [DataW.TrodAll] at h
 | [], [], _ :: _, _, _, h, _, _, _ => by simp [DataW.TrodAll] at h
 | _ :: _, [], _, _, _, h, _, _, _ => by simp [DataW.TrodAll] at h
 | _ :: _, _ :: _, [], _, _, h, _, _, _ => by simp [DataW.TrodAll] at h
theorem law_post {f : Func} {s : ChangeSpec} {apart fresh handsOn again : Bool} {W W' : World} {args : Array Value} {ds : List (DataW H)} {before : List MemPlace} {t : TypeId}
 (hvars : s.vars = []) (hres : f.resultTypes = #[t]) (hbool : P.underlying t = some .bool) (hspec : s.fn H (ds ++ []) = { results := [.lit (.bool true)], args := ds })
 (hl : laidOutB P = true) (hts : ∀ t ∈ f.params.toList, P.readableRec t = true ∧ t < P.types.size)
 (hW : DataW.Whole enc P f.params.toList s.vars apart W args.toList ds [] before) (hb : Below W.heap.size W W') :
 s.post enc P f apart fresh handsOn again W args (.bool true) W' := by
 obtain ⟨p, q, hA, hV, hpq, hz, hn⟩ := id hW
 have hq : q = [] := by
  rw [hvars] at hV; obtain ⟨_, h2⟩ := trodVars_none hV; exact h2
 subst hq; rw [List.append_nil] at hpq; subst hpq
 have hlt : ∀ x ∈ before, x.block < W.heap.size := fun x hx => hW.lt x hx
 have hstay := trodAll_stays hl hb _ _ _ _ hts hA hlt
 have hold : ∀ x ∈ before, (fun b => decide (b < W.heap.size)) x.block = true := fun x hx => by simpa using hlt x hx
 have hr : ∀ (b : Nat) (sp : Nat → Bool) (hd : Bool), DataW.TrodAll enc P W' b sp hd f.resultTypes.toList ((Value.bool true).resultList f.resultTypes.size) (s.fn H (ds ++ [])).results [] := by
  intro b sp hd; rw [hres, hspec]; exact trodAll_mk1 (shut_bool hbool true)
 have hvr : ∀ sp : Nat → Bool, DataW.TrodVars enc P W' sp s.vars (s.fn H (ds ++ [])).vars [] := by
  intro sp; rw [hvars, hspec]
  rfl
 have hargs : ∀ sp : Nat → Bool, (∀ x ∈ before, sp x.block = true) → DataW.TrodAll enc P W' 0 sp true f.params.toList args.toList (s.fn H (ds ++ [])).args before := by
  intro sp hsp; rw [hspec]; exact hstay sp hsp
 refine ⟨ds, [], before, [], before, [], hW, hr _ _ _, hargs _ hold, hvr _, World.keptBut_mono (fun x hx => ⟨hx, .inr (by simpa using hx)⟩) (hb.frame (· ∈ before)), fun _ => ?_⟩; refine ⟨ok_one hres rfl (okWide_bool_mk hbool true), _, _, ([] ++ before) ++ [], ⟨[] ++ before, [], trodAll_append (hargs _ (fun _ _ => rfl)) (hr _ _ _), hvr _, rfl, ?_, ?_⟩, ?_⟩
 · intro b off hp
   have hin : MemPlace.cell b off ∈ before := by simpa using hp
   rw [hb.frozen (hlt _ hin)]; exact hz b off hin
 · intro ha
   have := hn ha; simpa using this
 intro x hx _; simpa using hx
end
end Go.Proofs.YtmihponoillihaaGreatDoor
namespace Go.Proofs.YtmihponoillihaaGreatDoor
open Go.RowKit Go.ChangeShapes Go.WideShapes
theorem byte_wf {z : Int} (h : (Lit.int .u8 z).wf = true) : 0 ≤ z ∧ z < 256 := by
 have e1 : IntKind.u8.min = 0 := rfl; have e2 : IntKind.u8.max = 255 := rfl; simp [Lit.wf, e1, e2] at h; omega
section
variable {H : Type} {enc : TypeId × Value → H} {w : World} {base : Nat} {spare : Nat → Bool} {held : Bool} {fuel : Nat} {v : Value} {x : DataW H × List MemPlace}
theorem read_bytes (h : DataW.trod enc Tryz.prog w base spare held fuel 22 [v] = some x) : ∃ xs : List UInt8, BytesR Any w v xs := by
 rcases open_ints Tryz.underlying22 Tryz.underlying5 (by kernel_rfl) h with ⟨hcs, _⟩ | ⟨a, len, cap, zs, hcs, hb, hl, hm, hzl, hx, hc, hwf⟩
 · injection hcs with hv _
   subst hv; exact ⟨[], SliceR.nil_ 0 (Nat.zero_le _) none⟩
 injection hcs with hv _
 subst hv
 have hlz : len ≤ zs.length := by rw [hzl]; split <;> omega
 by_cases h0 : 0 < len
 · have h00 := hc 0 (by omega)
   have ha0 : a.add 0 = a := by simp [Addr.add]
   rw [ha0] at h00; have haa := cell_addr h00
   have hadd : ∀ n, a.add n = ⟨a.block, a.off + n, none⟩ := by
    intro n; unfold Addr.add
    split
    · rename_i h; subst h; rw [Nat.add_zero]; exact haa
    rfl
   rw [haa] at h00
   have hln : ((zs.take len).map (fun z => UInt8.ofNat z.toNat)).length = len := by rw [List.length_map, List.length_take]; omega
   refine ⟨(zs.take len).map (fun z => UInt8.ofNat z.toNat), some a, cap, by rw [hln], by rw [hln]; exact hl, hm, fun _ => ⟨a.block, a.off, by rw [← haa], cell_lt h00, trivial, fun i c hi => ?_⟩⟩; refine ⟨[.int .u8 c.toNat], rfl, fun j u hu => ?_, rfl⟩
   match j, hu with
   | 0, hu =>
     simp at hu; subst hu; rw [List.getElem?_map, List.getElem?_take] at hi
     split at hi
     · have hiz : i < zs.length := by omega
       rw [List.getElem?_eq_getElem hiz] at hi; simp at hi; have hz := byte_wf (hwf _ (List.getElem_mem hiz)); have h1 := hc i hiz; rw [hadd, List.getD_eq_getElem?_getD, List.getElem?_eq_getElem hiz] at h1; rw [← hi, Nat.mul_one, Nat.add_zero, h1, UInt8.toNat_ofNat']; simp; omega
     simp at hi
 obtain rfl : len = 0 := by omega
 exact ⟨[], SliceR.nil_ cap hm _⟩
end
end Go.Proofs.YtmihponoillihaaGreatDoor
namespace Go.Proofs.YtmihponoillihaaGreatDoor
open Go Go.RowKit
variable {H : Type} {enc : TypeId × Value → H}
theorem handed_and_shaped {a : Assume} {C : Checked} {os : Os} {f : FuncId} {fn : Func} {s : ChangeSpec} {conds : List PathCond} {apart fresh handsOn again : Bool} {X : World → Array Value → Prop}
 (hX : ∀ (w w' : World) (args : Array Value), w.heap = w'.heap → X w args → X w' args)
 (own : ownKnob C.prog.godebug = none) (started : os.Started) (noInit : C.prog.inits.idxOf? f = none) (hfn : C.prog.funcs[f]? = some fn)
 (witness : ∃ (w : World) (tape : Tape) (i : Input), w.os = os ∧ (w.forCall tape i).Shaped C.prog ∧ i.vars = [] ∧ Input.okWide C.prog (w.forCall tape i) .any w.heap.size f i ∧
  ((s.pre enc C.prog fn conds apart (w.forCall tape i).memory i.args ∧ X (w.forCall tape i).memory i.args) ∧ sizedMet enc C.prog fn (OpenSpec.ofChange s) apart (w.forCall tape i).memory i.args) ∧ a.holds C.prog (lone (Frame.enter C.prog f i.args .normal) [] (w.forCall tape i)))
 (contract : ∀ (W : World) (base : Nat) (args : Array Value) (ds gs : List (DataW H)) (before : List MemPlace),
  (∀ (j : Nat) t v, fn.params[j]? = some t → args[j]? = some v → Value.okWide C.prog W .any base t v) →
  DataW.Whole enc C.prog fn.params.toList s.vars apart W args.toList ds gs before → X W args → W.ShapedOpen C.prog →
  Calls C.prog f args W fun e W' => ∃ v, e = .returned v ∧ s.post enc C.prog fn apart fresh handsOn again W args v W') :
 ReturnsInHanded a C os f .any (fun w args => (s.pre enc C.prog fn conds apart w args ∧ X w args) ∧ sizedMet enc C.prog fn (OpenSpec.ofChange s) apart w args) (s.post enc C.prog fn apart fresh handsOn again) := by
 refine returnsInHanded_of_calls own started noInit witness ?_; intro w tape i _ hsh _ hok hpre _; obtain ⟨_, _, _, fn', hfn', _, _, _, _, hval⟩ := hok; obtain rfl : fn' = fn := Option.some.inj (hfn'.symm.trans hfn); obtain ⟨⟨⟨ds, gs, before, hw, _⟩, hx⟩, _⟩ := hpre
 refine (contract (w.forCall tape i) w.heap.size i.args ds gs before hval (DataW.Whole.of_heap (w' := w.forCall tape i) (by rfl) hw) (hX _ _ _ (by rfl) hx) hsh).mono fun e W' ⟨v, he, hp⟩ => ?_
 subst he; exact ChangeSpec.post_blind hp
end Go.Proofs.YtmihponoillihaaGreatDoor
namespace Go.Proofs.YtmihponoillihaaGreatDoor
open Go.RowKit Go.ChangeShapes Go.WideShapes Go.ChangeAt
open Go.ChangeMaps (open_string)
theorem law_laid_plain (W : World) : laidMetH Tryz.prog Rows.fnLogGetRow.laid W = laidMet Tryz.prog Rows.fnLogGetRow.laid W := MakeChecks.laidMetH_plain _ _ _ (by kernel_rfl)
theorem door_met (os : Os) (args : Array Value) : laidMetH Tryz.prog Rows.fnLogGetRow.laid ((World.laidAll Tryz.prog os Rows.fnLogGetRow.laid).forCall (fun _ _ => 0) ⟨#[], args, []⟩).memory := by
 rw [law_laid_plain]; exact laidMet_laidAll args (by kernel_rfl) (by kernel_rfl)
theorem maxIs_shaped {W : World} (h : W.ShapedOpen Tryz.prog) : MaxIs W :=
 cell_of_shapedOpen_int (g := 2) (t := 3) (zero := #[.int .i64 0]) (k := .i64) h (of_decide_eq_true (by kernel_rfl)) (by kernel_rfl) rfl (by kernel_rfl) (by kernel_rfl) Tryz.underlying3
theorem pow_laid : (Rows.laid_internal_strconv_uint64pow10 : DataW Unit) = Lib.tabData .u64 Lib.pow10Tab := by kernel_rfl
theorem pow_of_laid {W : World} (h : laidMetH Tryz.prog Rows.fnLogGetRow.laid W) : Lib.TabIs Tryz.prog W "internal/strconv.uint64pow10" .u64 Lib.pow10Tab := by
 rw [law_laid_plain] at h
 have h2 : laidMet Tryz.prog (("internal/strconv.uint64pow10", Rows.laid_internal_strconv_uint64pow10) :: _) W := laidMet.tail (laidMet.tail h)
 rw [pow_laid] at h2; exact Lib.tabIs_of_head (g := 3) (t := 398) (e := 313) (n := 20) (by kernel_rfl) (by kernel_rfl) Tryz.underlying398 Tryz.underlying313 (by kernel_rfl) (by kernel_rfl) h2
theorem star_error : "*" ++ "errors.errorString" = "*errors.errorString" := by decide
theorem row_error (u : TypeId) (h : Tryz.prog.typeName? 3 u = some "*errors.errorString") : u = 425 :=
 typeName_ptr_named (nm := "errors.errorString") (by rw [star_error]; kernel_rfl) (by kernel_rfl) (by decide) u (by rw [star_error]; exact h)
theorem eof_of_laid {W : World} (h : laidMetH Tryz.prog Rows.fnLogGetRow.laid W) : ∃ T y, EofIs W T y := by
 rw [law_laid_plain] at h
 have h2 : laidMet Tryz.prog (("io.EOF", Rows.laid_io_EOF) :: _) W := laidMet.tail (laidMet.tail (laidMet.tail (laidMet.tail h)))
 obtain ⟨a, s, hv, _⟩ := laid_sentinel (g := 0) (ti := 146) (tp := 425) (te := 445) (ts := 9) h2 (by kernel_rfl) (by kernel_rfl) Tryz.underlying146 row_error Tryz.underlying425 Tryz.underlying445 rfl rfl Tryz.underlying9 (by kernel_rfl) (by kernel_rfl)
 exact ⟨_, _, by unfold EofIs; simpa using World.var?_cell (show Tryz.prog.globalNamed "io.EOF" = some 0 by kernel_rfl) hv 0⟩
set_option maxRecDepth 100000 in
theorem fnLogGet_lifted (os : Os) (started : os.Started) (H : Type) (enc : TypeId × Value → H) :
 ReturnsInHanded {} Tryz.checked os 4 .any (fun w args => (Rows.fnLogGetSpec.pre enc Tryz.prog Tryz.f4 [] false w args ∧ laidMetH Tryz.prog Rows.fnLogGetRow.laid w) ∧ sizedMet enc Tryz.prog Tryz.f4 (OpenSpec.ofChange Rows.fnLogGetSpec) false w args)
  (Rows.fnLogGetSpec.post enc Tryz.prog Tryz.f4 false true false false) := by
 refine handed_and_shaped (C := Tryz.checked) (X := fun w _ => laidMetH Tryz.prog Rows.fnLogGetRow.laid w) (fun _ _ _ hh h => h.of_heap hh) law_own started (by kernel_rfl) Tryz.func4
  (ChangeSpec.witness_shaped (enc := enc) (C := Tryz.checked) (os := os) (X := fun w _ => laidMetH Tryz.prog Rows.fnLogGetRow.laid w) false (World.laidAll Tryz.prog os Rows.fnLogGetRow.laid) #[.slice none 0 0, .slice none 0 0] 8 (World.laidAll_os _ _ _) (World.shaped_of_ZipB (by kernel_rfl) (by kernel_rfl)) (by kernel_rfl) (by kernel_rfl) (by kernel_rfl) (door_met os _)) ?_
 intro W base args ds gs before hval0 hW hL hsh; have hval : ∀ (j : Nat) t v, Tryz.f4.params[j]? = some t → args[j]? = some v → Value.okWide Tryz.prog W .any base t v := hval0; have hW' := hW; obtain ⟨p, q, hA0, hV, rfl, hfz, hnd⟩ := hW; have hA : DataW.TrodAll enc Tryz.prog W 0 (fun _ => true) true Tryz.f4.params.toList args.toList ds p := hA0; rw [Tryz.params4] at hA hval; obtain ⟨v0, v1, d0, d1, p0, p1, rfl, rfl, rfl, ⟨k0, h0⟩, ⟨k1, h1⟩⟩ := trodAll_two hA; obtain ⟨rfl, rfl⟩ := trodVars_none hV; obtain ⟨_, _, _, rfl⟩ := okWide_slice Tryz.underlying22 (hval 0 22 v0 rfl rfl); obtain ⟨_, _, _, rfl⟩ := okWide_slice Tryz.underlying22 (hval 1 22 v1 rfl rfl); obtain ⟨xs, hxs⟩ := read_bytes h0; obtain ⟨ys, hys⟩ := read_bytes h1; clear hA0 hval0; simp only [List.append_nil] at hW'; obtain ⟨T, y, hy⟩ := eof_of_laid hL
 refine (logGet_law _ _ xs ys T y W hxs hys (maxIs_shaped hsh) hy (pow_of_laid hL)).mono fun e W' ⟨he, hw⟩ => ?_
 subst he; exact ⟨_, rfl, law_post (t := 4) rfl rfl Tryz.underlying4 rfl law_laidOut (by rw [Tryz.params4]; intro t ht; simp at ht; subst ht; exact ⟨by kernel_rfl, of_decide_eq_true (by kernel_rfl)⟩) hW' hw⟩
theorem lg_inst : Tryz.f4.isInstance Tryz.pinned.checked.prog Rows.fnLogGetRow.origin Rows.fnLogGetRow.targs := of_decide_eq_true (by kernel_rfl)
theorem lg_wrap : Tryz.f4.isWrapper Tryz.pinned.checked.prog Rows.fnLogGetRow.wrapper Rows.fnLogGetRow.mainSum := by
 unfold Func.isWrapper; rw [if_neg (of_decide_eq_false (by kernel_rfl))]; exact ⟨rfl, rfl⟩
theorem lg_row (os : Os) (started : os.Started) (H : Type) (enc : TypeId × Value → H) (_ : ∀ a b, enc a = enc b → a = b) :
 ReturnsInHanded Rows.fnLogGetRow.assume Tryz.pinned.checked os 4 .any (Rows.fnLogGetRow.pre enc Tryz.pinned.checked.prog Tryz.f4 (OpenSpec.ofChange Rows.fnLogGetSpec)) (Rows.fnLogGetSpec.post enc Tryz.pinned.checked.prog Tryz.f4 Rows.fnLogGetRow.apart Rows.fnLogGetRow.fresh Rows.fnLogGetRow.handsOn Rows.fnLogGetRow.again) :=
 fnLogGet_lifted os started H enc
theorem lg_open : Rows.fnLogGetRow.holds Tryz.pinned (OpenSpec.ofChange Rows.fnLogGetSpec) :=
 OpenClaim.holds_of_wide 4 Tryz.f4 rfl rfl rfl rfl rfl rfl rfl ⟨rfl, rfl, rfl, rfl, rfl⟩ rfl rfl rfl rfl rfl (by kernel_rfl) Tryz.func4 lg_closed lg_inst lg_wrap lg_row
theorem fnLogGet_row : Rows.FnLogGetSaid := lg_open
theorem lg_args : ([22, 22].all fun u => !Tryz.pinned.checked.prog.wantsStandIn u) = true := by kernel_rfl
theorem fnLogGet_holds : Rows.FnLogGetCardSaid :=
 Claim7.holds_tied_plain_at .later [] [.data, .data, .data, .data, .sentinel, .pinned] true (true, "2babdb2d94baf4ee2b30228363a8f200d7119ec6f88878aa71fc4179e6e9343a") true
  fnLogGet_row (fun _ h => by cases h) lg_word (fun _ h => by cases h) fnLogGet_row_tie rfl ⟨rfl, rfl⟩ lg_main rfl
  (fun f fn hf hfn => by
   obtain rfl : f = 4 := Option.some.inj (lg_func.symm.trans hf) |>.symm
   obtain rfl : fn = Tryz.f4 := (Option.some.inj (Tryz.func4.symm.trans hfn)).symm
   exact ⟨lg_looks, fun j t ht => by
    rw [Tryz.params4] at ht
    have hm : t ∈ [22, 22] := by simpa using Array.mem_of_getElem? ht
    exact (show Tryz.pinned.checked.prog.wantsStandIn t = false by simpa using List.all_eq_true.1 lg_args t hm)⟩)
  lg_goes
end Go.Proofs.YtmihponoillihaaGreatDoor
