/- Part of the texts of a proof; what they say stands at each theorem. -/
import Derived.Test.YtmihponoillihaaGreatDoorBas25
import Derived.Deep.RegionLaw
import Derived.IntWalk
import Derived.Lib.LastIndexByte
set_option linter.unusedSimpArgs false
set_option linter.unusedVariables false
namespace Go.Proofs.YtmihponoillihaaGreatDoor
open Go.RowKit
def GotAtom (N : Nat) (o : Option GA) (e : Ending) (w' : World) : Prop :=
 match o with
 | none => e = .returned (.tuple #[.agg #[.string ⟨#[]⟩, .slice none 0 0], .bool false])
 | some a => ∃ v, e = .returned (.tuple #[.agg #[.string a.n, v], .bool true]) ∧ TermsO (From N) w' v a.args
theorem specAtom_bad1 {l : List UInt8} (h : (splitL 40 l).length ≠ 2) : atomOf l = none := by
 rw [← specAtom_eq]; unfold specAtom
 split
 · rename_i p q hs; rw [hs] at h; exact absurd rfl h
 rfl
theorem specAtom_two {l p q : List UInt8} (h : splitL 40 l = [p, q]) : atomOf l = if l.length ≤ 1500 ∧ q ≠ [] ∧ atomPutL ⟨strOf p, argsOf q.dropLast⟩ = l then some ⟨strOf p, argsOf q.dropLast⟩ else none := by
 rw [← specAtom_eq]; unfold specAtom; rw [h]
theorem StrsR.at_S {S : Nat → Prop} {w : World} {A : Option Addr} {n c : Nat} {xs : List ByteArray} (h : StrsR S w (.slice A n c) xs) {k : Nat} (hk : k < n) :
 ∃ (b off : Nat) (x : ByteArray), A = some ⟨b, off, none⟩ ∧ b < w.heap.size ∧ S b ∧ xs[k]? = some x ∧ x.size ≤ maxLen ∧ w.cell? ⟨b, off + k, none⟩ = some (.string x) := by
 obtain ⟨b, off, x, hA, hb, hx, hs, hc⟩ := StrsR.at_ h hk; obtain ⟨A', c', hv, _, _, h3⟩ := h
 injection hv with e1 e2 e3
 obtain ⟨b', off', ha, _, hS, _⟩ := h3 (by omega); rw [← e1, hA] at ha
 injection ha with ha
 injection ha with ha _
 subst ha; exact ⟨b, off, x, hA, hb, hS, hx, hs, hc⟩
theorem split_weight (c : UInt8) : ∀ l : List UInt8, ((splitL c l).map List.length).sum + (splitL c l).length = l.length + 1
 | [] => rfl
 | x :: l => by
   have ih := split_weight c l; have hne := splitL_ne c l; unfold splitL
   split
   · simp only [List.map_cons, List.sum_cons, List.length_cons, List.length_nil]; omega
   cases hs : splitL c l with
   | nil => exact absurd hs hne
   | cons p ps =>
     rw [hs] at ih; simp only [List.map_cons, List.sum_cons, List.length_cons] at ih ⊢; omega
theorem argsOf_weight (l : List UInt8) : wTerms (argsOf l) ≤ l.length + 1 := by
 unfold argsOf
 split
 · simp [wTerms]
 have h := split_weight 44 l; unfold wTerms; rw [List.map_map, List.length_map]
 have e : (wTerm ∘ argOf) = List.length := by
  funext p
  show (strOf p).size = _; exact strOf_size p
 rw [e]; omega
theorem split_len (c : UInt8) (l : List UInt8) : (splitL c l).length ≤ l.length + 1 := by have := split_weight c l; omega
theorem drop_last_str {q : List UInt8} {qs : ByteArray} (h : qs = strOf q) : qs.extract 0 (qs.size - 1) = strOf q.dropLast := by
 rw [extract_str _ _ _ (by omega), h, list_strOf, List.drop_zero, strOf_size, Nat.sub_zero, List.dropLast_eq_take]
set_option maxRecDepth 100000 in
set_option maxHeartbeats 8000000 in
theorem specAtomGet_any (s : ByteArray) (w : World) (hs : s.size ≤ 4194304) :
 Calls Tryz.prog 157 #[.string s] w fun e w' => GotAtom w.heap.size (atomOf s.data.toList) e w' ∧ Ext w w' := by
 have HB := Lib.hid (Blk.new w 54 #[.string ⟨#[]⟩, .slice none 0 0]); have HC := Lib.hid (l1Cut_any s 40 (w.alloc (.cells #[.string ⟨#[]⟩, .slice none 0 0] 54)) hs)
 by_cases h2 : (splitL 40 s.data.toList).length ≠ 2
 · have HN := Lib.hid (specAtom_bad1 h2)
   obtain ⟨n, hn⟩ : ∃ n, n = (splitL 40 s.data.toList).length := ⟨_, rfl⟩
   rw [← hn] at h2
   have hn2 : ((n : Int) != 2) = true := by rw [bne_iff_ne]; omega
   have HNN := Lib.hid hn; clear hn
   go_enter Tryz.func157, Tryz.ntmps157
   go_wp2_with (go_at_call 34; refine HC.out.mono ?_; rintro e w1 ⟨⟨v1, rfl, hv1⟩, hx1⟩; obtain ⟨A1, c1, rfl, ha1, hb1⟩ := SliceR.form hv1; rw [List.length_map, ← HNN.out]; have hbk := HB.out.ext hx1; have q0 := hbk.cell 0; have q1 := hbk.cell 1; have f0 := hbk.frozen 0; have f1 := hbk.frozen 1; have hl := hbk.lt; clear hbk hv1 ha1)
   refine bodyPost_ret (v := .tuple #[.agg #[.string ⟨#[]⟩, .slice none 0 0], .bool false]) (by simp [results, Tryz.results157, go_sem, q0, q1]) rfl ⟨by rw [HN.out]; rfl, ?_⟩; exact Ext.setNew (a := w) (Ext.setNew (((Ext.refl w).alloc _).trans' hx1) (Nat.le_refl _) _) (Nat.le_refl _) _
 obtain ⟨p, q, hpq⟩ : ∃ p q, splitL 40 s.data.toList = [p, q] := by
  match hm : splitL 40 s.data.toList, h2 with
  | [p, q], _ => exact ⟨p, q, rfl⟩
  | [], h => exact absurd (by simp) h
  | [_], h => exact absurd (by simp) h
  | _ :: _ :: _ :: _, h => exact absurd (by simp) h
 clear h2; have hn2 : (((2 : Nat) : Int) != 2) = false := rfl; have hat := specAtom_two hpq
 have HC' := Lib.hid (show Calls Tryz.prog 34 #[.string s, .int .u8 40] (w.alloc (.cells #[.string ⟨#[]⟩, .slice none 0 0] 54)) fun e w' => ∃ A1 c1, e = .returned (.slice A1 2 c1) ∧ c1 ≤ 9223372036854775807 ∧ 2 ≤ c1 ∧ StrsR (From (w.heap.size + 1)) w' (.slice A1 2 c1) [strOf p, strOf q] ∧ Ext (w.alloc (.cells #[.string ⟨#[]⟩, .slice none 0 0] 54)) w' from
  HC.out.mono fun e w' ⟨⟨v, h1, h2⟩, h3⟩ => by
   rw [hpq] at h2; simp only [World.size_alloc] at h2; obtain ⟨A1, c1, rfl, h4, h5⟩ := SliceR.form h2
   exact ⟨A1, c1, h1, h5, h4, h2, h3⟩)
 have hjoin := join_split 40 s.data.toList; rw [hpq] at hjoin
 have hlen : p.length + 1 + q.length = s.size := by
  have := congrArg List.length hjoin; simp only [joinL, List.length_append, List.length_cons] at this
  have e : s.data.toList.length = s.size := by simp
  omega
 have hps : (strOf p).size ≤ maxLen := by rw [strOf_size]; exact maxOf (by omega)
 have hqs : (strOf q).size ≤ 4194304 := by rw [strOf_size]; omega
 clear HC
 by_cases hbig : 1500 < s.size
 · have HN := Lib.hid (show atomOf s.data.toList = none from by rw [hat, if_neg]; rintro ⟨h, _⟩; have e : s.data.toList.length = s.size := (by simp); omega)
   have g1 : decide ((1500 : Int) < (s.size : Int)) = true := decide_eq_true (by omega); clear hat hpq hjoin
   go_enter Tryz.func157, Tryz.ntmps157
   go_wp2_with (go_at_call 34; refine HC'.out.mono ?_; rintro e w1 ⟨A1, c1, rfl, hb1, ha1, hv1, hx1⟩; have hbk := HB.out.ext hx1; have q0 := hbk.cell 0; have q1 := hbk.cell 1; have f0 := hbk.frozen 0; have f1 := hbk.frozen 1; have hl := hbk.lt; clear hbk hv1 ha1)
   refine bodyPost_ret (v := .tuple #[.agg #[.string ⟨#[]⟩, .slice none 0 0], .bool false]) (by simp [results, Tryz.results157, go_sem, q0, q1]) rfl ⟨by rw [HN.out]; rfl, ?_⟩; exact Ext.setNew (a := w) (Ext.setNew (((Ext.refl w).alloc _).trans' hx1) (Nat.le_refl _) _) (Nat.le_refl _) _
 have g1 : decide ((1500 : Int) < (s.size : Int)) = false := decide_eq_false (by omega)
 by_cases hq0 : q = []
 · have HN := Lib.hid (show atomOf s.data.toList = none from by rw [hat, if_neg]; rintro ⟨_, h, _⟩; exact h hq0)
   obtain ⟨qs, hqq⟩ : ∃ qs, qs = strOf q := ⟨_, rfl⟩
   have hz : qs.size = 0 := by rw [hqq, strOf_size, hq0]; rfl
   rw [← hqq] at HC'; clear hat hpq hjoin hqq hq0
   go_enter Tryz.func157, Tryz.ntmps157
   go_wp2_with (go_at_call 34; refine HC'.out.mono ?_; rintro e w1 ⟨A1, c1, rfl, hb1, ha1, hv1, hx1⟩; obtain ⟨bq, oq, xq, rfl, hbq, hxq, _, hcq⟩ := StrsR.at_ hv1 (k := 1) (by omega); simp only [List.getElem?_cons_succ, List.getElem?_cons_zero, Option.some.injEq] at hxq; subst hxq; have hbk := HB.out.ext hx1; have q0 := hbk.cell 0; have q1 := hbk.cell 1; have f0 := hbk.frozen 0; have f1 := hbk.frozen 1; have hl := hbk.lt; clear hbk hv1)
   refine bodyPost_ret (v := .tuple #[.agg #[.string ⟨#[]⟩, .slice none 0 0], .bool false]) (by simp [results, Tryz.results157, go_sem, q0, q1]) rfl ⟨by rw [HN.out]; rfl, ?_⟩; exact Ext.setNew (a := w) (Ext.setNew (((Ext.refl w).alloc _).trans' hx1) (Nat.le_refl _) _) (Nat.le_refl _) _
 obtain ⟨ps, hpp⟩ : ∃ ps, ps = strOf p := ⟨_, rfl⟩
 obtain ⟨qs, hqq⟩ : ∃ qs, qs = strOf q := ⟨_, rfl⟩
 have hz0 : 0 < qs.size := by rw [hqq, strOf_size]; exact List.length_pos_iff.2 hq0
 have hz1 : ((qs.size : Int) == 0) = false := by rw [beq_eq_false_iff_ne]; omega
 rw [← hpp, ← hqq] at HC'; rw [← hpp] at hps; rw [← hqq] at hqs
 have hq63 : (qs.size : Int) ≤ 4194304 := by omega
 have hw1 : IntKind.i64.wrap ((qs.size : Int) - 1) = (qs.size : Int) - 1 := IntWalk.i64_in _ ⟨by omega, by omega⟩; have HPP := Lib.hid hpp; have HQQ := Lib.hid hqq; have HAT := Lib.hid hat; have HJ := Lib.hid hjoin; have HQ0 := Lib.hid hq0; clear hat hjoin hpq hpp hqq hq0
 go_enter Tryz.func157, Tryz.ntmps157
 go_wp2_with (go_at_call 34; refine HC'.out.mono ?_; rintro e w1 ⟨A1, c1, rfl, hb1, ha1, hv1, hx1⟩; obtain ⟨bq, oq, xq, rfl, hbq, hxq, _, hcq⟩ := StrsR.at_ hv1 (k := 1) (by omega); obtain ⟨bq', oq', xp, hbe, _, hxp, _, hcp⟩ := StrsR.at_ hv1 (k := 0) (by omega); injection hbe with hbe; injection hbe with hbe1 hbe2; subst hbe1; subst hbe2; simp only [List.getElem?_cons_succ, List.getElem?_cons_zero, Option.some.injEq] at hxq hxp; subst hxq; subst hxp; rw [Nat.add_zero] at hcp; have hbk := HB.out.ext hx1; have HB1 := Lib.hid hbk; have hl := hbk.lt; have HX1 := Lib.hid hx1; clear hbk hv1 hx1)
 refine calm_region (by kernel_rfl) (by kernel_rfl) ?_
 repeat (go_big_quiet_step (fail))
 refine wpQuiet_nil ?_; rintro w2 ⟨⟨_, hx2⟩, rfl⟩; have HX2 := Lib.hid hx2; have hb5 := (Blk.new w1 54 #[.string ps, .slice none 0 0]).ext hx2; have HB5 := Lib.hid hb5; have HB2 := Lib.hid ((HB1.out.alloc (.cells #[.string ps, .slice none 0 0] 54)).ext hx2); have hl2 := hb5.lt; have HDL := Lib.hid (drop_last_str HQQ.out)
 obtain ⟨inn, hin⟩ : ∃ inn, inn = qs.extract 0 (qs.size - 1) := ⟨_, rfl⟩
 have HIN := Lib.hid (show inn = strOf q.dropLast from hin.trans HDL.out)
 have his : inn.size ≤ 4194304 := by
  rw [HIN.out, strOf_size, List.length_dropLast]; have := hqs; rw [HQQ.out, strOf_size] at this; omega
 rw [← hin]
 obtain ⟨ws, hws⟩ : ∃ ws, ws = (splitL 44 q.dropLast).map strOf := ⟨_, rfl⟩
 have hwl : 1 ≤ ws.length ∧ ws.length ≤ 4194305 := by
  rw [hws, List.length_map]; have h1 := split_len 44 q.dropLast; have h2 := List.length_pos_iff.2 (splitL_ne 44 q.dropLast)
  have h3 : q.dropLast.length = inn.size := by rw [HIN.out, strOf_size]
  omega
 obtain ⟨hwl1, hwl2⟩ := hwl
 have HCI := Lib.hid (show Calls Tryz.prog 34 #[.string inn, .int .u8 44] w2 fun e w' => (∃ v, e = .returned v ∧ StrsR (From w2.heap.size) w' v ws) ∧ Ext w2 w' from by
  have h := l1Cut_any inn 44 w2 his; rw [HIN.out, list_strOf, ← hws, ← HIN.out] at h
  exact h)
 have HWS := Lib.hid hws; clear hin hws hb5 hx2 hcq hcp
 go_wp2_with (go_at_call 34; refine HCI.out.mono ?_; rintro e w3 ⟨⟨v3, rfl, hv3⟩, hx3⟩; obtain ⟨A3, c3, rfl, ha3, hb3⟩ := SliceR.form hv3; have HV3 := Lib.hid (show StrsR (fun b => b < w3.heap.size ∧ b ≠ w1.heap.size) w3 (.slice A3 ws.length c3) ws from ListK.sub (k := kStr) (ListK.low (k := kStr) hv3) (fun b hb => ⟨hb.2, fun e => absurd hb.1 (Nat.not_le.2 (by omega))⟩)); have HX3 := Lib.hid hx3; clear hv3 hx3)
 have hl3 := HX3.out.size
 have hl3' : w1.heap.size < w3.heap.size := by omega
 have HI0 := Lib.hid (show inn.size = 0 ↔ q.dropLast = [] from by rw [HIN.out, strOf_size]; exact List.length_eq_zero_iff); obtain ⟨i0, hi0, hz0', hz1', hz2'⟩ := info_parts term_info
 go_loopw [8] (fun ii wr => ∃ (i : Nat) (v : Value), ii = .int .i64 i ∧ i ≤ ws.length ∧ (inn.size = 0 → i = 0) ∧ Hid (Blk wr w.heap.size 54 #[.string ⟨#[]⟩, .slice none 0 0]) ∧ Hid (Blk wr w1.heap.size 54 #[.string ps, v]) ∧ Hid (OwnK kTerm w3.heap.size 71 None wr v (((splitL 44 q.dropLast).take i).map argOf)) ∧ Hid (StrsR (fun b => b < w3.heap.size ∧ b ≠ w1.heap.size) wr (.slice A3 ws.length c3) ws) ∧ Ext w wr ∧ w3.heap.size ≤ wr.heap.size) (fun i _ => ws.length - (intOf i).toNat)
 case atStart => exact ⟨0, _, rfl, Nat.zero_le _, fun _ => rfl, Lib.hid (HB2.out.ext HX3.out), Lib.hid (HB5.out.ext HX3.out), OwnK.nil, HV3, (((((Ext.refl w).alloc _).trans' HX1.out).alloc _).trans' HX2.out).trans' HX3.out, Nat.le_refl _⟩
 case round =>
  obtain ⟨i, v, rfl, hi, hi0z, hbz, hba, ho, hst, hx, hsz⟩ := hrel; obtain ⟨A0, n0, c0, rfl, hn0, ha0, hb0⟩ := ho.out.form2; have q0 := hba.out.cell 0; have q1 := hba.out.cell 1; have f1 := hba.out.frozen 1
  have hk0 : (0 : Int) ≤ (i : Int) := by omega
  by_cases hgo : i < ws.length ∧ 0 < inn.size
  · obtain ⟨hlt, hin0⟩ := hgo
    obtain ⟨bw, ow, x, rfl, hbw, hSw, hxw, hxs, hcw⟩ := StrsR.at_S hst.out hlt; have HBW := Lib.hid hSw.1
    have he1 : inn.toList.isEmpty = false := by
     rw [ByteArray.toList_eq, List.isEmpty_eq_false_iff]; intro e; have h1 := congrArg List.length e
     have h2 : inn.data.toList.length = inn.size := by simp
     rw [h2] at h1; have h3 : ([] : List UInt8).length = 0 := rfl; omega
    have he2 : (inn.toList == []) = false := by
     rw [beq_eq_false_iff_ne]; intro e; rw [e] at he1; cases he1
    have HST := Lib.hid (show ((splitL 44 q.dropLast).take (i + 1)).map argOf = ((splitL 44 q.dropLast).take i).map argOf ++ [⟨capB x, x⟩] from by
     rw [HWS.out, List.getElem?_map] at hxw
     cases hy : (splitL 44 q.dropLast)[i]? with
     | none => rw [hy] at hxw; simp at hxw
     | some y =>
       rw [hy] at hxw; simp only [Option.map_some, Option.some.injEq] at hxw; obtain ⟨hyl, rfl⟩ := List.getElem?_eq_some_iff.1 hy; rw [List.take_succ_eq_append_getElem hyl, List.map_append, ← hxw]
       rfl)
    have hk1 : (i : Int) < (ws.length : Int) := by omega
    have hg1 : decide (i < ws.length) = true := decide_eq_true hlt
    have hlen2 : (((splitL 44 q.dropLast).take i).map argOf).length ≤ 4194305 := by rw [List.length_map, List.length_take]; omega
    have HLT := Lib.hid hlt; clear hxw hSw
    go_wp2_with (fail)
    go_region_law
     (first
      | (go_simp; go_at_call 215; refine (l1Arg_any x _ hxs).mono ?_; rintro e w4 ⟨rfl, hx4⟩
         have HX4 := Lib.hid (show Ext wr w4 from by first | exact (Ext.refl wr).drew.trans' hx4 | exact hx4)
         have p1 := ((hba.out.ext HX4.out).cell 1)
         have p1' := (((hba.out.ext HX4.out).alloc (.cells #[.bool (capB x), .string x] 71)).cell 1)
         have hl4 := HX4.out.size
         have p2 := (HX4.out.cells.1 bw (ow + i) hbw).trans hcw)
      | (refine step_appL (o := ⟨some 60, _, _, _, _, _⟩) (k := kTerm) (S := None) (T := None) (base := w3.heap.size) (xs := ((splitL 44 q.dropLast).take i).map argOf) (ys := [⟨capB x, x⟩]) (by rfl) (.tmp 53) (.tmp 59) 52 (by rfl) i0 _ 24 Tryz.underlying52 hi0 hz0' hz1' hz2' (by rfl) (by rfl)
           (ho.out.ext (HX4.out.alloc _)) _ 1 1 (by rfl) (ElemsK.one (k := kTerm) (x := ⟨capB x, x⟩) (Blk.at_new rfl) ⟨rfl, hxs⟩) (fun _ h => h.elim) (maxOf (by omega)) (by omega) (by have := HX4.out.size; go_size) ?_
         intro v5 w5 hap; obtain ⟨A5, n5, c5, rfl, hn5, ha5, hb5⟩ := hap.own.form2; have HAP := Lib.hid hap; have hb5' := ((hba.out.ext HX4.out).alloc _).below hap.below hl3'; have p3 := hb5'.cell 1; have f3 := hb5'.frozen 1; have p4 := (hap.below.cell (p := ⟨bw, ow + i, none⟩) (by have := HBW.out; exact this)).trans (((Ext.refl w4).alloc _).cells.1 bw (ow + i) (by have := HX4.out.size; omega) |>.trans p2)
         clear hap hb5'))
    all_goals
     have HBL := Lib.hid (Below.trans (Below.mono (HX4.out.alloc (.cells #[.bool (capB x), .string x] 71)) hsz) HAP.out.below); go_wp2
     go_roundw
     case rel =>
      refine ⟨i + 1, _, by go_num, HLT.out, fun h => absurd h (by omega), Lib.hid ((hbz.out.below HBL.out (by omega)).far (show w.heap.size ≠ w1.heap.size from by omega) _), Lib.hid (by simpa using (hba.out.below HBL.out hl3').set_ 1 (.slice A5 n5 c5)), Lib.hid (by rw [HST.out]; exact HAP.out.own.set (p := ⟨w1.heap.size, 1, none⟩) hl3' (fun h => h.elim) _), Lib.hid (hst.out.imp (fun _ h => h) (fun b hb hlt => (Below.heap_setCell _ _ _ _ hb.2).trans (HBL.out.block b hb.1)) (by have := HBL.out.size; go_size)), Ext.setNew (a := w) (HAP.out.toExt ((hx.trans' HX4.out).alloc _) (by omega)) (show w.heap.size ≤ w1.heap.size from by omega) _, by have := HBL.out.size; go_size⟩
     case measure => simp [intOf]; omega
  have HARG := Lib.hid (show ((splitL 44 q.dropLast).take i).map argOf = argsOf q.dropLast from by
    unfold argsOf
    by_cases h0 : q.dropLast = []
    · rw [if_pos h0, hi0z (HI0.out.2 h0)]; rfl
    rw [if_neg h0, List.take_of_length_le]
    have h1 : 0 < inn.size := by
     rcases Nat.eq_zero_or_pos inn.size with h | h
     · exact absurd (HI0.out.1 h) h0
     exact h
    have h2 : ws.length = (splitL 44 q.dropLast).length := by rw [HWS.out, List.length_map]
    omega)
  have HTR := Lib.hid (show TermsR (From w3.heap.size) wr (.slice A0 n0 c0) (argsOf q.dropLast) from by
   have h := ho.out.termsO.read; rw [HARG.out] at h
   exact h)
  have hps2 : ps.size ≤ 4194304 := by rw [HPP.out, strOf_size]; omega
  obtain ⟨r, hr⟩ : ∃ r, r = strOf (atomPutL ⟨ps, argsOf q.dropLast⟩) := ⟨_, rfl⟩
  have HR := Lib.hid hr
  have HPUT := Lib.hid (show Calls Tryz.prog 216 #[.agg #[.string ps, .slice A0 n0 c0]] wr fun e w' => e = .returned (.string r) ∧ Ext wr w' from hr ▸ specAtomPut_any ⟨ps, argsOf q.dropLast⟩ _ wr HTR.out hps (by
   have h1 := argsOf_weight q.dropLast
   have h2 : q.dropLast.length = inn.size := by rw [HIN.out, strOf_size]
   have h3 : ps.size ≤ 1500 := by rw [HPP.out, strOf_size]; omega
   have h4 : q.dropLast.length ≤ 1500 := by rw [List.length_dropLast]; omega
   unfold wAtom; show ps.size + wTerms (argsOf q.dropLast) ≤ _
   omega))
  have hk1 : (i : Int) ≤ (ws.length : Int) := by omega
  clear hr
  by_cases hlt : i < ws.length
  · have hg1 : decide (i < ws.length) = true := decide_eq_true hlt
    have hi00 : inn.size = 0 := by
     rcases Nat.eq_zero_or_pos inn.size with h | h
     · exact h
     exact absurd ⟨hlt, h⟩ hgo
    have he1 : inn.toList = [] := by
     rw [ByteArray.toList_eq]; exact List.eq_nil_of_length_eq_zero (by have h2 : inn.data.toList.length = inn.size := (by simp); omega)
    have he2 : inn.toList.isEmpty = true := by rw [he1]; rfl
    clear hgo
    by_cases he : r = s
    · subst he
      have HOK := Lib.hid (show atomOf r.data.toList = some ⟨ps, argsOf q.dropLast⟩ from by
       rw [HAT.out, if_pos, HPP.out]; refine ⟨by have e : r.data.toList.length = r.size := (by simp); omega, HQ0.out, ?_⟩; have := congrArg (fun b : ByteArray => b.data.toList) HR.out; simp only [list_strOf] at this; rw [HPP.out] at this
       exact this.symm)
      go_wp2_with (go_at_call 216; refine HPUT.out.mono ?_; rintro e w6 ⟨rfl, hx6⟩; have hz6 := hbz.out.ext hx6; have ha6 := hba.out.ext hx6; have r0 := hz6.cell 0; have r1 := hz6.cell 1; have s0 := hz6.frozen 0; have s1 := hz6.frozen 1; have t0 := ha6.cell 0; have t1 := ha6.cell 1; have hl6 := hz6.lt; have hl7 := ha6.lt; have HX6 := Lib.hid hx6; clear hx6 hz6 ha6)
      refine bodyPost_ret (v := .tuple #[.agg #[.string ps, .slice A0 n0 c0], .bool true]) (by simp [results, Tryz.results157, go_sem, r0, r1]) rfl ⟨?_, ?_⟩
      · rw [HOK.out]
        refine ⟨_, rfl, ?_⟩; have h := (ho.out.ext HX6.out).termsO; rw [HARG.out] at h; exact TermsO.imp h (fun b hb _ => Nat.le_trans (by omega) hb) (((Agree.refl _ _).setCell (by simp; omega) _).setCell (by simp; omega) _) (by go_size)
      exact Ext.setNew (a := w) (Ext.setNew (hx.trans' HX6.out) (Nat.le_refl _) _) (Nat.le_refl _) _
    have HNO := Lib.hid (show atomOf s.data.toList = none from by
      rw [HAT.out, if_neg]; rintro ⟨_, _, h⟩
      apply he
      rw [HR.out, HPP.out, h]
      exact strOf_list s)
    have hne : (r.toList == s.toList) = false := by
     rw [beq_eq_false_iff_ne]; intro e; rw [ByteArray.toList_eq, ByteArray.toList_eq] at e; exact he (bytes_inj e)
    clear he
    go_wp2_with (go_at_call 216; refine HPUT.out.mono ?_; rintro e w6 ⟨rfl, hx6⟩; have hz6 := hbz.out.ext hx6; have ha6 := hba.out.ext hx6; have r0 := hz6.cell 0; have r1 := hz6.cell 1; have s0 := hz6.frozen 0; have s1 := hz6.frozen 1; have t0 := ha6.cell 0; have t1 := ha6.cell 1; have hl6 := hz6.lt; have hl7 := ha6.lt; have HX6 := Lib.hid hx6; clear hx6 hz6 ha6)
    refine bodyPost_ret (v := .tuple #[.agg #[.string ⟨#[]⟩, .slice none 0 0], .bool false]) (by simp [results, Tryz.results157, go_sem, r0, r1]) rfl ⟨by rw [HNO.out]; rfl, ?_⟩; exact Ext.setNew (a := w) (Ext.setNew (hx.trans' HX6.out) (Nat.le_refl _) _) (Nat.le_refl _) _
  have hg1 : decide (i < ws.length) = false := decide_eq_false hlt; clear hgo
  by_cases he : r = s
  · subst he
    have HOK := Lib.hid (show atomOf r.data.toList = some ⟨ps, argsOf q.dropLast⟩ from by
     rw [HAT.out, if_pos, HPP.out]; refine ⟨by have e : r.data.toList.length = r.size := (by simp); omega, HQ0.out, ?_⟩; have := congrArg (fun b : ByteArray => b.data.toList) HR.out; simp only [list_strOf] at this; rw [HPP.out] at this
     exact this.symm)
    go_wp2_with (go_at_call 216; refine HPUT.out.mono ?_; rintro e w6 ⟨rfl, hx6⟩; have hz6 := hbz.out.ext hx6; have ha6 := hba.out.ext hx6; have r0 := hz6.cell 0; have r1 := hz6.cell 1; have s0 := hz6.frozen 0; have s1 := hz6.frozen 1; have t0 := ha6.cell 0; have t1 := ha6.cell 1; have hl6 := hz6.lt; have hl7 := ha6.lt; have HX6 := Lib.hid hx6; clear hx6 hz6 ha6)
    refine bodyPost_ret (v := .tuple #[.agg #[.string ps, .slice A0 n0 c0], .bool true]) (by simp [results, Tryz.results157, go_sem, r0, r1]) rfl ⟨?_, ?_⟩
    · rw [HOK.out]
      refine ⟨_, rfl, ?_⟩; have h := (ho.out.ext HX6.out).termsO; rw [HARG.out] at h; exact TermsO.imp h (fun b hb _ => Nat.le_trans (by omega) hb) (((Agree.refl _ _).setCell (by simp; omega) _).setCell (by simp; omega) _) (by go_size)
    exact Ext.setNew (a := w) (Ext.setNew (hx.trans' HX6.out) (Nat.le_refl _) _) (Nat.le_refl _) _
  have HNO := Lib.hid (show atomOf s.data.toList = none from by
    rw [HAT.out, if_neg]; rintro ⟨_, _, h⟩
    apply he
    rw [HR.out, HPP.out, h]
    exact strOf_list s)
  have hne : (r.toList == s.toList) = false := by
   rw [beq_eq_false_iff_ne]; intro e; rw [ByteArray.toList_eq, ByteArray.toList_eq] at e; exact he (bytes_inj e)
  clear he
  go_wp2_with (go_at_call 216; refine HPUT.out.mono ?_; rintro e w6 ⟨rfl, hx6⟩; have hz6 := hbz.out.ext hx6; have ha6 := hba.out.ext hx6; have r0 := hz6.cell 0; have r1 := hz6.cell 1; have s0 := hz6.frozen 0; have s1 := hz6.frozen 1; have t0 := ha6.cell 0; have t1 := ha6.cell 1; have hl6 := hz6.lt; have hl7 := ha6.lt; have HX6 := Lib.hid hx6; clear hx6 hz6 ha6)
  refine bodyPost_ret (v := .tuple #[.agg #[.string ⟨#[]⟩, .slice none 0 0], .bool false]) (by simp [results, Tryz.results157, go_sem, r0, r1]) rfl ⟨by rw [HNO.out]; rfl, ?_⟩; exact Ext.setNew (a := w) (Ext.setNew (hx.trans' HX6.out) (Nat.le_refl _) _) (Nat.le_refl _) _
def upTo (c : UInt8) : List UInt8 → List UInt8
 | [] => []
 | x :: l => if x = c ∨ c ∈ l then x :: upTo c l else []
theorem upTo_none {c : UInt8} : ∀ {l : List UInt8}, c ∉ l → upTo c l = []
 | [], _ => rfl
 | x :: l, h => by
   unfold upTo; rw [if_neg]; rintro (h1 | h1)
   · exact h (by simp [h1])
   exact h (List.mem_cons_of_mem _ h1)
theorem upTo_app {c : UInt8} : ∀ (p : List UInt8) {d : List UInt8}, c ∉ d → upTo c (p ++ c :: d) = p ++ [c]
 | [], d, h => by
   show (if c = c ∨ c ∈ d then c :: upTo c d else []) = _; rw [if_pos (.inl rfl), upTo_none h]; rfl
 | x :: p, d, h => by
   show (if x = c ∨ c ∈ p ++ c :: d then x :: upTo c (p ++ c :: d) else []) = _; rw [if_pos (.inr (by simp)), upTo_app p h]; rfl
def endsIn (c : UInt8) (l : List UInt8) : Prop := l = [] ∨ ∃ p, l = p ++ [c]
theorem upTo_end {c : UInt8} {l d : List UInt8} (hl : endsIn c l) (hd : c ∉ d) : upTo c (l ++ d) = l := by
 rcases hl with rfl | ⟨p, rfl⟩
 · exact upTo_none hd
 rw [List.append_assoc, List.singleton_append, upTo_app p hd]
theorem upTo_snoc {c x : UInt8} (l : List UInt8) (h : x ≠ c) : upTo c (l ++ [x]) = upTo c l := by
 induction l with
 | nil => exact upTo_none (by simp; exact fun e => h e.symm)
 | cons y l ih =>
   show (if y = c ∨ c ∈ l ++ [x] then y :: upTo c (l ++ [x]) else []) = (if y = c ∨ c ∈ l then y :: upTo c l else [])
   have e : c ∈ l ++ [x] ↔ c ∈ l := by simp; exact fun e => absurd e.symm h
   rw [ih]
   by_cases hh : y = c ∨ c ∈ l
   · rw [if_pos hh, if_pos (hh.imp id e.2)]
   rw [if_neg hh, if_neg (fun k => hh (k.imp id e.1))]
theorem upTo_len (c : UInt8) : ∀ l : List UInt8, (upTo c l).length ≤ l.length
 | [] => Nat.le_refl _
 | x :: l => by
   have := upTo_len c l
   unfold upTo; split <;> simp <;> omega
theorem last_of {c : UInt8} : ∀ {l : List UInt8}, c ∈ l → ∃ p d, l = p ++ c :: d ∧ c ∉ d
 | [], h => by cases h
 | x :: l, h => by
   by_cases hl : c ∈ l
   · obtain ⟨p, d, h1, h2⟩ := last_of hl
     exact ⟨x :: p, d, by rw [h1]; rfl, h2⟩
   rcases List.mem_cons.1 h with h | h
   · exact ⟨[], l, by rw [h]; rfl, hl⟩
   exact absurd h hl
theorem split_tail {c : UInt8} {d : List UInt8} (hd : c ∉ d) : ∀ p : List UInt8, ∃ a bs, splitL c (p ++ c :: d) = a :: bs ∧ bs.getLast? = some d
 | [] => ⟨[], [d], by rw [List.nil_append, ← List.nil_append (c :: d), splitL_app (p := []) (by simp), splitL_none hd], rfl⟩
 | x :: p => by
   obtain ⟨a, bs, h1, h2⟩ := split_tail hd p
   by_cases hx : x = c
   · subst hx
     refine ⟨[], a :: bs, ?_, ?_⟩
     · show (if x = x then [] :: splitL x (p ++ x :: d) else _) = _
       rw [if_pos rfl, h1]
     rw [List.getLast?_cons, h2]; rfl
   refine ⟨x :: a, bs, ?_, h2⟩; show (if x = c then [] :: splitL c (p ++ c :: d) else match splitL c (p ++ c :: d) with | [] => [[x]] | p :: ps => (x :: p) :: ps) = _; rw [if_neg hx, h1]
theorem split_upTo (c : UInt8) (l : List UInt8) : ∃ z, (splitL c l).getLast? = some z ∧ c ∉ z ∧ l = upTo c l ++ z := by
 by_cases h : c ∈ l
 · obtain ⟨p, d, rfl, hd⟩ := last_of h
   obtain ⟨a, bs, h1, h2⟩ := split_tail hd p; refine ⟨d, ?_, hd, ?_⟩
   · rw [h1, List.getLast?_cons, h2]; rfl
   rw [upTo_app p hd]; simp
 exact ⟨l, by rw [splitL_none h]; rfl, h, by rw [upTo_none h]; rfl⟩
theorem dec_digits (n : Nat) : ∀ c ∈ Lib.decDigits n, 48 ≤ c.toNat ∧ c.toNat ≤ 57 := by
 induction n using Nat.strongRecOn with
 | _ n ih =>
   intro c hc; rw [Lib.decDigits] at hc
   split at hc
   · simp only [List.mem_singleton] at hc
     subst hc; have : (UInt8.ofNat (48 + n)).toNat = 48 + n := UInt8.toNat_ofNat_of_lt' (by show _ < 256; omega); omega
   rcases List.mem_append.1 hc with hc | hc
   · exact ih (n / 10) (by omega) c hc
   simp only [List.mem_singleton] at hc; subst hc; have : (UInt8.ofNat (48 + n % 10)).toNat = 48 + n % 10 := UInt8.toNat_ofNat_of_lt' (by show _ < 256; omega); omega
theorem dec_not (n : Nat) {c : UInt8} (h : c.toNat < 48 ∨ 57 < c.toNat) : c ∉ Lib.decDigits n := fun hc => by have := dec_digits n c hc; omega
theorem dec_pos (n : Nat) : 1 ≤ (Lib.decDigits n).length := by
 rw [Lib.decDigits]; split <;> simp
theorem signed_ends (c : UInt8) : ∀ l : List GA, endsIn 32 (signedL c l)
 | [] => .inl rfl
 | a :: l => by
   have e : signedL c (a :: l) = ([c] ++ atomL a ++ [32]) ++ signedL c l := by simp [signedL]
   rcases signed_ends c l with h | ⟨p, h⟩
   · exact .inr ⟨[c] ++ atomL a, by rw [e, h, List.append_nil]⟩
   exact .inr ⟨[c] ++ atomL a ++ [32] ++ p, by rw [e, h]; simp only [List.append_assoc]⟩
theorem change_ends (g : GC) : endsIn 32 (changeL g) := by
 unfold changeL
 rcases signed_ends 43 g.comes with h | ⟨p, h⟩
 · rw [h, List.append_nil]; exact signed_ends 45 _
 exact .inr ⟨signedL 45 g.goes ++ p, by rw [h, List.append_assoc]⟩
def recTail (t : Int) (l : List UInt8) : List UInt8 := l ++ Lib.decDigits (sumI (logHead t l)).toNat
theorem logLine_tail (t : Int) (l : List UInt8) : logLine t l = (Lib.decDigits t.toNat ++ 58 :: recTail t l) ++ [10] := by
 unfold logLine recTail; show (Lib.decDigits t.toNat ++ [58] ++ l) ++ _ ++ [10] = _; simp
theorem recTail_upTo (t : Int) (g : GC) : upTo 32 (recTail t (changeL g)) = changeL g := upTo_end (change_ends g) (dec_not _ (by decide))
theorem line_inj {t : Int} {g h : GC} (hg : changeOkB g = true) (hh : changeOkB h = true) (e : logLine t (changeL g) = logLine t (changeL h)) : g = h := by
 rw [logLine_tail, logLine_tail] at e; have e1 := List.append_cancel_right e; have e2 := List.append_cancel_left e1
 injection e2 with _ e2
 have e3 := congrArg (upTo 32) e2; rw [recTail_upTo, recTail_upTo] at e3; have h1 := changeOf_some hg; rw [e3, changeOf_some hh] at h1
 injection h1 with h1
 exact h1.symm
open Classical in
noncomputable def recOf (t : Nat) (l : List UInt8) : Option GC := if h : ∃ g, changeOkB g = true ∧ logLine t (changeL g) = l ++ [10] then some h.choose else none
theorem recOf_some {t : Nat} {g : GC} {l : List UInt8} (h : changeOkB g = true) (e : logLine t (changeL g) = l ++ [10]) : recOf t l = some g := by
 have hx : ∃ g, changeOkB g = true ∧ logLine t (changeL g) = l ++ [10] := ⟨g, h, e⟩
 unfold recOf; rw [dif_pos hx]; exact congrArg some (line_inj hx.choose_spec.1 h (hx.choose_spec.2.trans e.symm))
theorem recOf_is {t : Nat} {g : GC} {l : List UInt8} (h : recOf t l = some g) : changeOkB g = true ∧ logLine t (changeL g) = l ++ [10] := by
 unfold recOf at h
 split at h
 · rename_i hx
   injection h with h
   exact h ▸ hx.choose_spec
 cases h
theorem recOf_none {t : Nat} {l : List UInt8} (h : ∀ g, changeOkB g = true → logLine t (changeL g) ≠ l ++ [10]) : recOf t l = none := by
 cases e : recOf t l with
 | none => rfl
 | some g => exact absurd (recOf_is e).2 (h g (recOf_is e).1)
theorem recOf_len {t : Nat} {g : GC} {l : List UInt8} (h : recOf t l = some g) : 3 ≤ l.length := by
 have h1 := congrArg List.length (recOf_is h).2; rw [logLine_tail] at h1; unfold recTail at h1; have h2 := dec_pos (t : Int).toNat; have h3 := dec_pos (sumI (logHead (t : Int) (changeL g))).toNat; simp only [List.length_append, List.length_cons, List.length_nil] at h1; omega
theorem specRec_head {t : Nat} {l : List UInt8} (h : l.take ((Lib.decDigits t).length + 1) ≠ Lib.decDigits t ++ [58]) : recOf t l = none := by
 apply recOf_none
 intro g _ e; rw [logLine_tail] at e; have e := List.append_cancel_right e
 apply h
 rw [← e, show Lib.decDigits (t : Int).toNat ++ 58 :: recTail t (changeL g) = (Lib.decDigits t ++ [58]) ++ recTail t (changeL g) from by simp]; exact List.take_left' (by simp)
theorem specRec_text {t : Nat} {l r : List UInt8} (hl : l = Lib.decDigits t ++ 58 :: r) (h : changeOf (upTo 32 r) = none) : recOf t l = none := by
 apply recOf_none
 intro g hg e; rw [logLine_tail, hl] at e; have e := List.append_cancel_right e; have e := List.append_cancel_left e
 injection e with _ e
 rw [← e, recTail_upTo, changeOf_some hg] at h
 cases h
theorem specRec_yes {t : Nat} {l r : List UInt8} {g : GC} (h : changeOf (upTo 32 r) = some g) (e : logLine t (upTo 32 r) = l ++ [10]) : recOf t l = some g := by
 obtain ⟨h1, h2⟩ := changeOf_is h; exact recOf_some h1 (by rw [h2]; exact e)
theorem specRec_no {t : Nat} {l r : List UInt8} (hl : l = Lib.decDigits t ++ 58 :: r) (e : logLine t (upTo 32 r) ≠ l ++ [10]) : recOf t l = none := by
 apply recOf_none
 intro g hg e2
 apply e
 have e3 := e2; rw [logLine_tail, hl] at e3; have e3 := List.append_cancel_right e3; have e3 := List.append_cancel_left e3
 injection e3 with _ e3
 rw [← e3, recTail_upTo]; exact e2
theorem implRec_colon {t : Nat} {l : List UInt8} (h : (58 : UInt8) ∉ l ++ [10]) : recOf t l = none := by
 apply recOf_none
 intro g _ e; rw [← e, logLine_tail] at h; exact h (by simp)
theorem implRec_text {t : Nat} {l p r : List UInt8} (hl : l ++ [10] = p ++ 58 :: r) (hp : (58 : UInt8) ∉ p) {g : GC} (hg : changeOkB g = true) (e : logLine t (changeL g) = l ++ [10]) : upTo 32 r = changeL g := by
 rw [hl, logLine_tail, List.append_assoc, List.cons_append] at e; have h1 := index_one 58 (Lib.decDigits (t : Int).toNat); have hd : (58 : UInt8) ∉ Lib.decDigits (t : Int).toNat := dec_not _ (by decide); have e1 := congrArg (splitL 58) e; rw [splitL_app hd, splitL_app hp] at e1
 injection e1 with e1 e2
 rw [e1] at e; have e3 := List.append_cancel_left e
 injection e3 with _ e3
 rw [← e3, upTo_snoc _ (by decide), recTail_upTo]
theorem implRec_yes {t : Nat} {l : List UInt8} {g : GC} (h : logPutL t g = l ++ [10]) : recOf t l = some g := by
 unfold logPutL at h
 split at h
 · rename_i hb
   simp only [Bool.and_eq_true] at hb; exact recOf_some hb.1 h
 simp at h
theorem implRec_none {t : Nat} {l p r : List UInt8} (hl : l ++ [10] = p ++ 58 :: r) (hp : (58 : UInt8) ∉ p) (h : changeOf (upTo 32 r) = none) : recOf t l = none := by
 apply recOf_none
 intro g hg e; rw [implRec_text hl hp hg e, changeOf_some hg] at h
 cases h
theorem implRec_no {t : Nat} {l p r : List UInt8} (ht : t ≤ 100000) (hl : l ++ [10] = p ++ 58 :: r) (hp : (58 : UInt8) ∉ p) {g : GC} (h : changeOf (upTo 32 r) = some g) (hn : logPutL t g ≠ l ++ [10]) : recOf t l = none := by
 apply recOf_none
 intro g' hg e; rw [implRec_text hl hp hg e, changeOf_some hg] at h
 injection h with h
 subst h
 apply hn
 unfold logPutL timeB; rw [hg, inB_yes (by omega) (by omega)]; exact e
noncomputable def logRead : Nat → List (List UInt8) → List GC × Nat
 | _, [] => ([], 0)
 | t, w :: ws => match ws with
   | [] => ([], 0)
   | _ :: _ => match recOf t w with
     | none => ([], 0)
     | some g => (g :: (logRead (t + 1) ws).1, w.length + 1 + (logRead (t + 1) ws).2)
theorem logRead_one (t : Nat) (w : List UInt8) : logRead t [w] = ([], 0) := rfl
theorem logRead_none {t : Nat} {w : List UInt8} {ws : List (List UInt8)} (h : recOf t w = none) : logRead t (w :: ws) = ([], 0) := by
 cases ws with
 | nil => rfl
 | cons a b => show (match recOf t w with | none => _ | some g => _) = _; rw [h]
theorem logRead_some {t : Nat} {w : List UInt8} {ws : List (List UInt8)} {g : GC} (hw : ws ≠ []) (h : recOf t w = some g) : logRead t (w :: ws) = (g :: (logRead (t + 1) ws).1, w.length + 1 + (logRead (t + 1) ws).2) := by
 cases ws with
 | nil => exact absurd rfl hw
 | cons a b => show (match recOf t w with | none => _ | some g => _) = _; rw [h]
noncomputable def logGetL (l : List UInt8) : List GC × Nat := if l.length > 400000 then ([], 0) else logRead 0 (splitL 10 l)
def wsum (ws : List (List UInt8)) : Nat := (ws.map fun w => w.length + 1).sum
theorem wsum_split (c : UInt8) (l : List UInt8) : wsum (splitL c l) = l.length + 1 := by
 have h := split_weight c l
 have key : ∀ ws : List (List UInt8), wsum ws = (ws.map List.length).sum + ws.length := by
  intro ws
  induction ws with
  | nil => rfl
  | cons w ws ih => unfold wsum at ih ⊢; simp only [List.map_cons, List.sum_cons, List.length_cons]; omega
 rw [key]; exact h
theorem wsum_drop {ws : List (List UInt8)} {i : Nat} (h : i < ws.length) : wsum (ws.drop i) = ws[i].length + 1 + wsum (ws.drop (i + 1)) := by
 unfold wsum; rw [List.drop_eq_getElem_cons h, List.map_cons, List.sum_cons]
end Go.Proofs.YtmihponoillihaaGreatDoor
namespace Go.Proofs.YtmihponoillihaaGreatDoor
open Go.RowKit
structure TwoO (base hi : Nat) (e : TypeId) (Sc Sg : Nat → Prop) (w : World) (vc : Value) (gc : List GA) (vg : Value) (gg : List GA) : Prop where
 c : OwnO kAtomO base e Sc w vc gc
 g : OwnO kAtomO base e Sg w vg gg
 lc : ∀ b, Sc b → base ≤ b ∧ b < hi
 lg : ∀ b, Sg b → base ≤ b ∧ b < hi
 oc : ∀ b, vc.ownBlock = some b → b < hi ∧ ¬ Sg b ∧ vg.ownBlock ≠ some b
 og : ∀ b, vg.ownBlock = some b → b < hi ∧ ¬ Sc b ∧ vc.ownBlock ≠ some b
 dis : ∀ b, Sc b → ¬ Sg b
section
variable {base hi : Nat} {e : TypeId} {Sc Sg T : Nat → Prop} {w w' : World} {vc vg : Value} {gc gg : List GA}
theorem TwoO.swap (h : TwoO base hi e Sc Sg w vc gc vg gg) : TwoO base hi e Sg Sc w vg gg vc gc := ⟨h.g, h.c, h.lg, h.lc, h.og, h.oc, fun b h1 h2 => h.dis b h2 h1⟩
theorem TwoO.nil (base hi : Nat) (e : TypeId) (w : World) : TwoO base hi e (fun _ => False) (fun _ => False) w (.slice none 0 0) [] (.slice none 0 0) [] :=
 ⟨OwnO.nil, OwnO.nil, fun _ h => h.elim, fun _ h => h.elim, fun b h => by simp [Value.ownBlock] at h, fun b h => by simp [Value.ownBlock] at h, fun _ h => h.elim⟩
theorem TwoO.ext (h : TwoO base hi e Sc Sg w vc gc vg gg) (he : Ext w w') : TwoO base hi e Sc Sg w' vc gc vg gg := ⟨h.c.ext he, h.g.ext he, h.lc, h.lg, h.oc, h.og, h.dis⟩
theorem TwoO.up (h : TwoO base hi e Sc Sg w vc gc vg gg) {hi' : Nat} (hh : hi ≤ hi') : TwoO base hi' e Sc Sg w vc gc vg gg :=
 ⟨h.c, h.g, fun b hb => ⟨(h.lc b hb).1, Nat.lt_of_lt_of_le (h.lc b hb).2 hh⟩, fun b hb => ⟨(h.lg b hb).1, Nat.lt_of_lt_of_le (h.lg b hb).2 hh⟩, fun b hb => ⟨Nat.lt_of_lt_of_le (h.oc b hb).1 hh, (h.oc b hb).2⟩, fun b hb => ⟨Nat.lt_of_lt_of_le (h.og b hb).1 hh, (h.og b hb).2⟩, h.dis⟩
theorem TwoO.set (h : TwoO base hi e Sc Sg w vc gc vg gg) {p : Addr} (hp : p.block < base) (u : Value) : TwoO base hi e Sc Sg (w.setCell p u) vc gc vg gg := by
 have key : ∀ {S : Nat → Prop} {v : Value} {l : List GA}, (∀ b, S b → base ≤ b ∧ b < hi) → OwnO kAtomO base e S w v l → OwnO kAtomO base e S (w.setCell p u) v l := fun hS ho =>
  ho.agree ((Agree.refl _ _).setCell (fun hb => absurd (hS _ hb).1 (Nat.not_le.2 hp)) u) (fun g hg => Below.heap_setCell w p u g (by have := (ho.at_ g hg).1; omega)) (by simp [World.setCell])
 exact ⟨key h.lc h.c, key h.lg h.g, h.lc, h.lg, h.oc, h.og, h.dis⟩
theorem TwoO.app (h : TwoO base hi e Sc Sg w vc gc vg gg) {x : GA} {v' : Value} {m : Nat} (hap : AppedO kAtomO base e (fun b => Sc b ∨ (T b ∧ b < m)) w vc (gc ++ [x]) v' w') (hm : m = w.heap.size) (hT : ∀ b, T b → hi ≤ b) (hb : base ≤ hi) (hh : hi ≤ w.heap.size) :
 TwoO base w'.heap.size e (fun b => Sc b ∨ (T b ∧ b < m)) Sg w' v' (gc ++ [x]) vg gg := by
 subst hm; have hz := hap.grown.size
 have hlt : ∀ b, v'.ownBlock = some b → b < w'.heap.size := fun b hb => (hap.own.at_ b hb).2
 refine ⟨hap.own, ?_, fun b hb' => ?_, fun b hb' => ⟨(h.lg b hb').1, by have := (h.lg b hb').2; omega⟩, fun b hb' => ?_, fun b hb' => ?_, fun b hb' hg => ?_⟩
 · exact h.g.agree (fun b hb' hlt' => hap.grown.block b hlt' (fun e => (h.oc b e.symm).2.1 hb')) (fun g hg => hap.grown.block g (h.g.at_ g hg).2 (fun e => (h.oc g e.symm).2.2 hg)) hz
 · rcases hb' with hb' | ⟨hb', hlt'⟩
   · exact ⟨(h.lc b hb').1, by have := (h.lc b hb').2; omega⟩
   exact ⟨Nat.le_trans hb (hT b hb'), by omega⟩
 · refine ⟨hlt b hb', ?_, ?_⟩
   · rcases hap.at_ with e | e
     · exact (h.oc b (e ▸ hb')).2.1
     rw [e] at hb'; injection hb' with hb'
     intro hg; have := (h.lg b hg).2; omega
   rcases hap.at_ with e | e
   · exact (h.oc b (e ▸ hb')).2.2
   rw [e] at hb'; injection hb' with hb'
   intro hg; have := (h.og b hg).1; omega
 · refine ⟨by have := (h.og b hb').1; omega, ?_, ?_⟩
   · rintro (h1 | ⟨h1, _⟩)
     · exact (h.og b hb').2.1 h1
     have := hT b h1; have := (h.og b hb').1; omega
   rcases hap.at_ with e | e
   · rw [e]; exact (h.og b hb').2.2
   rw [e]; intro e2; injection e2 with e2; have := (h.og b hb').1; omega
 rcases hb' with h1 | ⟨h1, _⟩
 · exact h.dis b h1 hg
 have := hT b h1; have := (h.lg b hg).2; omega
theorem OwnO.slice2 {α : Type} {k : Kind α} {S : Nat → Prop} {v : Value} {xs : List α} (h : OwnO k base e S w v xs) : SliceO k (fun b => S b ∨ v.ownBlock = some b) w v xs := by
 obtain ⟨rows, F, k1, k2, k3, k4, k5, k6⟩ := h
 rcases k1.2 with ⟨rfl, h0⟩ | ⟨g, cap, cur, rfl, hb, hc, h2, h3, h4, h5⟩
 · have : xs = [] := List.eq_nil_of_length_eq_zero h0
   subst this; exact SliceO.nil 0 (Nat.zero_le _) none
 have hblk : Blk w g e cur := hc; refine ⟨_, cap, rfl, h2, h3, fun _ => ⟨g, 0, F, rfl, hblk.lt, .inr rfl, fun j _ => hblk.frozen _, fun i n hn => ⟨.inl (k4 i n hn).1, fun e => k6 g rfl i (e ▸ hn), (k4 i n hn).2⟩, k5, fun i x hx => ?_⟩⟩; obtain ⟨l, m1, m2, m3⟩ := k3 i x hx; refine ⟨l, m1, fun j u hu => ?_, m3⟩; have h6 := m2 j u hu; rw [← h5, List.getElem?_take] at h6
 split at h6
 · rw [hblk.cell, Nat.zero_add]
   simpa using h6
 cases h6
def GotChange (N : Nat) (o : Option GC) (e : Ending) (w' : World) : Prop :=
 match o with
 | none => e = .returned (.tuple #[.agg #[.slice none 0 0, .slice none 0 0], .bool false])
 | some g => ∃ (v u : Value) (Sc Sg : Nat → Prop), e = .returned (.tuple #[.agg #[v, u], .bool true]) ∧ AtomsO Sc w' v g.comes ∧ AtomsO Sg w' u g.goes ∧ (∀ b, Sc b → N ≤ b) ∧ (∀ b, Sg b → N ≤ b) ∧ ∀ b, Sc b → ¬ Sg b
theorem TwoO.got (h : TwoO base hi e Sc Sg w vc gc vg gg) {N : Nat} (hN : N ≤ base) {g : GC} (h1 : g.comes = gc) (h2 : g.goes = gg) : GotChange N (some g) (.returned (.tuple #[.agg #[vc, vg], .bool true])) w := by
 subst h1; subst h2; refine ⟨vc, vg, _, _, rfl, h.c.slice2, h.g.slice2, fun b hb => ?_, fun b hb => ?_, fun b hb hg => ?_⟩
 · rcases hb with hb | hb
   · exact Nat.le_trans hN (h.lc b hb).1
   exact Nat.le_trans hN (h.c.at_ b hb).1
 · rcases hb with hb | hb
   · exact Nat.le_trans hN (h.lg b hb).1
   exact Nat.le_trans hN (h.g.at_ b hb).1
 rcases hb with hb | hb <;> rcases hg with hg | hg
 · exact h.dis b hb hg
 · exact (h.og b hg).2.1 hb
 · exact (h.oc b hb).2.1 hg
 exact (h.oc b hb).2.2 hg
end
end Go.Proofs.YtmihponoillihaaGreatDoor
