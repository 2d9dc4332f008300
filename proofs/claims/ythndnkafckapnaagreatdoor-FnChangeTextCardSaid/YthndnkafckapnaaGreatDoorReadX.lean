/- The walk of the reference's AtomGet. -/
import Derived.Test.YthndnkafckapnaaGreatDoorReadW
import Derived.Test.YthndnkafckapnaaGreatDoorTo
import Derived.Test.YthndnkafckapnaaGreatDoorCalm
import Derived.Deep.RegionLaw
import Derived.IntWalk
namespace Go.Proofs.YthndnkafckapnaaGreatDoor
open Go.RowKit

/-- What reading an atom hands back. -/
def GotAtom (N : Nat) (o : Option GA) (e : Ending) (w' : World) : Prop :=
  match o with
  | none => e = .returned (.tuple #[.agg #[.string ⟨#[]⟩, .slice none 0 0], .bool false])
  | some a => ∃ v, e = .returned (.tuple #[.agg #[.string a.n, v], .bool true]) ∧ TermsO (From N) w' v a.args
def zeroAtom : Value := .agg #[.string ⟨#[]⟩, .slice none 0 0]

theorem specAtom_bad1 {l : List UInt8} (h : (splitL 40 l).length ≠ 2) : atomOf l = none := by
  rw [← specAtom_eq]
  unfold specAtom
  split
  · rename_i p q hs; rw [hs] at h; exact absurd rfl h
  · rfl
theorem specAtom_two {l p q : List UInt8} (h : splitL 40 l = [p, q]) : atomOf l = if l.length ≤ 1500 ∧ q ≠ [] ∧ atomPutL ⟨strOf p, argsOf q.dropLast⟩ = l then some ⟨strOf p, argsOf q.dropLast⟩ else none := by
  rw [← specAtom_eq]
  unfold specAtom
  rw [h]

theorem StrsR.at_S {S : Nat → Prop} {w : World} {A : Option Addr} {n c : Nat} {xs : List ByteArray} (h : StrsR S w (.slice A n c) xs) {k : Nat} (hk : k < n) :
    ∃ (b off : Nat) (x : ByteArray), A = some ⟨b, off, none⟩ ∧ b < w.heap.size ∧ S b ∧ xs[k]? = some x ∧ x.size ≤ maxLen ∧ w.cell? ⟨b, off + k, none⟩ = some (.string x) := by
  obtain ⟨b, off, x, hA, hb, hx, hs, hc⟩ := StrsR.at_ h hk
  obtain ⟨A', c', hv, _, _, h3⟩ := h
  injection hv with e1 e2 e3
  obtain ⟨b', off', ha, _, hS, _⟩ := h3 (by omega)
  rw [← e1, hA] at ha
  injection ha with ha
  injection ha with ha _
  subst ha
  exact ⟨b, off, x, hA, hb, hS, hx, hs, hc⟩
theorem split_weight (c : UInt8) : ∀ l : List UInt8, ((splitL c l).map List.length).sum + (splitL c l).length = l.length + 1
  | [] => rfl
  | x :: l => by
    have ih := split_weight c l
    have hne := splitL_ne c l
    unfold splitL
    split
    · simp only [List.map_cons, List.sum_cons, List.length_cons, List.length_nil]; omega
    · cases hs : splitL c l with
      | nil => exact absurd hs hne
      | cons p ps =>
        rw [hs] at ih
        simp only [List.map_cons, List.sum_cons, List.length_cons] at ih ⊢
        omega
theorem argsOf_weight (l : List UInt8) : wTerms (argsOf l) ≤ l.length + 1 := by
  unfold argsOf
  split
  · simp [wTerms]
  · have h := split_weight 44 l
    unfold wTerms
    rw [List.map_map, List.length_map]
    have e : (wTerm ∘ argOf) = List.length := by
      funext p
      show (strOf p).size = _
      exact strOf_size p
    rw [e]
    omega
theorem split_len (c : UInt8) (l : List UInt8) : (splitL c l).length ≤ l.length + 1 := by have := split_weight c l; omega
theorem drop_last_str {q : List UInt8} {qs : ByteArray} (h : qs = strOf q) : qs.extract 0 (qs.size - 1) = strOf q.dropLast := by
  rw [extract_str _ _ _ (by omega), h, list_strOf, List.drop_zero, strOf_size, Nat.sub_zero, List.dropLast_eq_take]

set_option maxRecDepth 100000 in
set_option maxHeartbeats 8000000 in
theorem specAtomGet_any (s : ByteArray) (w : World) (hs : s.size ≤ 4194304) :
    Calls Tryz.prog 49 #[.string s] w fun e w' => GotAtom w.heap.size (atomOf s.data.toList) e w' ∧ Ext w w' := by
  have HB := Lib.hid (Blk.new w 67 #[.string ⟨#[]⟩, .slice none 0 0])
  have HC := Lib.hid (l1Cut_any s 40 (w.alloc (.cells #[.string ⟨#[]⟩, .slice none 0 0] 67)) hs)
  by_cases h2 : (splitL 40 s.data.toList).length ≠ 2
  · have HN := Lib.hid (specAtom_bad1 h2)
    obtain ⟨n, hn⟩ : ∃ n, n = (splitL 40 s.data.toList).length := ⟨_, rfl⟩
    rw [← hn] at h2
    have hn2 : ((n : Int) != 2) = true := by rw [bne_iff_ne]; omega
    have HNN := Lib.hid hn
    clear hn
    go_enter Tryz.func49, Tryz.ntmps49
    go_wp2_with (go_at_call 48; refine HC.out.mono ?_; rintro e w1 ⟨⟨v1, rfl, hv1⟩, hx1⟩; obtain ⟨A1, c1, rfl, ha1, hb1⟩ := SliceR.form hv1; rw [List.length_map, ← HNN.out]; have hbk := HB.out.ext hx1; have q0 := hbk.cell 0; have q1 := hbk.cell 1; have f0 := hbk.frozen 0; have f1 := hbk.frozen 1; have hl := hbk.lt; clear hbk hv1 ha1)
    refine bodyPost_ret (v := .tuple #[.agg #[.string ⟨#[]⟩, .slice none 0 0], .bool false]) (by simp [results, Tryz.results49, go_sem, q0, q1]) rfl ⟨by rw [HN.out]; rfl, ?_⟩
    exact Ext.setNew (a := w) (Ext.setNew (((Ext.refl w).alloc _).trans' hx1) (Nat.le_refl _) _) (Nat.le_refl _) _
  obtain ⟨p, q, hpq⟩ : ∃ p q, splitL 40 s.data.toList = [p, q] := by
    match hm : splitL 40 s.data.toList, h2 with
    | [p, q], _ => exact ⟨p, q, rfl⟩
    | [], h => exact absurd (by simp) h
    | [_], h => exact absurd (by simp) h
    | _ :: _ :: _ :: _, h => exact absurd (by simp) h
  clear h2
  have hn2 : (((2 : Nat) : Int) != 2) = false := rfl
  have hat := specAtom_two hpq
  have HC' := Lib.hid (show Calls Tryz.prog 48 #[.string s, .int .u8 40] (w.alloc (.cells #[.string ⟨#[]⟩, .slice none 0 0] 67)) fun e w' => ∃ A1 c1, e = .returned (.slice A1 2 c1) ∧ c1 ≤ 9223372036854775807 ∧ 2 ≤ c1 ∧ StrsR (From (w.heap.size + 1)) w' (.slice A1 2 c1) [strOf p, strOf q] ∧ Ext (w.alloc (.cells #[.string ⟨#[]⟩, .slice none 0 0] 67)) w' from
    HC.out.mono fun e w' ⟨⟨v, h1, h2⟩, h3⟩ => by
      rw [hpq] at h2
      simp only [World.size_alloc] at h2
      obtain ⟨A1, c1, rfl, h4, h5⟩ := SliceR.form h2
      exact ⟨A1, c1, h1, h5, h4, h2, h3⟩)
  have hjoin := join_split 40 s.data.toList
  rw [hpq] at hjoin
  have hlen : p.length + 1 + q.length = s.size := by
    have := congrArg List.length hjoin
    simp only [joinL, List.length_append, List.length_cons] at this
    have e : s.data.toList.length = s.size := by simp
    omega
  have hps : (strOf p).size ≤ maxLen := by rw [strOf_size]; exact maxOf (by omega)
  have hqs : (strOf q).size ≤ 4194304 := by rw [strOf_size]; omega
  clear HC
  by_cases hbig : 1500 < s.size
  · have HN := Lib.hid (show atomOf s.data.toList = none from by rw [hat, if_neg]; rintro ⟨h, _⟩; have e : s.data.toList.length = s.size := (by simp); omega)
    have g1 : decide ((1500 : Int) < (s.size : Int)) = true := decide_eq_true (by omega)
    clear hat hpq hjoin
    go_enter Tryz.func49, Tryz.ntmps49
    go_wp2_with (go_at_call 48; refine HC'.out.mono ?_; rintro e w1 ⟨A1, c1, rfl, hb1, ha1, hv1, hx1⟩; have hbk := HB.out.ext hx1; have q0 := hbk.cell 0; have q1 := hbk.cell 1; have f0 := hbk.frozen 0; have f1 := hbk.frozen 1; have hl := hbk.lt; clear hbk hv1 ha1)
    refine bodyPost_ret (v := .tuple #[.agg #[.string ⟨#[]⟩, .slice none 0 0], .bool false]) (by simp [results, Tryz.results49, go_sem, q0, q1]) rfl ⟨by rw [HN.out]; rfl, ?_⟩
    exact Ext.setNew (a := w) (Ext.setNew (((Ext.refl w).alloc _).trans' hx1) (Nat.le_refl _) _) (Nat.le_refl _) _
  have g1 : decide ((1500 : Int) < (s.size : Int)) = false := decide_eq_false (by omega)
  by_cases hq0 : q = []
  · have HN := Lib.hid (show atomOf s.data.toList = none from by rw [hat, if_neg]; rintro ⟨_, h, _⟩; exact h hq0)
    obtain ⟨qs, hqq⟩ : ∃ qs, qs = strOf q := ⟨_, rfl⟩
    have hz : qs.size = 0 := by rw [hqq, strOf_size, hq0]; rfl
    rw [← hqq] at HC'
    clear hat hpq hjoin hqq hq0
    go_enter Tryz.func49, Tryz.ntmps49
    go_wp2_with (go_at_call 48; refine HC'.out.mono ?_; rintro e w1 ⟨A1, c1, rfl, hb1, ha1, hv1, hx1⟩; obtain ⟨bq, oq, xq, rfl, hbq, hxq, _, hcq⟩ := StrsR.at_ hv1 (k := 1) (by omega); simp only [List.getElem?_cons_succ, List.getElem?_cons_zero, Option.some.injEq] at hxq; subst hxq; have hbk := HB.out.ext hx1; have q0 := hbk.cell 0; have q1 := hbk.cell 1; have f0 := hbk.frozen 0; have f1 := hbk.frozen 1; have hl := hbk.lt; clear hbk hv1)
    refine bodyPost_ret (v := .tuple #[.agg #[.string ⟨#[]⟩, .slice none 0 0], .bool false]) (by simp [results, Tryz.results49, go_sem, q0, q1]) rfl ⟨by rw [HN.out]; rfl, ?_⟩
    exact Ext.setNew (a := w) (Ext.setNew (((Ext.refl w).alloc _).trans' hx1) (Nat.le_refl _) _) (Nat.le_refl _) _
  obtain ⟨ps, hpp⟩ : ∃ ps, ps = strOf p := ⟨_, rfl⟩
  obtain ⟨qs, hqq⟩ : ∃ qs, qs = strOf q := ⟨_, rfl⟩
  have hz0 : 0 < qs.size := by rw [hqq, strOf_size]; exact List.length_pos_iff.2 hq0
  have hz1 : ((qs.size : Int) == 0) = false := by rw [beq_eq_false_iff_ne]; omega
  rw [← hpp, ← hqq] at HC'
  rw [← hpp] at hps
  rw [← hqq] at hqs
  have hq63 : (qs.size : Int) ≤ 4194304 := by omega
  have hw1 : IntKind.i64.wrap ((qs.size : Int) - 1) = (qs.size : Int) - 1 := IntWalk.i64_in _ ⟨by omega, by omega⟩
  have HPP := Lib.hid hpp
  have HQQ := Lib.hid hqq
  have HAT := Lib.hid hat
  have HJ := Lib.hid hjoin
  have HQ0 := Lib.hid hq0
  clear hat hjoin hpq hpp hqq hq0
  go_enter Tryz.func49, Tryz.ntmps49
  go_wp2_with (go_at_call 48; refine HC'.out.mono ?_; rintro e w1 ⟨A1, c1, rfl, hb1, ha1, hv1, hx1⟩; obtain ⟨bq, oq, xq, rfl, hbq, hxq, _, hcq⟩ := StrsR.at_ hv1 (k := 1) (by omega); obtain ⟨bq', oq', xp, hbe, _, hxp, _, hcp⟩ := StrsR.at_ hv1 (k := 0) (by omega); injection hbe with hbe; injection hbe with hbe1 hbe2; subst hbe1; subst hbe2; simp only [List.getElem?_cons_succ, List.getElem?_cons_zero, Option.some.injEq] at hxq hxp; subst hxq; subst hxp; rw [Nat.add_zero] at hcp; have hbk := HB.out.ext hx1; have HB1 := Lib.hid hbk; have hl := hbk.lt; have HX1 := Lib.hid hx1; clear hbk hv1 hx1)
  refine calm_region (by kernel_rfl) (by kernel_rfl) ?_
  repeat (go_big_quiet_step (fail))
  refine wpQuiet_nil ?_
  rintro w2 ⟨⟨_, hx2⟩, rfl⟩
  have HX2 := Lib.hid hx2
  have hb5 := (Blk.new w1 67 #[.string ps, .slice none 0 0]).ext hx2
  have HB5 := Lib.hid hb5
  have HB2 := Lib.hid ((HB1.out.alloc (.cells #[.string ps, .slice none 0 0] 67)).ext hx2)
  have hl2 := hb5.lt
  have HDL := Lib.hid (drop_last_str HQQ.out)
  obtain ⟨inn, hin⟩ : ∃ inn, inn = qs.extract 0 (qs.size - 1) := ⟨_, rfl⟩
  have HIN := Lib.hid (show inn = strOf q.dropLast from hin.trans HDL.out)
  have his : inn.size ≤ 4194304 := by
    rw [HIN.out, strOf_size, List.length_dropLast]
    have := hqs; rw [HQQ.out, strOf_size] at this; omega
  rw [← hin]
  obtain ⟨ws, hws⟩ : ∃ ws, ws = (splitL 44 q.dropLast).map strOf := ⟨_, rfl⟩
  have hwl : 1 ≤ ws.length ∧ ws.length ≤ 4194305 := by
    rw [hws, List.length_map]
    have h1 := split_len 44 q.dropLast
    have h2 := List.length_pos_iff.2 (splitL_ne 44 q.dropLast)
    have h3 : q.dropLast.length = inn.size := by rw [HIN.out, strOf_size]
    omega
  obtain ⟨hwl1, hwl2⟩ := hwl
  have HCI := Lib.hid (show Calls Tryz.prog 48 #[.string inn, .int .u8 44] w2 fun e w' => (∃ v, e = .returned v ∧ StrsR (From w2.heap.size) w' v ws) ∧ Ext w2 w' from by
    have h := l1Cut_any inn 44 w2 his
    rw [HIN.out, list_strOf, ← hws, ← HIN.out] at h
    exact h)
  have HWS := Lib.hid hws
  clear hin hws hb5 hx2 hcq hcp
  go_wp2_with (go_at_call 48; refine HCI.out.mono ?_; rintro e w3 ⟨⟨v3, rfl, hv3⟩, hx3⟩; obtain ⟨A3, c3, rfl, ha3, hb3⟩ := SliceR.form hv3; have HV3 := Lib.hid (show StrsR (fun b => b < w3.heap.size ∧ b ≠ w1.heap.size) w3 (.slice A3 ws.length c3) ws from ListK.sub (k := kStr) (ListK.low (k := kStr) hv3) (fun b hb => ⟨hb.2, fun e => absurd hb.1 (Nat.not_le.2 (by omega))⟩)); have HX3 := Lib.hid hx3; clear hv3 hx3)
  have hl3 := HX3.out.size
  have hl3' : w1.heap.size < w3.heap.size := by omega
  have HI0 := Lib.hid (show inn.size = 0 ↔ q.dropLast = [] from by rw [HIN.out, strOf_size]; exact List.length_eq_zero_iff)
  obtain ⟨i0, hi0, hz0', hz1', hz2'⟩ := info_parts term_info
  go_loopw [8] (fun ii wr => ∃ (i : Nat) (v : Value), ii = .int .i64 i ∧ i ≤ ws.length ∧ (inn.size = 0 → i = 0) ∧ Hid (Blk wr w.heap.size 67 #[.string ⟨#[]⟩, .slice none 0 0]) ∧ Hid (Blk wr w1.heap.size 67 #[.string ps, v]) ∧ Hid (OwnK kTerm w3.heap.size 125 None wr v (((splitL 44 q.dropLast).take i).map argOf)) ∧ Hid (StrsR (fun b => b < w3.heap.size ∧ b ≠ w1.heap.size) wr (.slice A3 ws.length c3) ws) ∧ Ext w wr ∧ w3.heap.size ≤ wr.heap.size) (fun i _ => ws.length - (intOf i).toNat)
  case atStart => exact ⟨0, _, rfl, Nat.zero_le _, fun _ => rfl, Lib.hid (HB2.out.ext HX3.out), Lib.hid (HB5.out.ext HX3.out), OwnK.nil, HV3, (((((Ext.refl w).alloc _).trans' HX1.out).alloc _).trans' HX2.out).trans' HX3.out, Nat.le_refl _⟩
  case round =>
    obtain ⟨i, v, rfl, hi, hi0z, hbz, hba, ho, hst, hx, hsz⟩ := hrel
    obtain ⟨A0, n0, c0, rfl, hn0, ha0, hb0⟩ := ho.out.form2
    have q0 := hba.out.cell 0
    have q1 := hba.out.cell 1
    have f1 := hba.out.frozen 1
    have hk0 : (0 : Int) ≤ (i : Int) := by omega
    by_cases hgo : i < ws.length ∧ 0 < inn.size
    · obtain ⟨hlt, hin0⟩ := hgo
      obtain ⟨bw, ow, x, rfl, hbw, hSw, hxw, hxs, hcw⟩ := StrsR.at_S hst.out hlt
      have HBW := Lib.hid hSw.1
      have he1 : inn.toList.isEmpty = false := by
        rw [ByteArray.toList_eq, List.isEmpty_eq_false_iff]
        intro e
        have h1 := congrArg List.length e
        have h2 : inn.data.toList.length = inn.size := by simp
        rw [h2] at h1
        have h3 : ([] : List UInt8).length = 0 := rfl
        omega
      have he2 : (inn.toList == []) = false := by
        rw [beq_eq_false_iff_ne]
        intro e; rw [e] at he1; cases he1
      have HST := Lib.hid (show ((splitL 44 q.dropLast).take (i + 1)).map argOf = ((splitL 44 q.dropLast).take i).map argOf ++ [⟨capB x, x⟩] from by
        rw [HWS.out, List.getElem?_map] at hxw
        cases hy : (splitL 44 q.dropLast)[i]? with
        | none => rw [hy] at hxw; simp at hxw
        | some y =>
          rw [hy] at hxw
          simp only [Option.map_some, Option.some.injEq] at hxw
          obtain ⟨hyl, rfl⟩ := List.getElem?_eq_some_iff.1 hy
          rw [List.take_succ_eq_append_getElem hyl, List.map_append, ← hxw]
          rfl)
      have hk1 : (i : Int) < (ws.length : Int) := by omega
      have hg1 : decide (i < ws.length) = true := decide_eq_true hlt
      have hlen2 : (((splitL 44 q.dropLast).take i).map argOf).length ≤ 4194305 := by rw [List.length_map, List.length_take]; omega
      have HLT := Lib.hid hlt
      clear hxw hSw
      go_wp2_with (fail)
      go_region_law
        (first
          | (go_simp; go_at_call 93; refine (l1Arg_any x _ hxs).mono ?_; rintro e w4 ⟨rfl, hx4⟩
             have HX4 := Lib.hid (show Ext wr w4 from by first | exact (Ext.refl wr).drew.trans' hx4 | exact hx4)
             have p1 := ((hba.out.ext HX4.out).cell 1)
             have p1' := (((hba.out.ext HX4.out).alloc (.cells #[.bool (capB x), .string x] 125)).cell 1)
             have hl4 := HX4.out.size
             have p2 := (HX4.out.cells.1 bw (ow + i) hbw).trans hcw)
          | (refine step_appL (o := ⟨some 60, _, _, _, _, _⟩) (k := kTerm) (S := None) (T := None) (base := w3.heap.size) (xs := ((splitL 44 q.dropLast).take i).map argOf) (ys := [⟨capB x, x⟩]) (by rfl) (.tmp 53) (.tmp 59) 65 (by rfl) i0 _ 24 Tryz.underlying65 hi0 hz0' hz1' hz2' (by rfl) (by rfl)
               (ho.out.ext (HX4.out.alloc _)) _ 1 1 (by rfl) (ElemsK.one (k := kTerm) (x := ⟨capB x, x⟩) (Blk.at_new rfl) ⟨rfl, hxs⟩) (fun _ h => h.elim) (maxOf (by omega)) (by omega) (by have := HX4.out.size; go_size) ?_
             intro v5 w5 hap
             obtain ⟨A5, n5, c5, rfl, hn5, ha5, hb5⟩ := hap.own.form2
             have HAP := Lib.hid hap
             have hb5' := ((hba.out.ext HX4.out).alloc _).below hap.below hl3'
             have p3 := hb5'.cell 1
             have f3 := hb5'.frozen 1
             have p4 := (hap.below.cell (p := ⟨bw, ow + i, none⟩) (by have := HBW.out; exact this)).trans (((Ext.refl w4).alloc _).cells.1 bw (ow + i) (by have := HX4.out.size; omega) |>.trans p2)
             clear hap hb5'))
      all_goals
        have HBL := Lib.hid (Below.trans (Below.mono (HX4.out.alloc (.cells #[.bool (capB x), .string x] 125)) hsz) HAP.out.below)
        go_wp2
        go_roundw
        case rel =>
          refine ⟨i + 1, _, by go_num, HLT.out, fun h => absurd h (by omega), Lib.hid ((hbz.out.below HBL.out (by omega)).far (show w.heap.size ≠ w1.heap.size from by omega) _), Lib.hid (by simpa using (hba.out.below HBL.out hl3').set_ 1 (.slice A5 n5 c5)), Lib.hid (by rw [HST.out]; exact HAP.out.own.set (p := ⟨w1.heap.size, 1, none⟩) hl3' (fun h => h.elim) _), Lib.hid (hst.out.imp (fun _ h => h) (fun b hb hlt => (Below.heap_setCell _ _ _ _ hb.2).trans (HBL.out.block b hb.1)) (by have := HBL.out.size; go_size)), Ext.setNew (a := w) (HAP.out.toExt ((hx.trans' HX4.out).alloc _) (by omega)) (show w.heap.size ≤ w1.heap.size from by omega) _, by have := HBL.out.size; go_size⟩
        case measure => simp [intOf]; omega
    · have HARG := Lib.hid (show ((splitL 44 q.dropLast).take i).map argOf = argsOf q.dropLast from by
        unfold argsOf
        by_cases h0 : q.dropLast = []
        · rw [if_pos h0, hi0z (HI0.out.2 h0)]; rfl
        · rw [if_neg h0, List.take_of_length_le]
          have h1 : 0 < inn.size := by
            rcases Nat.eq_zero_or_pos inn.size with h | h
            · exact absurd (HI0.out.1 h) h0
            · exact h
          have h2 : ws.length = (splitL 44 q.dropLast).length := by rw [HWS.out, List.length_map]
          omega)
      have HTR := Lib.hid (show TermsR (From w3.heap.size) wr (.slice A0 n0 c0) (argsOf q.dropLast) from by
        have h := ho.out.termsO.read
        rw [HARG.out] at h
        exact h)
      have hps2 : ps.size ≤ 4194304 := by rw [HPP.out, strOf_size]; omega
      obtain ⟨r, hr⟩ : ∃ r, r = strOf (atomPutL ⟨ps, argsOf q.dropLast⟩) := ⟨_, rfl⟩
      have HR := Lib.hid hr
      have HPUT := Lib.hid (show Calls Tryz.prog 94 #[.agg #[.string ps, .slice A0 n0 c0]] wr fun e w' => e = .returned (.string r) ∧ Ext wr w' from hr ▸ specAtomPut_any ⟨ps, argsOf q.dropLast⟩ _ wr HTR.out hps (by
        have h1 := argsOf_weight q.dropLast
        have h2 : q.dropLast.length = inn.size := by rw [HIN.out, strOf_size]
        have h3 : ps.size ≤ 1500 := by rw [HPP.out, strOf_size]; omega
        have h4 : q.dropLast.length ≤ 1500 := by rw [List.length_dropLast]; omega
        unfold wAtom
        show ps.size + wTerms (argsOf q.dropLast) ≤ _
        omega))
      have hk1 : (i : Int) ≤ (ws.length : Int) := by omega
      clear hr
      by_cases hlt : i < ws.length
      · have hg1 : decide (i < ws.length) = true := decide_eq_true hlt
        have hi00 : inn.size = 0 := by
          rcases Nat.eq_zero_or_pos inn.size with h | h
          · exact h
          · exact absurd ⟨hlt, h⟩ hgo
        have he1 : inn.toList = [] := by
          rw [ByteArray.toList_eq]
          exact List.eq_nil_of_length_eq_zero (by have h2 : inn.data.toList.length = inn.size := (by simp); omega)
        have he2 : inn.toList.isEmpty = true := by rw [he1]; rfl

        clear hgo
        by_cases he : r = s
        · subst he
          have HOK := Lib.hid (show atomOf r.data.toList = some ⟨ps, argsOf q.dropLast⟩ from by
            rw [HAT.out, if_pos, HPP.out]
            refine ⟨by have e : r.data.toList.length = r.size := (by simp); omega, HQ0.out, ?_⟩
            have := congrArg (fun b : ByteArray => b.data.toList) HR.out
            simp only [list_strOf] at this
            rw [HPP.out] at this
            exact this.symm)
          go_wp2_with (go_at_call 94; refine HPUT.out.mono ?_; rintro e w6 ⟨rfl, hx6⟩; have hz6 := hbz.out.ext hx6; have ha6 := hba.out.ext hx6; have r0 := hz6.cell 0; have r1 := hz6.cell 1; have s0 := hz6.frozen 0; have s1 := hz6.frozen 1; have t0 := ha6.cell 0; have t1 := ha6.cell 1; have hl6 := hz6.lt; have hl7 := ha6.lt; have HX6 := Lib.hid hx6; clear hx6 hz6 ha6)
          refine bodyPost_ret (v := .tuple #[.agg #[.string ps, .slice A0 n0 c0], .bool true]) (by simp [results, Tryz.results49, go_sem, r0, r1]) rfl ⟨?_, ?_⟩
          · rw [HOK.out]
            refine ⟨_, rfl, ?_⟩
            have h := (ho.out.ext HX6.out).termsO
            rw [HARG.out] at h
            exact TermsO.imp h (fun b hb _ => Nat.le_trans (by omega) hb) (((Agree.refl _ _).setCell (by simp; omega) _).setCell (by simp; omega) _) (by go_size)
          · exact Ext.setNew (a := w) (Ext.setNew (hx.trans' HX6.out) (Nat.le_refl _) _) (Nat.le_refl _) _
        · have HNO := Lib.hid (show atomOf s.data.toList = none from by
            rw [HAT.out, if_neg]
            rintro ⟨_, _, h⟩
            apply he
            rw [HR.out, HPP.out, h]
            exact strOf_list s)
          have hne : (r.toList == s.toList) = false := by
            rw [beq_eq_false_iff_ne]
            intro e
            rw [ByteArray.toList_eq, ByteArray.toList_eq] at e
            exact he (bytes_inj e)
          clear he
          go_wp2_with (go_at_call 94; refine HPUT.out.mono ?_; rintro e w6 ⟨rfl, hx6⟩; have hz6 := hbz.out.ext hx6; have ha6 := hba.out.ext hx6; have r0 := hz6.cell 0; have r1 := hz6.cell 1; have s0 := hz6.frozen 0; have s1 := hz6.frozen 1; have t0 := ha6.cell 0; have t1 := ha6.cell 1; have hl6 := hz6.lt; have hl7 := ha6.lt; have HX6 := Lib.hid hx6; clear hx6 hz6 ha6)
          refine bodyPost_ret (v := .tuple #[.agg #[.string ⟨#[]⟩, .slice none 0 0], .bool false]) (by simp [results, Tryz.results49, go_sem, r0, r1]) rfl ⟨by rw [HNO.out]; rfl, ?_⟩
          exact Ext.setNew (a := w) (Ext.setNew (hx.trans' HX6.out) (Nat.le_refl _) _) (Nat.le_refl _) _
      · have hg1 : decide (i < ws.length) = false := decide_eq_false hlt

        clear hgo
        by_cases he : r = s
        · subst he
          have HOK := Lib.hid (show atomOf r.data.toList = some ⟨ps, argsOf q.dropLast⟩ from by
            rw [HAT.out, if_pos, HPP.out]
            refine ⟨by have e : r.data.toList.length = r.size := (by simp); omega, HQ0.out, ?_⟩
            have := congrArg (fun b : ByteArray => b.data.toList) HR.out
            simp only [list_strOf] at this
            rw [HPP.out] at this
            exact this.symm)
          go_wp2_with (go_at_call 94; refine HPUT.out.mono ?_; rintro e w6 ⟨rfl, hx6⟩; have hz6 := hbz.out.ext hx6; have ha6 := hba.out.ext hx6; have r0 := hz6.cell 0; have r1 := hz6.cell 1; have s0 := hz6.frozen 0; have s1 := hz6.frozen 1; have t0 := ha6.cell 0; have t1 := ha6.cell 1; have hl6 := hz6.lt; have hl7 := ha6.lt; have HX6 := Lib.hid hx6; clear hx6 hz6 ha6)
          refine bodyPost_ret (v := .tuple #[.agg #[.string ps, .slice A0 n0 c0], .bool true]) (by simp [results, Tryz.results49, go_sem, r0, r1]) rfl ⟨?_, ?_⟩
          · rw [HOK.out]
            refine ⟨_, rfl, ?_⟩
            have h := (ho.out.ext HX6.out).termsO
            rw [HARG.out] at h
            exact TermsO.imp h (fun b hb _ => Nat.le_trans (by omega) hb) (((Agree.refl _ _).setCell (by simp; omega) _).setCell (by simp; omega) _) (by go_size)
          · exact Ext.setNew (a := w) (Ext.setNew (hx.trans' HX6.out) (Nat.le_refl _) _) (Nat.le_refl _) _
        · have HNO := Lib.hid (show atomOf s.data.toList = none from by
            rw [HAT.out, if_neg]
            rintro ⟨_, _, h⟩
            apply he
            rw [HR.out, HPP.out, h]
            exact strOf_list s)
          have hne : (r.toList == s.toList) = false := by
            rw [beq_eq_false_iff_ne]
            intro e
            rw [ByteArray.toList_eq, ByteArray.toList_eq] at e
            exact he (bytes_inj e)
          clear he
          go_wp2_with (go_at_call 94; refine HPUT.out.mono ?_; rintro e w6 ⟨rfl, hx6⟩; have hz6 := hbz.out.ext hx6; have ha6 := hba.out.ext hx6; have r0 := hz6.cell 0; have r1 := hz6.cell 1; have s0 := hz6.frozen 0; have s1 := hz6.frozen 1; have t0 := ha6.cell 0; have t1 := ha6.cell 1; have hl6 := hz6.lt; have hl7 := ha6.lt; have HX6 := Lib.hid hx6; clear hx6 hz6 ha6)
          refine bodyPost_ret (v := .tuple #[.agg #[.string ⟨#[]⟩, .slice none 0 0], .bool false]) (by simp [results, Tryz.results49, go_sem, r0, r1]) rfl ⟨by rw [HNO.out]; rfl, ?_⟩
          exact Ext.setNew (a := w) (Ext.setNew (hx.trans' HX6.out) (Nat.le_refl _) _) (Nat.le_refl _) _

end Go.Proofs.YthndnkafckapnaaGreatDoor
