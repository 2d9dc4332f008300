/- Part of the texts of a proof; what they say stands at each theorem. -/
import Derived.Lib.SplitLaws
import Derived.Test.YtmihponoillihaaGreatDoorBas27
set_option linter.unusedSimpArgs false
set_option linter.unusedVariables false
namespace Go.Proofs.YtmihponoillihaaGreatDoor
open Go.RowKit
def MaxIs (w : World) : Prop := ∃ m, w.cell? ⟨2, 0, none⟩ = some (.int .i64 m)
theorem MaxIs.ext {w w' : World} (h : MaxIs w) (he : Ext w w') : MaxIs w' := by
 obtain ⟨m, hm⟩ := h; exact ⟨m, (he.cells.1 _ _ (cell_lt hm)).trans hm⟩
theorem splitK_eq (c : UInt8) : ∀ (n : Nat) (l : List UInt8), l.length ≤ n → Lib.splitK [c] 0 (Lib.count l [c]) l = splitL c l
 | 0, l, h => by
   have : l = [] := List.eq_nil_of_length_eq_zero (by omega); subst this; rfl
 | n + 1, l, h => by
   rcases index_one c l with ⟨h1, h2⟩ | ⟨p, r, h0, h1, h2⟩
   · rw [Lib.count_miss h2, splitL_none h1]; rfl
   have hc := Lib.count_hit (s := l) (sub := [c]) (by simp) h2
   have hd : l.drop (p.length + [c].length) = r := by rw [h0]; simp
   rw [hd] at hc; rw [hc, Nat.add_comm]
   have hm : ¬ (Lib.index l [c] == -1) = true := by rw [h2]; simp
   unfold Lib.splitK; rw [if_neg hm, h2]
   have e1 : ((p.length : Int).toNat + 0) = p.length := by omega
   have e2 : ((p.length : Int).toNat + [c].length) = p.length + [c].length := by omega
   rw [e1, e2, hd, splitK_eq c n r (by have := congrArg List.length h0; simp at this; omega)]
   have e3 : l.take p.length = p := by rw [h0]; simp
   rw [e3, h0, splitL_app h1]
theorem suffix_yes (m : List UInt8) : Lib.hasSuffix (m ++ [41]) [41] = true ∧ Lib.trimSuffix (m ++ [41]) [41] = m := by
 have h : Lib.hasSuffix (m ++ [41]) [41] = true := by
  unfold Lib.hasSuffix; rw [List.isSuffixOf_iff_suffix]; exact ⟨m, rfl⟩
 refine ⟨h, ?_⟩; unfold Lib.trimSuffix; rw [if_pos h]; simp
theorem suffix_no {l : List UInt8} (h : l.getLast? ≠ some 41) : Lib.hasSuffix l [41] = false := by
 cases hs : Lib.hasSuffix l [41] with
 | false => rfl
 | true =>
   unfold Lib.hasSuffix at hs; rw [List.isSuffixOf_iff_suffix] at hs; obtain ⟨m, rfl⟩ := hs; exact absurd (by simp) h
theorem strCut_any (s : ByteArray) (c : UInt8) (w : World) (hs : s.size ≤ 4194304) (hm : MaxIs w) :
 Calls Tryz.prog 154 #[.string s, .string ⟨#[c]⟩] w fun e w' => e = .returned (.tuple #[.string (strOf (Lib.cut s.data.toList [c]).1), .string (strOf (Lib.cut s.data.toList [c]).2.1), .bool (Lib.cut s.data.toList [c]).2.2]) ∧ Ext w w' := by
 obtain ⟨m, hm⟩ := hm
 exact (Tryz.strings_Cut s ⟨#[c]⟩ m w (by omega) hm).mono fun e w' ⟨h1, n, h2⟩ => ⟨h1, by rw [h2]; exact (Ext.refl w).drewN n⟩
theorem strCutSuffix_any (s : ByteArray) (w : World) (hs : s.size ≤ 4194304) :
 Calls Tryz.prog 288 #[.string s, .string ⟨#[41]⟩] w fun e w' => e = .returned (.tuple #[.string (strOf (Lib.trimSuffix s.data.toList [41])), .bool (Lib.hasSuffix s.data.toList [41])]) ∧ w = w' :=
 (Tryz.strings_CutSuffix s ⟨#[41]⟩ w (by omega)).mono fun e w' ⟨h1, h2⟩ => ⟨h1, h2.symm⟩
theorem strSplit_any (s : ByteArray) (c : UInt8) (w : World) (hs : s.size ≤ 4194304) (hm : MaxIs w) :
 Calls Tryz.prog 289 #[.string s, .string ⟨#[c]⟩] w fun e w' => (∃ v, e = .returned v ∧ StrsR (From w.heap.size) w' v ((splitL c s.data.toList).map strOf)) ∧ Ext w w' := by
 obtain ⟨m, hm⟩ := hm
 refine (Tryz.strings_Split s ⟨#[c]⟩ m w (by omega) hm (Nat.le_refl _)).mono fun e w' ⟨h1, h2⟩ => ?_
 subst h2; have hd := Lib.splitB_data ⟨#[c]⟩ 0 (Lib.countB s ⟨#[c]⟩) s; have hk : Lib.splitK [c] 0 (Lib.countB s ⟨#[c]⟩) s.data.toList = splitL c s.data.toList := splitK_eq c _ _ (Nat.le_refl _); have hd' : (Lib.splitB ⟨#[c]⟩ 0 (Lib.countB s ⟨#[c]⟩) s).map (·.data.toList) = splitL c s.data.toList := hd.trans hk
 have hw : (splitL c s.data.toList).map strOf = Lib.splitB ⟨#[c]⟩ 0 (Lib.countB s ⟨#[c]⟩) s := by
  rw [← hd', List.map_map]
  conv => rhs; rw [← List.map_id (Lib.splitB ⟨#[c]⟩ 0 (Lib.countB s ⟨#[c]⟩) s)]
  exact List.map_congr_left fun t _ => strOf_list t
 have hcount : (splitL c s.data.toList).length = Lib.countB s ⟨#[c]⟩ + 1 := by
  have key : ∀ l : List UInt8, (splitL c l).length = Lib.count l [c] + 1 := by
   intro l; rw [Lib.count_one]
   induction l with
   | nil => rfl
   | cons x l ih =>
     unfold splitL
     by_cases hx : x = c
     · subst hx
       rw [if_pos rfl, List.length_cons, ih, List.count_cons_self]
     rw [if_neg hx, List.count_cons_of_ne hx]; have hne := splitL_ne c l
     cases hs' : splitL c l with
     | nil => exact absurd hs' hne
     | cons p ps => rw [hs'] at ih; exact ih
  exact key _
 refine ⟨⟨_, h1, ?_⟩, (Ext.refl _).alloc _⟩
 have hlen : ((splitL c s.data.toList).map strOf).length = Lib.countB s ⟨#[c]⟩ + 1 := by rw [List.length_map, hcount]
 rw [← hw]; refine ⟨_, Lib.countB s ⟨#[c]⟩ + 1, by rw [hlen], by rw [hlen]; exact Nat.le_refl _, ?_, fun _ => ⟨w.heap.size, 0, rfl, by simp, Nat.le_refl _, fun i x hx => ⟨[.string x], rfl, fun j u hu => ?_, rfl, ?_⟩⟩⟩
 · have := split_len c s.data.toList
   have e : s.data.toList.length = s.size := by simp
   exact maxOf (by omega)
 · match j, hu with
   | 0, hu =>
     simp at hu; subst hu; have hb := Blk.new w 9 (((splitL c s.data.toList).map strOf).map Value.string).toArray; rw [Nat.zero_add, Nat.mul_one, Nat.add_zero, hb.cell, List.getElem?_toArray, List.getElem?_map, hx]
     rfl
 rw [List.getElem?_map] at hx
 cases hy : (splitL c s.data.toList)[i]? with
 | none => rw [hy] at hx; simp at hx
 | some y =>
   rw [hy] at hx; simp only [Option.map_some, Option.some.injEq] at hx; rw [← hx, strOf_size]; have h1 := split_weight c s.data.toList; have h2 := le_sum List.length (List.mem_of_getElem? hy)
   have e : s.data.toList.length = s.size := by simp
   exact maxOf (by omega)
theorem implAtom_long {l : List UInt8} (h : 1500 < l.length) : atomOf l = none := by
 rw [← implAtom_eq]; unfold implAtom; rw [if_neg]; rintro ⟨h1, _⟩; omega
theorem implAtom_nocut {l : List UInt8} (h : (Lib.cut l [40]).2.2 = false) : atomOf l = none := by
 rw [← implAtom_eq]; unfold implAtom; rw [if_neg]; rintro ⟨_, h1, _⟩; rw [h] at h1; cases h1
theorem implAtom_open {l : List UInt8} (h : (Lib.cut l [40]).2.1.getLast? ≠ some 41) : atomOf l = none := by
 rw [← implAtom_eq]; unfold implAtom; rw [if_neg]; rintro ⟨_, _, h1, _⟩; exact h h1
set_option maxRecDepth 100000 in
set_option maxHeartbeats 8000000 in
theorem atomGet_any (s : ByteArray) (w : World) (hs : s.size ≤ 4194304) (hm : MaxIs w) :
 Calls Tryz.prog 213 #[.string s] w fun e w' => GotAtom w.heap.size (atomOf s.data.toList) e w' ∧ Ext w w' := by
 have HB := Lib.hid (Blk.new w 54 #[.string ⟨#[]⟩, .slice none 0 0])
 have e0 : s.data.toList.length = s.size := by simp
 by_cases hbig : 1500 < s.size
 · have HN := Lib.hid (implAtom_long (l := s.data.toList) (by omega))
   clear e0
   go_enter Tryz.func213, Tryz.ntmps213
   go_wp2; refine bodyPost_ret (v := .tuple #[.agg #[.string ⟨#[]⟩, .slice none 0 0], .bool false]) (by simp [results, Tryz.results213, go_sem]) rfl ⟨by rw [HN.out]; rfl, (Ext.refl _).alloc _⟩
 have HM := Lib.hid hm; have hcut := strCut_any s 40 (w.alloc (.cells #[.string ⟨#[]⟩, .slice none 0 0] 54)) hs (hm.ext ((Ext.refl _).alloc _)); clear hm
 obtain ⟨p, r, b, hc⟩ : ∃ p r b, Lib.cut s.data.toList [40] = (p, r, b) := ⟨_, _, _, rfl⟩
 rw [hc] at hcut
 obtain ⟨ps, hpp⟩ : ∃ ps, ps = strOf p := ⟨_, rfl⟩
 obtain ⟨rs, hrr⟩ : ∃ rs, rs = strOf r := ⟨_, rfl⟩
 have HC := Lib.hid (show Calls Tryz.prog 154 #[.string s, .string ⟨#[40]⟩] (w.alloc (.cells #[.string ⟨#[]⟩, .slice none 0 0] 54)) fun e w' => e = .returned (.tuple #[.string ps, .string rs, .bool b]) ∧ Ext (w.alloc (.cells #[.string ⟨#[]⟩, .slice none 0 0] 54)) w' from by rw [hpp, hrr]; exact hcut); clear hcut
 have hlen : p.length ≤ s.size ∧ r.length ≤ s.size := by
  rcases cut_one 40 s.data.toList with ⟨_, h⟩ | ⟨p', r', h1, _, h⟩
  · rw [hc] at h
    simp only [Prod.mk.injEq] at h; rw [h.1, h.2.1]; simp
  rw [hc] at h; simp only [Prod.mk.injEq] at h; have := congrArg List.length h1; rw [h.1, h.2.1]; simp only [List.length_append, List.length_cons] at this; omega
 obtain ⟨hlp, hlr⟩ := hlen
 obtain ⟨ts, hts⟩ : ∃ ts, ts = strOf (Lib.trimSuffix r [41]) := ⟨_, rfl⟩
 obtain ⟨bs, hbs⟩ : ∃ bs, bs = Lib.hasSuffix r [41] := ⟨_, rfl⟩
 have HX := Lib.hid (fun W => show Calls Tryz.prog 288 #[.string rs, .string ⟨#[41]⟩] W fun e w' => e = .returned (.tuple #[.string ts, .bool bs]) ∧ W = w' from by
  have h := strCutSuffix_any (strOf r) W (by rw [strOf_size]; omega); rw [list_strOf, ← hts, ← hbs, ← hrr] at h
  exact h)
 have HRR := Lib.hid hrr; clear hrr
 cases hb : b
 · subst hb
   clear hts hbs; have HN := Lib.hid (implAtom_nocut (l := s.data.toList) (by rw [hc])); clear hc e0 hpp
   go_enter Tryz.func213, Tryz.ntmps213
   go_wp2_with (first
    | (go_at_call 154; refine HC.out.mono ?_; rintro e w1 ⟨rfl, hx1⟩; have hbk := HB.out.ext hx1; have q0 := hbk.cell 0; have q1 := hbk.cell 1; have f0 := hbk.frozen 0; have f1 := hbk.frozen 1; have hl := hbk.lt; have HB1 := Lib.hid hbk; have HX1 := Lib.hid hx1; clear hbk hx1)
    | (go_at_call 288; refine (HX.out _).mono ?_; rintro e w2 ⟨rfl, rfl⟩))
   refine bodyPost_ret (v := .tuple #[.agg #[.string ⟨#[]⟩, .slice none 0 0], .bool false]) (by simp [results, Tryz.results213, go_sem, q0, q1]) rfl ⟨by rw [HN.out]; rfl, ?_⟩; exact Ext.setNew (a := w) (Ext.setNew (((Ext.refl w).alloc _).trans' HX1.out) (Nat.le_refl _) _) (Nat.le_refl _) _
 subst hb
 by_cases hl41 : r.getLast? ≠ some 41
 · have HN := Lib.hid (implAtom_open (l := s.data.toList) (by rw [hc]; exact hl41))
   have HS := suffix_no hl41; rw [HS] at hbs; subst hbs; clear hc e0 hl41 HS hts hpp
   go_enter Tryz.func213, Tryz.ntmps213
   go_wp2_with (first
    | (go_at_call 154; refine HC.out.mono ?_; rintro e w1 ⟨rfl, hx1⟩; have hbk := HB.out.ext hx1; have q0 := hbk.cell 0; have q1 := hbk.cell 1; have f0 := hbk.frozen 0; have f1 := hbk.frozen 1; have hl := hbk.lt; have HB1 := Lib.hid hbk; have HX1 := Lib.hid hx1; clear hbk hx1)
    | (go_at_call 288; refine (HX.out _).mono ?_; rintro e w2 ⟨rfl, rfl⟩))
   refine bodyPost_ret (v := .tuple #[.agg #[.string ⟨#[]⟩, .slice none 0 0], .bool false]) (by simp [results, Tryz.results213, go_sem, q0, q1]) rfl ⟨by rw [HN.out]; rfl, ?_⟩; exact Ext.setNew (a := w) (Ext.setNew (((Ext.refl w).alloc _).trans' HX1.out) (Nat.le_refl _) _) (Nat.le_refl _) _
 obtain ⟨inner, hri⟩ : ∃ inner, r = inner ++ [41] := by
  have h41 : r.getLast? = some 41 := Decidable.not_not.1 hl41
  have hne : r ≠ [] := by intro e; subst e; cases h41
  refine ⟨r.dropLast, ?_⟩; have h7 := List.dropLast_concat_getLast hne; rw [List.getLast?_eq_some_getLast hne] at h41
  injection h41 with h41
  rw [h41] at h7; exact h7.symm
 have HS := suffix_yes inner; rw [hri, HS.1] at hbs; rw [hri, HS.2] at hts; subst hbs
 obtain ⟨inn, hin⟩ : ∃ inn, inn = ts := ⟨_, rfl⟩
 rw [← hin] at HX hts; clear hin; have hin : inn = strOf inner := hts; clear hts ts
 have his : inn.size ≤ 4194304 := by rw [hin, strOf_size]; have := congrArg List.length hri; simp at this; omega
 have HPS := Lib.hid (show ps.size ≤ maxLen from by rw [hpp, strOf_size]; exact maxOf (by omega)); have HC0 := Lib.hid hc; have HRI := Lib.hid hri; have HPP := Lib.hid hpp; have HIN := Lib.hid hin; have HI0 := Lib.hid (show inn.size = 0 ↔ inner = [] from by rw [hin, strOf_size]; exact List.length_eq_zero_iff); clear hc e0 hl41 HS hri hpp hin; obtain ⟨i0, hi0, hz0', hz1', hz2'⟩ := info_parts term_info
 by_cases hie : inn.size = 0
 · have he1 : inn.toList = [] := by
     rw [ByteArray.toList_eq]; exact List.eq_nil_of_length_eq_zero (by have h2 : inn.data.toList.length = inn.size := (by simp); omega)
   have he2 : inn.toList.isEmpty = true := by rw [he1]; rfl
   have hin0 : argsOf inner = [] := by rw [HI0.out.1 hie]; rfl
   have HIN0 := Lib.hid hin0; clear hin0
   go_enter Tryz.func213, Tryz.ntmps213
   go_wp2_with (first
    | (go_at_call 154; refine HC.out.mono ?_; rintro e w1 ⟨rfl, hx1⟩; have hbk := HB.out.ext hx1; have q0 := hbk.cell 0; have q1 := hbk.cell 1; have f0 := hbk.frozen 0; have f1 := hbk.frozen 1; have hl := hbk.lt; have HB1 := Lib.hid hbk; have HX1 := Lib.hid hx1; clear hbk hx1)
    | (go_at_call 288; refine (HX.out _).mono ?_; rintro e w2 ⟨rfl, rfl⟩)
    | (fail))
   obtain ⟨wr, hwr⟩ : ∃ wr, wr = w1.alloc (.cells #[.string ps, .slice none 0 0] 54) := ⟨_, rfl⟩
   have hbz := Lib.hid (show Blk wr w.heap.size 54 #[.string ⟨#[]⟩, .slice none 0 0] from hwr ▸ HB1.out.alloc _); have hba := Lib.hid (show Blk wr w1.heap.size 54 #[.string ps, .slice none 0 0] from hwr ▸ Blk.new _ _ _); have hx : Ext w wr := hwr ▸ (((Ext.refl w).alloc _).trans' HX1.out).alloc _; have HTO := Lib.hid (show TermsO (From w1.heap.size) wr (.slice none 0 0) (argsOf inner) from by rw [HIN0.out]; exact SliceO.nil 0 (Nat.zero_le _) none); have HTR := Lib.hid (TermsO.read HTO.out); rw [← hwr]; clear hwr q0 q1 f0 f1; have hok := bool_ways (atomOk_any ⟨ps, argsOf inner⟩ _ wr HPS.out HTR.out)
   cases hk : atomOkB ⟨ps, argsOf inner⟩
   · have HN := Lib.hid (show atomOf s.data.toList = none from by
       rw [← implAtom_eq]; unfold implAtom; rw [if_neg]; rintro ⟨_, _, _, h⟩; rw [HC0.out] at h; simp only [HRI.out, List.dropLast_concat] at h
       rw [← HPP.out, hk] at h; cases h)
     have HK := Lib.hid (hok.2 hk); clear hok hk
     go_wp2_with (go_at_call 179; refine HK.out.mono ?_; rintro e w6 ⟨rfl, hx6⟩; have hz6 := hbz.out.ext hx6; have ha6 := hba.out.ext hx6; have r0 := hz6.cell 0; have r1 := hz6.cell 1; have s0 := hz6.frozen 0; have s1 := hz6.frozen 1; have t0 := ha6.cell 0; have t1 := ha6.cell 1; have hl6 := hz6.lt; have hl7 := ha6.lt; have HX6 := Lib.hid hx6; clear hx6 hz6 ha6)
     refine bodyPost_ret (v := .tuple #[.agg #[.string ⟨#[]⟩, .slice none 0 0], .bool false]) (by simp [results, Tryz.results213, go_sem, r0, r1]) rfl ⟨by rw [HN.out]; rfl, ?_⟩; exact Ext.setNew (a := w) (Ext.setNew (hx.trans' HX6.out) (Nat.le_refl _) _) (Nat.le_refl _) _
   have HN := Lib.hid (show atomOf s.data.toList = some ⟨ps, argsOf inner⟩ from by
     rw [← implAtom_eq]; unfold implAtom; rw [HC0.out]; simp only [HRI.out, List.dropLast_concat]; rw [← HPP.out, if_pos]
     exact ⟨by have e : s.data.toList.length = s.size := (by simp); omega, trivial, by simp, hk⟩)
   have HK := Lib.hid (hok.1 hk); clear hok hk
   go_wp2_with (go_at_call 179; refine HK.out.mono ?_; rintro e w6 ⟨rfl, hx6⟩; have hz6 := hbz.out.ext hx6; have ha6 := hba.out.ext hx6; have r0 := hz6.cell 0; have r1 := hz6.cell 1; have s0 := hz6.frozen 0; have s1 := hz6.frozen 1; have t0 := ha6.cell 0; have t1 := ha6.cell 1; have hl6 := hz6.lt; have hl7 := ha6.lt; have HX6 := Lib.hid hx6; clear hx6 hz6 ha6)
   refine bodyPost_ret (v := .tuple #[.agg #[.string ps, .slice none 0 0], .bool true]) (by simp [results, Tryz.results213, go_sem, r0, r1]) rfl ⟨?_, ?_⟩
   · rw [HN.out]
     refine ⟨_, rfl, ?_⟩; exact TermsO.imp HTO.out (fun b hb _ => Nat.le_trans (by omega) hb) (((Agree.of_ext HX6.out).setCell (by simp; omega) _).setCell (by simp; omega) _) (by have := HX6.out.size; go_size)
   exact Ext.setNew (a := w) (Ext.setNew (hx.trans' HX6.out) (Nat.le_refl _) _) (Nat.le_refl _) _
 have he1 : inn.toList.isEmpty = false := by
   rw [ByteArray.toList_eq, List.isEmpty_eq_false_iff]; intro e; have h1 := congrArg List.length e
   have h2 : inn.data.toList.length = inn.size := by simp
   rw [h2] at h1; exact hie h1
 have he2 : (inn.toList == []) = false := by
  rw [beq_eq_false_iff_ne]; intro e; rw [e] at he1; cases he1
 have HIE := Lib.hid hie
 obtain ⟨ws, hws⟩ : ∃ ws, ws = (splitL 44 inner).map strOf := ⟨_, rfl⟩
 have hwl : 1 ≤ ws.length ∧ ws.length ≤ 4194305 := by
  rw [hws, List.length_map]; have h1 := split_len 44 inner; have h2 := List.length_pos_iff.2 (splitL_ne 44 inner)
  have h3 : inner.length = inn.size := by rw [HIN.out, strOf_size]
  omega
 obtain ⟨hwl1, hwl2⟩ := hwl
 have HSP := Lib.hid (fun W (h : MaxIs W) => show Calls Tryz.prog 289 #[.string inn, .string ⟨#[44]⟩] W fun e w' => (∃ v, e = .returned v ∧ StrsR (From W.heap.size) w' v ws) ∧ Ext W w' from by
  have h1 := strSplit_any inn 44 W his h; rw [HIN.out, list_strOf, ← hws, ← HIN.out] at h1
  exact h1)
 have HWS := Lib.hid hws; have HCAP := Lib.hid (fun x (hx : x.size ≤ maxLen) W => show Calls Tryz.prog 290 #[.string x] W fun e w' => e = .returned (.bool (capB x)) ∧ W = w' from (capital_any x W hx).mono fun _ _ ⟨a, b⟩ => ⟨a, b.symm⟩); clear hws hie
 go_enter Tryz.func213, Tryz.ntmps213
 go_wp2_with (first
  | (go_at_call 154; refine HC.out.mono ?_; rintro e w1 ⟨rfl, hx1⟩; have hbk := HB.out.ext hx1; have q0 := hbk.cell 0; have q1 := hbk.cell 1; have f0 := hbk.frozen 0; have f1 := hbk.frozen 1; have hl := hbk.lt; have HB1 := Lib.hid hbk; have HX1 := Lib.hid hx1; clear hbk hx1)
  | (go_at_call 288; refine (HX.out _).mono ?_; rintro e w2 ⟨rfl, rfl⟩)
  | (go_at_call 289; refine (HSP.out _ ((HM.out.ext ((Ext.refl _).alloc _)).ext (HX1.out.alloc _))).mono ?_; rintro e w3 ⟨⟨v3, rfl, hv3⟩, hx3⟩; obtain ⟨A3, c3, rfl, ha3, hb3⟩ := SliceR.form hv3; have HV3 := Lib.hid (show StrsR (fun b => b < w3.heap.size ∧ b ≠ w1.heap.size) w3 (.slice A3 ws.length c3) ws from ListK.sub (k := kStr) (ListK.low (k := kStr) hv3) (fun b hb => ⟨hb.2, fun e => absurd hb.1 (Nat.not_le.2 (by simp; omega))⟩)); have HX3 := Lib.hid hx3; have hz3 := hx3.size; simp only [World.size_alloc] at hz3; clear hv3 hx3))
 have hl3' : w1.heap.size < w3.heap.size := by omega
 have HB5 := Lib.hid ((Blk.new w1 54 #[.string ps, .slice none 0 0]).ext HX3.out); have HB2 := Lib.hid ((HB1.out.alloc (.cells #[.string ps, .slice none 0 0] 54)).ext HX3.out); have hl' : w.heap.size < w1.heap.size := HB1.out.lt; clear q0 q1 f0 f1 hl
 go_loopw [41] (fun ii wr => ∃ (i : Nat) (v : Value), ii = .int .i64 i ∧ i ≤ ws.length ∧ Hid (Blk wr w.heap.size 54 #[.string ⟨#[]⟩, .slice none 0 0]) ∧ Hid (Blk wr w1.heap.size 54 #[.string ps, v]) ∧ Hid (OwnK kTerm w3.heap.size 71 None wr v (((splitL 44 inner).take i).map argOf)) ∧ Hid (StrsR (fun b => b < w3.heap.size ∧ b ≠ w1.heap.size) wr (.slice A3 ws.length c3) ws) ∧ Ext w wr ∧ w3.heap.size ≤ wr.heap.size) (fun i _ => ws.length - (intOf i).toNat)
 case atStart => exact ⟨0, _, rfl, Nat.zero_le _, HB2, HB5, OwnK.nil, HV3, ((((Ext.refl w).alloc _).trans' HX1.out).alloc _).trans' HX3.out, Nat.le_refl _⟩
 case round =>
  obtain ⟨i, v, rfl, hi, hbz, hba, ho, hst, hx, hsz⟩ := hrel; obtain ⟨A0, n0, c0, rfl, hn0, ha0, hb0⟩ := ho.out.form2; have q0 := hba.out.cell 0; have q1 := hba.out.cell 1; have f1 := hba.out.frozen 1
  have hk0 : (0 : Int) ≤ (i : Int) := by omega
  by_cases hlt : i < ws.length
  · obtain ⟨bw, ow, x, rfl, hbw, hSw, hxw, hxs, hcw⟩ := StrsR.at_S hst.out hlt
    have HBW := Lib.hid hSw.1
    have HST := Lib.hid (show ((splitL 44 inner).take (i + 1)).map argOf = ((splitL 44 inner).take i).map argOf ++ [⟨capB x, x⟩] from by
     rw [HWS.out, List.getElem?_map] at hxw
     cases hy : (splitL 44 inner)[i]? with
     | none => rw [hy] at hxw; simp at hxw
     | some y =>
       rw [hy] at hxw; simp only [Option.map_some, Option.some.injEq] at hxw; obtain ⟨hyl, rfl⟩ := List.getElem?_eq_some_iff.1 hy; rw [List.take_succ_eq_append_getElem hyl, List.map_append, ← hxw]
       rfl)
    have hk1 : (i : Int) < (ws.length : Int) := by omega
    have hg1 : decide (i < ws.length) = true := decide_eq_true hlt
    have hlen2 : (((splitL 44 inner).take i).map argOf).length ≤ 4194305 := by rw [List.length_map, List.length_take]; omega
    have HLT := Lib.hid hlt; have q2 := (hba.out.alloc (.cells #[.bool (capB x), .string x] 71)).cell 1; clear hxw hSw
    go_wp2_with (fail)
    go_region_law
     (first
      | (go_simp; go_at_call 290; refine (HCAP.out x hxs _).mono ?_; rintro e w4 ⟨rfl, rfl⟩)
      | (refine step_appL (o := ⟨some 52, _, _, _, _, _⟩) (k := kTerm) (S := None) (T := None) (base := w3.heap.size) (xs := ((splitL 44 inner).take i).map argOf) (ys := [⟨capB x, x⟩]) (by rfl) (.tmp 46) (.tmp 51) 52 (by rfl) i0 _ 24 Tryz.underlying52 hi0 hz0' hz1' hz2' (by rfl) (by rfl)
           (by first | exact ho.out.ext ((Ext.refl _).drew.alloc _) | exact ho.out.ext ((Ext.refl _).alloc _).drew) _ 1 1 (by rfl) (ElemsK.one (k := kTerm) (x := ⟨capB x, x⟩) (by first | exact Blk.at_new rfl | exact Blk.drew (Blk.at_new rfl)) ⟨rfl, hxs⟩) (fun _ h => h.elim) (maxOf (by omega)) (by omega) (by go_size) ?_
         intro v5 w5 hap; obtain ⟨A5, n5, c5, rfl, hn5, ha5, hb5⟩ := hap.own.form2; have HAP := Lib.hid hap; have HBL := Lib.hid (show Below w3.heap.size wr w5 from Below.trans (Below.mono (show Ext wr _ from by first | exact (Ext.refl _).drew.alloc _ | exact ((Ext.refl _).alloc _).drew) hsz) hap.below); have HE5 := Lib.hid (hap.toExt (w0 := w) (hx.trans' (by first | exact (Ext.refl _).drew.alloc _ | exact ((Ext.refl _).alloc _).drew)) (by omega)); have hb5' := hba.out.below HBL.out hl3'; have p3 := hb5'.cell 1; have f3 := hb5'.frozen 1
         clear hap hb5'))
    all_goals
     go_wp2
     go_roundw
     case rel =>
      exact ⟨i + 1, _, by go_num, HLT.out, Lib.hid ((hbz.out.below HBL.out (by omega)).far (show w.heap.size ≠ w1.heap.size from by omega) _), Lib.hid (by simpa using (hba.out.below HBL.out hl3').set_ 1 (.slice A5 n5 c5)), Lib.hid (by rw [HST.out]; exact HAP.out.own.set (p := ⟨w1.heap.size, 1, none⟩) hl3' (fun h => h.elim) _), Lib.hid (hst.out.imp (fun _ h => h) (fun b hb hlt => (Below.heap_setCell _ _ _ _ hb.2).trans (HBL.out.block b hb.1)) (by have := HBL.out.size; go_size)), Ext.setNew (a := w) HE5.out (show w.heap.size ≤ w1.heap.size from by omega) _, by have := HBL.out.size; go_size⟩
     case measure => simp [intOf]; omega
  have hg1 : decide (i < ws.length) = false := decide_eq_false hlt
  have HARG := Lib.hid (show ((splitL 44 inner).take i).map argOf = argsOf inner from by
   unfold argsOf; rw [if_neg (fun e => HIE.out (HI0.out.2 e)), List.take_of_length_le]
   have h2 : ws.length = (splitL 44 inner).length := by rw [HWS.out, List.length_map]
   omega)
  have HTO := Lib.hid (show TermsO (From w3.heap.size) wr (.slice A0 n0 c0) (argsOf inner) from by
   have h := ho.out.termsO; rw [HARG.out] at h
   exact h)
  have HTR := Lib.hid (TermsO.read HTO.out); have hok := bool_ways (atomOk_any ⟨ps, argsOf inner⟩ _ wr HPS.out HTR.out)
  cases hk : atomOkB ⟨ps, argsOf inner⟩
  · have HN := Lib.hid (show atomOf s.data.toList = none from by
      rw [← implAtom_eq]; unfold implAtom; rw [if_neg]; rintro ⟨_, _, _, h⟩; rw [HC0.out] at h; simp only [HRI.out, List.dropLast_concat] at h
      rw [← HPP.out, hk] at h; cases h)
    have HK := Lib.hid (hok.2 hk); clear hok hk
    go_wp2_with (go_at_call 179; refine HK.out.mono ?_; rintro e w6 ⟨rfl, hx6⟩; have hz6 := hbz.out.ext hx6; have ha6 := hba.out.ext hx6; have r0 := hz6.cell 0; have r1 := hz6.cell 1; have s0 := hz6.frozen 0; have s1 := hz6.frozen 1; have t0 := ha6.cell 0; have t1 := ha6.cell 1; have hl6 := hz6.lt; have hl7 := ha6.lt; have HX6 := Lib.hid hx6; clear hx6 hz6 ha6)
    refine bodyPost_ret (v := .tuple #[.agg #[.string ⟨#[]⟩, .slice none 0 0], .bool false]) (by simp [results, Tryz.results213, go_sem, r0, r1]) rfl ⟨by rw [HN.out]; rfl, ?_⟩; exact Ext.setNew (a := w) (Ext.setNew (hx.trans' HX6.out) (Nat.le_refl _) _) (Nat.le_refl _) _
  have HN := Lib.hid (show atomOf s.data.toList = some ⟨ps, argsOf inner⟩ from by
    rw [← implAtom_eq]; unfold implAtom; rw [HC0.out]; simp only [HRI.out, List.dropLast_concat]; rw [← HPP.out, if_pos]
    exact ⟨by have e : s.data.toList.length = s.size := (by simp); omega, trivial, by simp, hk⟩)
  have HK := Lib.hid (hok.1 hk); clear hok hk
  go_wp2_with (go_at_call 179; refine HK.out.mono ?_; rintro e w6 ⟨rfl, hx6⟩; have hz6 := hbz.out.ext hx6; have ha6 := hba.out.ext hx6; have r0 := hz6.cell 0; have r1 := hz6.cell 1; have s0 := hz6.frozen 0; have s1 := hz6.frozen 1; have t0 := ha6.cell 0; have t1 := ha6.cell 1; have hl6 := hz6.lt; have hl7 := ha6.lt; have HX6 := Lib.hid hx6; clear hx6 hz6 ha6)
  refine bodyPost_ret (v := .tuple #[.agg #[.string ps, .slice A0 n0 c0], .bool true]) (by simp [results, Tryz.results213, go_sem, r0, r1]) rfl ⟨?_, ?_⟩
  · rw [HN.out]
    refine ⟨_, rfl, ?_⟩; exact TermsO.imp HTO.out (fun b hb _ => Nat.le_trans (by omega) hb) (((Agree.of_ext HX6.out).setCell (by simp; omega) _).setCell (by simp; omega) _) (by have := HX6.out.size; go_size)
  exact Ext.setNew (a := w) (Ext.setNew (hx.trans' HX6.out) (Nat.le_refl _) _) (Nat.le_refl _) _
def strLen (v : Value) : Nat := match v with | .string t => t.size | _ => 0
theorem strLen_str (t : ByteArray) : strLen (.string t) = t.size := rfl
theorem implChange_none {l : List UInt8} (h : implFold (splitL 32 l) noneC = none) : changeOf l = none := by rw [← implChange_eq]; unfold implChange; rw [h]
theorem implChange_some {l : List UInt8} {g : GC} (h : implFold (splitL 32 l) noneC = some g) : changeOf l = if changeOkB g = true then some g else none := by rw [← implChange_eq]; unfold implChange; rw [h]
theorem implFold_cut {p r : List UInt8} (h : (32 : UInt8) ∉ p) (g : GC) : implFold (splitL 32 (p ++ 32 :: r)) g = (wordImpl p g).bind fun g' => implFold (splitL 32 r) g' := by
 rw [splitL_app h]
 cases hs : splitL 32 r with
 | nil => exact absurd hs (splitL_ne 32 r)
 | cons a b => exact implFold_two _ _ _ _
theorem implFold_whole {l : List UInt8} (h : (32 : UInt8) ∉ l) (h0 : l ≠ []) (g : GC) : implFold (splitL 32 l) g = none := by
 rw [splitL_none h]; show (if l = [] then some g else none) = none; rw [if_neg h0]
theorem str_empty {s : ByteArray} (h : s.size = 0) : s.toList.isEmpty = true ∧ s.toList = [] ∧ s.data.toList = [] := by
 have : s.data.toList = [] := List.eq_nil_of_length_eq_zero (by have h2 : s.data.toList.length = s.size := (by simp); omega)
 refine ⟨?_, ?_, this⟩ <;> rw [ByteArray.toList_eq, this]; rfl
theorem str_full {s : ByteArray} (h : 0 < s.size) : s.toList.isEmpty = false ∧ (s.toList == []) = false ∧ s.data.toList ≠ [] := by
 have h0 : s.data.toList ≠ [] := by
  intro e
  have h2 : s.data.toList.length = s.size := by simp
  rw [e] at h2; simp at h2; omega
 refine ⟨?_, ?_, h0⟩
 · rw [ByteArray.toList_eq, List.isEmpty_eq_false_iff]; exact h0
 rw [beq_eq_false_iff_ne, ByteArray.toList_eq]; exact h0
set_option maxRecDepth 100000 in
set_option maxHeartbeats 2000000 in
theorem changeGet_any (s : ByteArray) (w : World) (hs : s.size ≤ 4194304) (hm : MaxIs w) :
 Calls Tryz.prog 155 #[.string s] w fun e w' => GotChange w.heap.size (changeOf s.data.toList) e w' ∧ Ext w w' := by
 obtain ⟨i0, hi0, hz0, hz1, hz2⟩ := info_parts atom_info; have HM := Lib.hid hm; have HB2 := Lib.hid ((Blk.new w 32 #[.slice none 0 0, .slice none 0 0]).alloc (.cells #[.slice none 0 0, .slice none 0 0] 32)); have HB4 := Lib.hid (Blk.new (w.alloc (.cells #[.slice none 0 0, .slice none 0 0] 32)) 32 #[.slice none 0 0, .slice none 0 0])
 obtain ⟨B, hB⟩ : ∃ B, B = w.heap.size + 2 := ⟨_, rfl⟩
 clear hm
 go_enter Tryz.func155, Tryz.ntmps155
 go_wp2
 go_loopw [0] (fun tt wr => ∃ (t : ByteArray) (vc vg : Value) (gc gg : List GA) (Sc Sg : Nat → Prop), tt = .string t ∧ t.size ≤ s.size ∧ Hid (gc.length + gg.length + t.size ≤ s.size) ∧ Hid (Blk wr w.heap.size 32 #[.slice none 0 0, .slice none 0 0]) ∧ Hid (Blk wr (w.heap.size + 1) 32 #[vc, vg]) ∧ Hid (TwoO B wr.heap.size 54 Sc Sg wr vc gc vg gg) ∧ Hid (implFold (splitL 32 t.data.toList) ⟨gc, gg⟩ = implFold (splitL 32 s.data.toList) noneC) ∧ Ext w wr ∧ B ≤ wr.heap.size) (fun t _ => strLen t)
 case atStart => exact ⟨s, _, _, [], [], _, _, rfl, Nat.le_refl _, Lib.hid (by simp), HB2, Lib.hid (by simpa using HB4.out), Lib.hid (TwoO.nil _ _ _ _), rfl, ((Ext.refl w).alloc _).alloc _, by simp; omega⟩
 case round =>
  obtain ⟨t, vc, vg, gc, gg, Sc, Sg, rfl, hts, hcount, hbz, hba, ho, hfold, hx, hsz⟩ := hrel; obtain ⟨Ac, nc, cc, rfl, hnc, hac, hbc⟩ := ho.out.c.form2; obtain ⟨Ag, ng, cg, rfl, hng, hag, hbg⟩ := ho.out.g.form2; have q0 := hbz.out.cell 0; have q1 := hbz.out.cell 1; have f0 := hbz.out.frozen 0; have f1 := hbz.out.frozen 1; have hlz := hbz.out.lt; have p0 := hba.out.cell 0; have p1 := hba.out.cell 1; have hla := hba.out.lt; have HMR := Lib.hid (HM.out.ext hx)
  by_cases ht0 : t.size = 0
  · obtain ⟨he1, he2, he3⟩ := str_empty ht0
    have HEnd := Lib.hid (show implFold (splitL 32 s.data.toList) noneC = some ⟨gc, gg⟩ from by rw [← hfold.out, he3]; rfl); have HCH := Lib.hid (implChange_some HEnd.out); have hk := bool_ways (changeOk_any ⟨gc, gg⟩ _ _ wr (AtomsO.read ho.out.c.slice2) (AtomsO.read ho.out.g.slice2)); clear he3
    cases hok : changeOkB ⟨gc, gg⟩
    · have HNO := Lib.hid (show changeOf s.data.toList = none from by rw [HCH.out, hok]; rfl)
      have HK := Lib.hid (hk.2 hok); clear hk hok
      go_wp2_with (go_at_call 36; refine HK.out.mono ?_; rintro e w6 ⟨rfl, hx6⟩; have hz6 := hbz.out.ext hx6; have ha6 := hba.out.ext hx6; have r0 := hz6.cell 0; have r1 := hz6.cell 1; have s0 := hz6.frozen 0; have s1 := hz6.frozen 1; have t0 := ha6.cell 0; have t1 := ha6.cell 1; have hl6 := hz6.lt; have hl7 := ha6.lt; have HX6 := Lib.hid hx6; clear hx6 hz6 ha6)
      refine bodyPost_ret (v := .tuple #[.agg #[.slice none 0 0, .slice none 0 0], .bool false]) (by simp [results, Tryz.results155, go_sem, r0, r1]) rfl ⟨by rw [HNO.out]; rfl, ?_⟩; exact Ext.setNew (a := w) (Ext.setNew (hx.trans' HX6.out) (Nat.le_refl _) _) (Nat.le_refl _) _
    have HOK := Lib.hid (show changeOf s.data.toList = some ⟨gc, gg⟩ from by rw [HCH.out, hok]; rfl); have HK := Lib.hid (hk.1 hok); clear hk hok
    go_wp2_with (go_at_call 36; refine HK.out.mono ?_; rintro e w6 ⟨rfl, hx6⟩; have hz6 := hbz.out.ext hx6; have ha6 := hba.out.ext hx6; have r0 := hz6.cell 0; have r1 := hz6.cell 1; have s0 := hz6.frozen 0; have s1 := hz6.frozen 1; have t0 := ha6.cell 0; have t1 := ha6.cell 1; have hl6 := hz6.lt; have hl7 := ha6.lt; have HX6 := Lib.hid hx6; clear hx6 hz6 ha6)
    refine bodyPost_ret (v := .tuple #[.agg #[.slice Ac nc cc, .slice Ag ng cg], .bool true]) (by simp [results, Tryz.results155, go_sem, r0, r1]) rfl ⟨?_, ?_⟩
    · rw [HOK.out]
      exact (((ho.out.ext HX6.out).set (p := ⟨w.heap.size, 0, none⟩) (show w.heap.size < _ from by omega) _).set (p := ⟨w.heap.size, 1, none⟩) (show w.heap.size < _ from by omega) _).got (by omega) rfl rfl
    exact Ext.setNew (a := w) (Ext.setNew (hx.trans' HX6.out) (Nat.le_refl _) _) (Nat.le_refl _) _
  have ht1 : 0 < t.size := by omega
  obtain ⟨he1, he2, he3⟩ := str_full ht1
  rcases cut_one 32 t.data.toList with ⟨hno, hcut⟩ | ⟨p, r, hpr, hno, hcut⟩
  · have HN := Lib.hid (implChange_none (hfold.out.symm.trans (implFold_whole hno he3 _)))
    have HC := Lib.hid (show Calls Tryz.prog 154 #[.string t, .string ⟨#[32]⟩] wr fun e w' => e = .returned (.tuple #[.string t, .string ⟨#[]⟩, .bool false]) ∧ Ext wr w' from by
     have h := strCut_any t 32 wr (by omega) HMR.out; rw [hcut, strOf_list] at h
     exact h)
    clear hno hcut he3
    go_wp2_with (go_at_call 154; refine HC.out.mono ?_; rintro e w6 ⟨rfl, hx6⟩; have hz6 := hbz.out.ext hx6; have r0 := hz6.cell 0; have r1 := hz6.cell 1; have s0 := hz6.frozen 0; have s1 := hz6.frozen 1; have hl6 := hz6.lt; have HX6 := Lib.hid hx6; clear hx6 hz6)
    refine bodyPost_ret (v := .tuple #[.agg #[.slice none 0 0, .slice none 0 0], .bool false]) (by simp [results, Tryz.results155, go_sem, r0, r1]) rfl ⟨by rw [HN.out]; rfl, ?_⟩; exact Ext.setNew (a := w) (Ext.setNew (hx.trans' HX6.out) (Nat.le_refl _) _) (Nat.le_refl _) _
  obtain ⟨ps, hps⟩ : ∃ ps, ps = strOf p := ⟨_, rfl⟩
  obtain ⟨rs, hrs⟩ : ∃ rs, rs = strOf r := ⟨_, rfl⟩
  have hlen : p.length + 1 + r.length = t.size := by
   have h := congrArg List.length hpr; simp only [List.length_append, List.length_cons] at h
   have e : t.data.toList.length = t.size := by simp
   omega
  have hps1 : p.length = ps.size := by rw [hps, strOf_size]
  have hrs1 : r.length = rs.size := by rw [hrs, strOf_size]
  have HPS := Lib.hid (show ps.data.toList = p from by rw [hps, list_strOf]); have HRS := Lib.hid (show rs.data.toList = r from by rw [hrs, list_strOf])
  have HF := Lib.hid (show implFold (splitL 32 s.data.toList) noneC = (wordImpl ps.data.toList ⟨gc, gg⟩).bind fun g' => implFold (splitL 32 rs.data.toList) g' from by
   rw [← hfold.out, hpr, implFold_cut hno, HPS.out, HRS.out])
  have HC := Lib.hid (show Calls Tryz.prog 154 #[.string t, .string ⟨#[32]⟩] wr fun e w' => e = .returned (.tuple #[.string ps, .string rs, .bool true]) ∧ Ext wr w' from by
   have h := strCut_any t 32 wr (by omega) HMR.out; rw [hcut, ← hps, ← hrs] at h
   exact h)
  have hps63 : (ps.size : Int) ≤ 9223372036854775807 := by omega
  clear hno hcut he3 hps hrs hpr
  by_cases hp0 : ps.size = 0
  · obtain ⟨hpe1, hpe2, hpe3⟩ := str_empty hp0
    have HN := Lib.hid (show changeOf s.data.toList = none from implChange_none (by rw [HF.out, hpe3]; rfl)); clear hpe3
    go_wp2_with (go_at_call 154; refine HC.out.mono ?_; rintro e w6 ⟨rfl, hx6⟩; have hz6 := hbz.out.ext hx6; have r0 := hz6.cell 0; have r1 := hz6.cell 1; have s0 := hz6.frozen 0; have s1 := hz6.frozen 1; have hl6 := hz6.lt; have HX6 := Lib.hid hx6; clear hx6 hz6)
    refine bodyPost_ret (v := .tuple #[.agg #[.slice none 0 0, .slice none 0 0], .bool false]) (by simp [results, Tryz.results155, go_sem, r0, r1]) rfl ⟨by rw [HN.out]; rfl, ?_⟩; exact Ext.setNew (a := w) (Ext.setNew (hx.trans' HX6.out) (Nat.le_refl _) _) (Nat.le_refl _) _
  have hp1 : 0 < ps.size := by omega
  obtain ⟨hpe1, hpe2, hpe3⟩ := str_full hp1; have HD := Lib.hid (head_str hp1); have HTL := Lib.hid (show ps.extract 1 ps.size = strOf (ps.data.toList.drop 1) from tail_str HD.out)
  have htl4 : (ps.extract 1 ps.size).size ≤ 4194304 := by rw [ByteArray.size_extract]; omega
  clear hpe3
  cases hat : atomOf (ps.extract 1 ps.size).data.toList with
  | none =>
    have HN := Lib.hid (show changeOf s.data.toList = none from by
     apply implChange_none
     rw [HF.out, HD.out, wordImpl_cons]; have := hat; rw [HTL.out, list_strOf] at this
     rw [this]; rfl)
    have HG := Lib.hid (fun (W : World) (hW : Ext wr W) => show Calls Tryz.prog 213 #[.string (ps.extract 1 ps.size)] W fun e w' => e = .returned (.tuple #[.agg #[.string ⟨#[]⟩, .slice none 0 0], .bool false]) ∧ Ext W w' from (atomGet_any (ps.extract 1 ps.size) W htl4 (HMR.out.ext hW)).mono fun e w' ⟨h1, h2⟩ => by
     rw [hat] at h1; exact ⟨h1, h2⟩)
    clear hat
    go_wp2_with (first
     | (go_at_call 154; refine HC.out.mono ?_; rintro e w5 ⟨rfl, hx5⟩; have HX5 := Lib.hid hx5; clear hx5)
     | (go_at_call 213; refine (HG.out _ HX5.out).mono ?_; rintro e w6 ⟨rfl, hx6⟩; have HX6 := Lib.hid (HX5.out.trans' hx6); have hz6 := hbz.out.ext HX6.out; have r0 := hz6.cell 0; have r1 := hz6.cell 1; have s0 := hz6.frozen 0; have s1 := hz6.frozen 1; have hl6 := hz6.lt; have HZ6 := Lib.hid hz6; clear hx6 hz6))
    have hzf := ((HZ6.out.set_ 0 (.slice none 0 0)).set_ 1 (.slice none 0 0)).alloc (.cells #[.string ⟨#[]⟩, .slice none 0 0] 54); have z0 := hzf.cell 0; have z1 := hzf.cell 1; simp at z0 z1; refine bodyPost_ret (v := .tuple #[.agg #[.slice none 0 0, .slice none 0 0], .bool false]) (by simp [results, Tryz.results155, go_sem, z0, z1]) rfl ⟨by rw [HN.out]; rfl, ?_⟩; exact (Ext.setNew (a := w) (Ext.setNew (hx.trans' HX6.out) (Nat.le_refl _) _) (Nat.le_refl _) _).alloc _
  | some a =>
    obtain ⟨an, al⟩ := a
    have HTD := Lib.hid (show atomOf (ps.data.toList.drop 1) = some ⟨an, al⟩ from by
     have := hat; rw [HTL.out, list_strOf] at this
     exact this)
    have han := atomOf_small hat; have HAN := Lib.hid (show an.size ≤ maxLen from maxOf (by have : an.size ≤ 4194304 := han; omega))
    obtain ⟨m, hm⟩ : ∃ m, m = al.length := ⟨_, rfl⟩
    have HG := Lib.hid (fun (W : World) (hW : Ext wr W) => show Calls Tryz.prog 213 #[.string (ps.extract 1 ps.size)] W fun e w' => GotSome W.heap.size an al m e w' ∧ Ext W w' from (atomGet_any (ps.extract 1 ps.size) W htl4 (HMR.out.ext hW)).mono fun e w' ⟨h1, h2⟩ => by
     rw [hat] at h1
     exact ⟨hm ▸ GotAtom.some h1, h2⟩)
    have hlenc : gc.length ≤ 4194304 := by have := hcount.out; omega
    have hleng : gg.length ≤ 4194304 := by have := hcount.out; omega
    have HF3 := Lib.hid (show implFold (splitL 32 s.data.toList) noneC = (if ps[0] = 45 ∧ gc = [] then some ⟨gc, gg ++ [⟨an, al⟩]⟩ else if ps[0] = 43 then some ⟨gc ++ [⟨an, al⟩], gg⟩ else none : Option GC).bind fun g' => implFold (splitL 32 rs.data.toList) g' from by
     rw [HF.out, HD.out, wordImpl_cons, HTD.out]; rfl)
    have HNC := Lib.hid (show nc = 0 ↔ gc = [] from by rw [hnc.out]; exact List.length_eq_zero_iff); have hx8 : ps[0].toNat < 256 := ps[0].toNat_lt; clear hat hm han
    by_cases h45 : ps[0] = 45 ∧ nc = 0
    · have hb45 : ((ps[0].toNat : Int) == 45) = true := by rw [h45.1]; rfl
      have hnc0 : nc = 0 := h45.2
      have HF2 := Lib.hid (show implFold (splitL 32 s.data.toList) noneC = implFold (splitL 32 rs.data.toList) ⟨gc, gg ++ [⟨an, al⟩]⟩ from by
       rw [HF3.out, if_pos ⟨h45.1, HNC.out.1 h45.2⟩]; rfl)
      have hnb : ((nc : Int) == 0) = true := by rw [hnc0]; rfl
      clear h45
      go_wp2_with (first
       | (go_at_call 154; refine HC.out.mono ?_; rintro e w5 ⟨rfl, hx5⟩; have HX5 := Lib.hid hx5; have hl5 := hx5.size; clear hx5)
       | (go_at_call 213; refine (HG.out _ HX5.out).mono ?_; rintro e w1 ⟨⟨A1, c1, rfl, hm1, hm2, hto⟩, hx1'⟩
          have HTO := Lib.hid hto; have hl1 := hx1'.size; have HX1 := Lib.hid (HX5.out.trans' hx1'); have HXA := Lib.hid (show Ext wr ((w1.alloc (.cells #[.string an, .slice A1 m c1] 54)).alloc (.cells #[.string an, .slice A1 m c1] 54)) from (HX1.out.alloc _).alloc _); have pc := ((hba.out.ext HX1.out).alloc (.cells #[.string an, .slice A1 m c1] 54)).cell 0; have pa := ((hba.out.ext HX1.out).alloc (.cells #[.string an, .slice A1 m c1] 54)).cell 1
          clear hto hx1')
       | (at_builtin; refine wpList_appO (k := kAtomO) (S := Sg) (S' := fun b => Sg b ∨ (wr.heap.size ≤ b ∧ b < w1.heap.size + 2)) (T := From w5.heap.size) (base := B) (xs := gg) rfl (.tmp 47) (.tmp 49) 30 (by rfl) i0 _ 40 Tryz.underlying30 hi0 hz0 hz1 hz2 (by rfl) (by rfl)
            (ho.out.g.ext HXA.out) (w1.heap.size + 1) (by rfl) [.string an, .slice A1 m c1] ⟨an, al⟩ 54 ⟨_, rfl, HAN.out, (HTO.out.ext (((Ext.refl _).alloc _).alloc _))⟩ (by simpa using Blk.new (w1.alloc (.cells #[.string an, .slice A1 m c1] 54)) 54 #[.string an, .slice A1 m c1])
            (fun b hb hlt => .inr ⟨Nat.le_trans hl5 hb, by simpa using hlt⟩) (fun b hb => .inl hb) (fun b hb hs => absurd (Nat.le_trans hl5 (show w5.heap.size ≤ b from hb)) (Nat.not_le.2 (ho.out.lg b hs).2)) (fun g hg hb => absurd (Nat.le_trans hl5 (show w5.heap.size ≤ g from hb)) (Nat.not_le.2 (ho.out.og g hg).1)) (maxOf (by omega)) (by omega) (by go_size) ?_
          intro v5 w6 hap; obtain ⟨A5, n5, c5, rfl, hn5, ha5, hb5⟩ := hap.own.form2; have HAP := Lib.hid hap; have HBL := Lib.hid (show Below B wr w6 from Below.trans (Below.mono HXA.out hsz) hap.below); have HE5 := Lib.hid (hap.toExt (w0 := w) (hx.trans' HXA.out) (by omega)); have hb5' := hba.out.below HBL.out (by omega); have p3 := hb5'.cell 1; have f3 := hb5'.frozen 1; have hl6 := hb5'.lt
          clear hap hb5'))
      go_roundw
      case rel =>
       exact ⟨rs, _, _, gc, gg ++ [⟨an, al⟩], _, _, rfl, by omega, Lib.hid (by have := hcount.out; simp; omega), Lib.hid ((hbz.out.below HBL.out (by omega)).far (show w.heap.size ≠ w.heap.size + 1 from by omega) _), Lib.hid (by simpa using (hba.out.below HBL.out (by omega)).set_ 1 (.slice A5 n5 c5)), Lib.hid (by simpa using (((ho.out.swap.ext HXA.out).app HAP.out (by simp) (fun b hb => hb) hsz (by have := HXA.out.size; omega)).set (p := ⟨w.heap.size + 1, 1, none⟩) (show w.heap.size + 1 < _ from by omega) _).swap), Lib.hid (HF2.out.symm), Ext.setNew (a := w) HE5.out (show w.heap.size ≤ w.heap.size + 1 from by omega) _, by have := HBL.out.size; go_size⟩
      case measure => rw [strLen_str]; show rs.size < strLen (.string t); rw [strLen_str]; omega
    by_cases h43 : ps[0] = 43
    · have hb45 : ((ps[0].toNat : Int) == 45) = false := by rw [h43]; rfl
      have hb43 : ((ps[0].toNat : Int) == 43) = true := by rw [h43]; rfl
      have HF2 := Lib.hid (show implFold (splitL 32 s.data.toList) noneC = implFold (splitL 32 rs.data.toList) ⟨gc ++ [⟨an, al⟩], gg⟩ from by
       rw [HF3.out, if_neg (by rw [h43]; rintro ⟨h, _⟩; cases h), if_pos h43]; rfl)
      clear h45 h43
      go_wp2_with (first
       | (go_at_call 154; refine HC.out.mono ?_; rintro e w5 ⟨rfl, hx5⟩; have HX5 := Lib.hid hx5; have hl5 := hx5.size; clear hx5)
       | (go_at_call 213; refine (HG.out _ HX5.out).mono ?_; rintro e w1 ⟨⟨A1, c1, rfl, hm1, hm2, hto⟩, hx1'⟩
          have HTO := Lib.hid hto; have hl1 := hx1'.size; have HX1 := Lib.hid (HX5.out.trans' hx1'); have HXA := Lib.hid (show Ext wr ((w1.alloc (.cells #[.string an, .slice A1 m c1] 54)).alloc (.cells #[.string an, .slice A1 m c1] 54)) from (HX1.out.alloc _).alloc _); have pc := ((hba.out.ext HX1.out).alloc (.cells #[.string an, .slice A1 m c1] 54)).cell 0
          clear hto hx1')
       | (at_builtin; refine wpList_appO (k := kAtomO) (S := Sc) (S' := fun b => Sc b ∨ (wr.heap.size ≤ b ∧ b < w1.heap.size + 2)) (T := From w5.heap.size) (base := B) (xs := gc) rfl (.tmp 57) (.tmp 59) 30 (by rfl) i0 _ 40 Tryz.underlying30 hi0 hz0 hz1 hz2 (by rfl) (by rfl)
            (ho.out.c.ext HXA.out) (w1.heap.size + 1) (by rfl) [.string an, .slice A1 m c1] ⟨an, al⟩ 54 ⟨_, rfl, HAN.out, (HTO.out.ext (((Ext.refl _).alloc _).alloc _))⟩ (by simpa using Blk.new (w1.alloc (.cells #[.string an, .slice A1 m c1] 54)) 54 #[.string an, .slice A1 m c1])
            (fun b hb hlt => .inr ⟨Nat.le_trans hl5 hb, by simpa using hlt⟩) (fun b hb => .inl hb) (fun b hb hs => absurd (Nat.le_trans hl5 (show w5.heap.size ≤ b from hb)) (Nat.not_le.2 (ho.out.lc b hs).2)) (fun g hg hb => absurd (Nat.le_trans hl5 (show w5.heap.size ≤ g from hb)) (Nat.not_le.2 (ho.out.oc g hg).1)) (maxOf (by omega)) (by omega) (by go_size) ?_
          intro v5 w6 hap; obtain ⟨A5, n5, c5, rfl, hn5, ha5, hb5⟩ := hap.own.form2; have HAP := Lib.hid hap; have HBL := Lib.hid (show Below B wr w6 from Below.trans (Below.mono HXA.out hsz) hap.below); have HE5 := Lib.hid (hap.toExt (w0 := w) (hx.trans' HXA.out) (by omega)); have hb5' := hba.out.below HBL.out (by omega); have p3 := hb5'.cell 0; have f3 := hb5'.frozen 0; have hl6 := hb5'.lt
          clear hap hb5'))
      go_roundw
      case rel =>
       exact ⟨rs, _, _, gc ++ [⟨an, al⟩], gg, _, _, rfl, by omega, Lib.hid (by have := hcount.out; simp; omega), Lib.hid ((hbz.out.below HBL.out (by omega)).far (show w.heap.size ≠ w.heap.size + 1 from by omega) _), Lib.hid (by simpa using (hba.out.below HBL.out (by omega)).set_ 0 (.slice A5 n5 c5)), Lib.hid (by simpa using (((ho.out.ext HXA.out).app HAP.out (by simp) (fun b hb => hb) hsz (by have := HXA.out.size; omega)).set (p := ⟨w.heap.size + 1, 0, none⟩) (show w.heap.size + 1 < _ from by omega) _)), Lib.hid (HF2.out.symm), Ext.setNew (a := w) HE5.out (show w.heap.size ≤ w.heap.size + 1 from by omega) _, by have := HBL.out.size; go_size⟩
      case measure => rw [strLen_str]; show rs.size < strLen (.string t); rw [strLen_str]; omega
    have hb43 : ((ps[0].toNat : Int) == 43) = false := by
     rw [beq_eq_false_iff_ne]; intro e; exact h43 (UInt8.toNat_inj.1 (by show _ = 43; omega))
    have HN := Lib.hid (show changeOf s.data.toList = none from by
     apply implChange_none
     rw [HF3.out, if_neg (fun h => h45 ⟨h.1, HNC.out.2 h.2⟩), if_neg h43]; rfl)
    by_cases h46 : ps[0] = 45
    · have hb45 : ((ps[0].toNat : Int) == 45) = true := by rw [h46]; rfl
      have hnb : ((nc : Int) == 0) = false := by rw [beq_eq_false_iff_ne]; intro e; exact h45 ⟨h46, by omega⟩
      clear h45 h43 h46
      go_wp2_with (first
       | (go_at_call 154; refine HC.out.mono ?_; rintro e w5 ⟨rfl, hx5⟩; have HX5 := Lib.hid hx5; have hl5 := hx5.size; clear hx5)
       | (go_at_call 213; refine (HG.out _ HX5.out).mono ?_; rintro e w1 ⟨⟨A1, c1, rfl, hm1, hm2, hto⟩, hx1'⟩
          have HX6 := Lib.hid (HX5.out.trans' hx1'); have pc := ((hba.out.ext HX6.out).alloc (.cells #[.string an, .slice A1 m c1] 54)).cell 0; have hz6 := hbz.out.ext HX6.out; have r0 := hz6.cell 0; have r1 := hz6.cell 1; have s0 := hz6.frozen 0; have s1 := hz6.frozen 1; have hl6 := hz6.lt; have HZ6 := Lib.hid hz6
          clear hto hx1' hz6))
      have hzf := ((HZ6.out.set_ 0 (.slice none 0 0)).set_ 1 (.slice none 0 0)).alloc (.cells #[.string an, .slice A1 m c1] 54); have z0 := hzf.cell 0; have z1 := hzf.cell 1; simp at z0 z1; refine bodyPost_ret (v := .tuple #[.agg #[.slice none 0 0, .slice none 0 0], .bool false]) (by simp [results, Tryz.results155, go_sem, z0, z1]) rfl ⟨by rw [HN.out]; rfl, ?_⟩; exact (Ext.setNew (a := w) (Ext.setNew (hx.trans' HX6.out) (Nat.le_refl _) _) (Nat.le_refl _) _).alloc _
    have hb45 : ((ps[0].toNat : Int) == 45) = false := by
      rw [beq_eq_false_iff_ne]; intro e; exact h46 (UInt8.toNat_inj.1 (by show _ = 45; omega))
    clear h45 h43 h46
    go_wp2_with (first
     | (go_at_call 154; refine HC.out.mono ?_; rintro e w5 ⟨rfl, hx5⟩; have HX5 := Lib.hid hx5; have hl5 := hx5.size; clear hx5)
     | (go_at_call 213; refine (HG.out _ HX5.out).mono ?_; rintro e w1 ⟨⟨A1, c1, rfl, hm1, hm2, hto⟩, hx1'⟩
        have HX6 := Lib.hid (HX5.out.trans' hx1'); have hz6 := hbz.out.ext HX6.out; have r0 := hz6.cell 0; have r1 := hz6.cell 1; have s0 := hz6.frozen 0; have s1 := hz6.frozen 1; have hl6 := hz6.lt; have HZ6 := Lib.hid hz6
        clear hto hx1' hz6))
    have hzf := ((HZ6.out.set_ 0 (.slice none 0 0)).set_ 1 (.slice none 0 0)).alloc (.cells #[.string an, .slice A1 m c1] 54); have z0 := hzf.cell 0; have z1 := hzf.cell 1; simp at z0 z1; refine bodyPost_ret (v := .tuple #[.agg #[.slice none 0 0, .slice none 0 0], .bool false]) (by simp [results, Tryz.results155, go_sem, z0, z1]) rfl ⟨by rw [HN.out]; rfl, ?_⟩; exact (Ext.setNew (a := w) (Ext.setNew (hx.trans' HX6.out) (Nat.le_refl _) _) (Nat.le_refl _) _).alloc _
end Go.Proofs.YtmihponoillihaaGreatDoor
