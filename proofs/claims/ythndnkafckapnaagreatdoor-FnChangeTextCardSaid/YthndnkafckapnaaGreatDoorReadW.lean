/- The walks of the reference's l1Cut, l1Arg, AtomPut. -/
import Derived.Test.YthndnkafckapnaaGreatDoorParseQ
import Derived.Test.YthndnkafckapnaaGreatDoorOwnO
namespace Go.Proofs.YthndnkafckapnaaGreatDoor
open Go.RowKit

theorem extract_str (s : ByteArray) (f i : Nat) (_h : i ≤ s.size) : s.extract f i = strOf ((s.data.toList.drop f).take (i - f)) := by
  apply bytes_inj
  rw [list_strOf]
  simp only [ByteArray.data_extract, Array.toList_extract, List.extract_eq_take_drop]
theorem take_drop_snoc (l : List UInt8) (f i : Nat) (c : UInt8) (hf : f ≤ i) (h : l[i]? = some c) : (l.drop f).take (i + 1 - f) = (l.drop f).take (i - f) ++ [c] := by
  rw [show i + 1 - f = (i - f) + 1 from by omega]
  have : (l.drop f)[i - f]? = some c := by rw [List.getElem?_drop, show f + (i - f) = i from by omega]; exact h
  obtain ⟨hlt, rfl⟩ := List.getElem?_eq_some_iff.1 this
  exact List.take_succ_eq_append_getElem hlt
theorem drop_cut (l : List UInt8) (f i : Nat) (c : UInt8) (hf : f ≤ i) (h : l[i]? = some c) : l.drop f = (l.drop f).take (i - f) ++ c :: l.drop (i + 1) := by
  conv => lhs; rw [← List.take_append_drop (i - f) (l.drop f)]
  congr 1
  rw [List.drop_drop, show f + (i - f) = i from by omega]
  obtain ⟨hlt, rfl⟩ := List.getElem?_eq_some_iff.1 h
  exact List.drop_eq_getElem_cons hlt
theorem str_info : (Tryz.prog.info? 9).map (fun i => (i.zero, i.size, i.bytes)) = some (some (.string ByteArray.empty), 1, 16) := by kernel_rfl

set_option maxRecDepth 100000 in
set_option maxHeartbeats 4000000 in
theorem l1Cut_any (s : ByteArray) (c : UInt8) (w : World) (hs : s.size ≤ 4194304) :
    Calls Tryz.prog 48 #[.string s, .int .u8 c.toNat] w fun e w' => (∃ v, e = .returned v ∧ StrsR (From w.heap.size) w' v ((splitL c s.data.toList).map strOf)) ∧ Ext w w' := by
  obtain ⟨i0, hi0, hz0, hz1, hz2⟩ := info_parts str_info
  have hc8 : c.toNat < 256 := c.toNat_lt
  go_enter Tryz.func48, Tryz.ntmps48
  go_wp2
  go_loopw [5, 6, 7] (fun v ff ii wr => ∃ (i f : Nat) (ps : List (List UInt8)), ii = .int .i64 i ∧ ff = .int .i64 f ∧ f ≤ i ∧ i ≤ s.size ∧ ps.length ≤ i ∧ Hid (splitL c s.data.toList = ps ++ splitL c (s.data.toList.drop f)) ∧ Hid (c ∉ (s.data.toList.drop f).take (i - f)) ∧ Hid (OwnK kStr w.heap.size 9 None wr v (ps.map strOf)) ∧ Ext w wr) (fun _ _ i _ => s.size - (intOf i).toNat)
  case atStart => exact ⟨0, 0, [], rfl, rfl, Nat.le_refl _, Nat.zero_le _, Nat.zero_le _, by show _ = _; simp, by show ¬ _; simp, OwnK.empty rfl (Nat.le_refl _), (Ext.refl _).alloc _⟩
  case round =>
    obtain ⟨i, f, ps, rfl, rfl, hf, hi, hps, hsp, hno, ho, hx⟩ := hrel
    obtain ⟨A0, n0, c0, rfl, hn0, ha0, hb0⟩ := ho.out.form2
    have hsz := hx.size
    have hf0 : (0 : Int) ≤ (f : Int) := by omega
    have hf1 : (f : Int) ≤ (i : Int) := by omega
    have hi0' : (0 : Int) ≤ (i : Int) := by omega
    by_cases hlt : i < s.size
    · have hat : s.data.toList[i]? = some s[i] := by rw [List.getElem?_eq_getElem (by simpa using hlt)]; rfl
      have hx8 : s[i].toNat < 256 := s[i].toNat_lt
      have hi1 : (i : Int) < (s.size : Int) := by omega
      by_cases hc : s[i] = c
      · have hb : ((s[i].toNat : Int) == (c.toNat : Int)) = true := by rw [hc]; exact beq_self_eq_true _
        have HE := Lib.hid (extract_str s f i (by omega))
        have hes : (s.extract f i).size ≤ maxLen := by rw [HE.out, strOf_size]; exact maxOf (by simp [List.length_take]; omega)
        have HS := Lib.hid (show splitL c s.data.toList = (ps ++ [(s.data.toList.drop f).take (i - f)]) ++ splitL c (s.data.toList.drop (i + 1)) from by
          rw [hsp.out, List.append_assoc]
          congr 1
          conv => lhs; rw [drop_cut _ f i c hf (by rw [hat, hc])]
          rw [splitL_app hno.out]; rfl)
        clear hsp hno hat hc
        go_wp2_with (at_builtin; refine wpList_appL (k := kStr) (S := None) (T := None) (base := w.heap.size) (xs := ps.map strOf) (ys := [s.extract f i]) rfl (.tmp 20) (.tmp 25) 82 (by rfl) i0 _ 16 Tryz.underlying82 hi0 hz0 hz1 hz2 (by rfl) (by rfl) (ho.out.ext ((Ext.refl _).alloc _)) _ 1 1 (by rfl) (ElemsK.one (k := kStr) (x := s.extract f i) (Blk.new _ _ _) ⟨rfl, hes⟩) (fun _ h => h.elim) (maxOf (by simp; omega)) (by simp; omega) (by go_size) ?_; intro v3 w3 hap)
        go_roundw
        case rel => exact ⟨i + 1, i + 1, ps ++ [(s.data.toList.drop f).take (i - f)], by go_num, by go_num, Nat.le_refl _, by omega, by simp; omega, HS, by show ¬ _; simp, Lib.hid (by rw [List.map_append, List.map_cons, List.map_nil, ← HE.out]; exact hap.own), hap.toExt (hx.alloc _) (Nat.le_refl _)⟩
        case measure => simp [intOf]; omega
      · have hb : ((s[i].toNat : Int) == (c.toNat : Int)) = false := by
          rw [beq_eq_false_iff_ne]
          intro e
          exact hc (UInt8.toNat_inj.1 (by omega))
        have HN := Lib.hid (show c ∉ (s.data.toList.drop f).take (i + 1 - f) from by
          rw [take_drop_snoc _ f i _ hf hat]
          intro hm
          rcases List.mem_append.1 hm with hm | hm
          · exact hno.out hm
          · simp at hm; exact hc hm.symm)
        clear hno hat hc
        go_wp2
        go_roundw
        case rel => exact ⟨i + 1, f, ps, by go_num, rfl, by omega, by omega, by omega, hsp, HN, ho, hx⟩
        case measure => simp [intOf]; omega
    · have hie : i = s.size := by omega
      have HE := Lib.hid (show s.extract f s.size = strOf (s.data.toList.drop f) from by
        rw [extract_str s f s.size (Nat.le_refl _), List.take_of_length_le (by simp)])
      have HS := Lib.hid (show splitL c s.data.toList = ps ++ [s.data.toList.drop f] from by
        rw [hsp.out]
        congr 1
        apply splitL_none
        have := hno.out
        rw [List.take_of_length_le (by simp; omega)] at this
        exact this)
      have hes : (s.extract f s.size).size ≤ maxLen := by rw [HE.out, strOf_size]; exact maxOf (by simp; omega)
      have hf2 : (f : Int) ≤ (s.size : Int) := by omega
      clear hsp hno hie
      go_wp2_with (at_builtin; refine wpList_appL (k := kStr) (S := None) (T := None) (base := w.heap.size) (xs := ps.map strOf) (ys := [s.extract f s.size]) rfl (.tmp 29) (.tmp 33) 82 (by rfl) i0 _ 16 Tryz.underlying82 hi0 hz0 hz1 hz2 (by rfl) (by rfl) (ho.out.ext ((Ext.refl _).alloc _)) _ 1 1 (by rfl) (ElemsK.one (k := kStr) (x := s.extract f s.size) (Blk.new _ _ _) ⟨rfl, hes⟩) (fun _ h => h.elim) (maxOf (by simp; omega)) (by simp; omega) (by go_size) ?_; intro v3 w3 hap)
      go_ret
      refine ⟨⟨v3, rfl, ?_⟩, hap.toExt (hx.alloc _) (Nat.le_refl _)⟩
      have h := hap.own.list (S' := From w.heap.size) (fun _ h => h.elim) (fun _ h => h)
      rw [HS.out, List.map_append, List.map_cons, List.map_nil, ← HE.out]
      exact h

set_option maxRecDepth 100000 in
set_option maxHeartbeats 2000000 in
theorem l1Arg_any (s : ByteArray) (w : World) (hs : s.size ≤ maxLen) :
    Calls Tryz.prog 93 #[.string s] w fun e w' => e = .returned (.agg #[.bool (capB s), .string s]) ∧ Ext w w' := by
  unfold maxLen at hs
  by_cases h0 : 0 < s.size
  · have HC := Lib.hid (capB_cons h0)
    have hx8 : s[0].toNat < 256 := s[0].toNat_lt
    have g0 : decide (0 < s.size) = true := decide_eq_true h0
    by_cases h1 : 65 ≤ s[0].toNat
    · have g1 : decide ((65 : Int) ≤ (s[0].toNat : Int)) = true := decide_eq_true (by omega)
      by_cases h2 : s[0].toNat ≤ 90
      · have HV := Lib.hid (show capB s = true from by rw [HC.out]; exact decide_eq_true ⟨h1, h2⟩)
        have g2 : decide ((s[0].toNat : Int) ≤ 90) = true := decide_eq_true (by omega)
        go_enter Tryz.func93, Tryz.ntmps93
        go_wp2
        exact bodyPost_ret (v := .agg #[.bool true, .string s]) (by simp [results, Tryz.results93, go_sem]) rfl ⟨by rw [HV.out], (Ext.refl _).alloc _⟩
      · have HV := Lib.hid (show capB s = false from by rw [HC.out]; exact decide_eq_false (by omega))
        have g2 : decide ((s[0].toNat : Int) ≤ 90) = false := decide_eq_false (by omega)
        go_enter Tryz.func93, Tryz.ntmps93
        go_wp2
        exact bodyPost_ret (v := .agg #[.bool false, .string s]) (by simp [results, Tryz.results93, go_sem]) rfl ⟨by rw [HV.out], (Ext.refl _).alloc _⟩
    · have g1 : decide ((65 : Int) ≤ (s[0].toNat : Int)) = false := decide_eq_false (by omega)
      have HV := Lib.hid (show capB s = false from by rw [HC.out]; exact decide_eq_false (by omega))
      go_enter Tryz.func93, Tryz.ntmps93
      go_wp2
      exact bodyPost_ret (v := .agg #[.bool false, .string s]) (by simp [results, Tryz.results93, go_sem]) rfl ⟨by rw [HV.out], (Ext.refl _).alloc _⟩
  · have g0 : decide (0 < s.size) = false := decide_eq_false h0
    have HV := Lib.hid (show capB s = false from by
      unfold capB
      have : s.data.toList = [] := List.eq_nil_of_length_eq_zero (by have e : s.data.toList.length = s.size := (by simp); omega)
      rw [this])
    go_enter Tryz.func93, Tryz.ntmps93
    go_wp2
    exact bodyPost_ret (v := .agg #[.bool false, .string s]) (by simp [results, Tryz.results93, go_sem]) rfl ⟨by rw [HV.out], (Ext.refl _).alloc _⟩

theorem atomPut_ways (a : GA) : strOf (atomPutL a) = if atomOkB a = true then strOf (atomL a) else ⟨#[]⟩ := by
  unfold atomPutL; split <;> rfl

set_option maxRecDepth 100000 in
set_option maxHeartbeats 2000000 in
theorem specAtomPut_any (a : GA) (v : Value) (w : World) {S : Nat → Prop} (hv : TermsR S w v a.args) (hn : a.n.size ≤ maxLen) (hw : wAtom a ≤ 4194304) :
    Calls Tryz.prog 94 #[.agg #[.string a.n, v]] w fun e w' => e = .returned (.string (strOf (atomPutL a))) ∧ Ext w w' := by
  obtain ⟨A, c, rfl, hc1, hc2⟩ := SliceR.form hv
  have HV := Lib.hid (hv.ext ((Ext.refl w).alloc (.cells #[.string a.n, .slice A a.args.length c] 67)))
  have HB := Lib.hid (Blk.new w 67 #[.string a.n, .slice A a.args.length c])
  have HW := Lib.hid hw
  have hk := bool_ways (specAtomOk_any a _ _ hn HV.out)
  have HN := Lib.hid hn
  clear hv hw hn
  cases ho : atomOkB a
  · have HF := Lib.hid (show atomPutL a = [] from by unfold atomPutL; rw [ho]; rfl)
    have HK := Lib.hid (hk.2 ho)
    clear hk ho
    go_enter Tryz.func94, Tryz.ntmps94
    go_wp2_with (go_at_call 133; refine HK.out.mono ?_; rintro e w1 ⟨rfl, hx1⟩)
    go_ret
    exact ⟨by rw [HF.out]; rfl, ((Ext.refl _).alloc _).trans' hx1⟩
  · have HF := Lib.hid (show atomPutL a = atomL a from by unfold atomPutL; rw [ho]; rfl)
    have HK := Lib.hid (hk.1 ho)
    clear hk ho
    go_enter Tryz.func94, Tryz.ntmps94
    go_wp2_with (first
      | (go_at_call 133; refine HK.out.mono ?_; rintro e w1 ⟨rfl, hx1⟩; have hb1 := HB.out.ext hx1; have q0 := hb1.cell 0; have q1 := hb1.cell 1; clear hb1)
      | (go_at_call 86; refine (l1Put_any a _ _ (HV.out.ext hx1) HW.out).mono ?_; rintro e w2 ⟨rfl, hx2⟩))
    go_ret
    exact ⟨by rw [HF.out]; rfl, (((Ext.refl _).alloc _).trans' hx1).trans' hx2⟩

end Go.Proofs.YthndnkafckapnaaGreatDoor
