/- The walk of the program's recordGet. -/
import Derived.Test.YthndnkafckapnaaGreatDoorLogS
import Derived.Test.YthndnkafckapnaaGreatDoorReadI
namespace Go.Proofs.YthndnkafckapnaaGreatDoor
open Go.RowKit

theorem last_upTo (rs : ByteArray) : ∃ m : Nat, m = (upTo 32 rs.data.toList).length ∧ Lib.lastIndexByte rs 32 + 1 = (m : Int) ∧ m ≤ rs.size ∧ rs.extract 0 m = strOf (upTo 32 rs.data.toList) := by
  have e0 : rs.data.toList.length = rs.size := by simp
  have hget : ∀ j (hj : j < rs.data.toList.length), rs.data[j]! = rs.data.toList[j] := fun j hj => by
    rw [getElem!_pos rs.data j (by simpa using hj)]; simp
  have fin : ∀ m : Nat, m = (upTo 32 rs.data.toList).length → Lib.lastIndexByte rs 32 + 1 = (m : Int) → ∃ m : Nat, m = (upTo 32 rs.data.toList).length ∧ Lib.lastIndexByte rs 32 + 1 = (m : Int) ∧ m ≤ rs.size ∧ rs.extract 0 m = strOf (upTo 32 rs.data.toList) := fun m h1 h2 => by
    have h3 := upTo_len 32 rs.data.toList
    refine ⟨m, h1, h2, by omega, ?_⟩
    rw [extract_str rs 0 m (by omega), List.drop_zero, Nat.sub_zero, h1]
    congr 1
    obtain ⟨z, _, _, h6⟩ := split_upTo 32 rs.data.toList
    conv => lhs; arg 2; rw [h6]
    exact List.take_left' rfl
  rcases Lib.lastIdx_spec rs 32 rs.size with ⟨h1, h2⟩ | ⟨i, hi, h1, h2, h3⟩
  · have hno : (32 : UInt8) ∉ rs.data.toList := by
      intro hm
      obtain ⟨j, hj, e⟩ := List.mem_iff_getElem.1 hm
      have := h2 j (by omega)
      rw [hget j hj, e] at this
      exact this rfl
    have hu := upTo_none hno
    exact fin 0 (by rw [hu]; rfl) (by unfold Lib.lastIndexByte; rw [h1]; rfl)
  · have hil : i < rs.data.toList.length := by omega
    have hc : rs.data.toList[i] = 32 := by
      rw [hget i hil] at h2
      exact UInt8.toNat_inj.1 (by show _ = 32; omega)
    have hsplit : rs.data.toList = rs.data.toList.take i ++ 32 :: rs.data.toList.drop (i + 1) := by
      conv => lhs; rw [← List.take_append_drop i rs.data.toList, List.drop_eq_getElem_cons hil, hc]
    have hno : (32 : UInt8) ∉ rs.data.toList.drop (i + 1) := by
      intro hm
      obtain ⟨j, hj, e⟩ := List.mem_iff_getElem.1 hm
      rw [List.getElem_drop] at e
      rw [List.length_drop] at hj
      have := h3 (i + 1 + j) (by omega) (by omega)
      rw [hget _ (by omega), e] at this
      exact this rfl
    have hu : upTo 32 rs.data.toList = rs.data.toList.take i ++ [32] := by
      conv => lhs; rw [hsplit]
      exact upTo_app _ hno
    exact fin (i + 1) (by rw [hu, List.length_append, List.length_take]; simp; omega) (by unfold Lib.lastIndexByte; rw [h1]; rfl)

theorem strLast_any (rs : ByteArray) (w : World) (hs : rs.size ≤ 4194304) :
    Calls Tryz.prog 152 #[.string rs, .int .u8 32] w fun e w' => e = .returned (.int .i64 (Lib.lastIndexByte rs 32)) ∧ w = w' :=
  (Tryz.strings_LastIndexByte rs 32 (by omega) w).mono fun e w' h => ⟨h.1, h.2.symm⟩

set_option maxRecDepth 100000 in
set_option maxHeartbeats 1000000 in
theorem recordGet_any (t : Nat) (l : List UInt8) (ls : ByteArray) (w : World) (hls : ls = strOf (l ++ [10])) (hs : ls.size ≤ 400000) (ht : t ≤ 100000) (hm : MaxIs w) (htab : Lib.TabIs Tryz.prog w "internal/strconv.uint64pow10" .u64 Lib.pow10Tab) :
    Calls Tryz.prog 117 #[.int .i64 t, .string ls] w fun e w' => GotChange w.heap.size (recOf t l) e w' ∧ Ext w w' := by
  have hld : ls.data.toList = l ++ [10] := by rw [hls, list_strOf]
  have HLS := Lib.hid hls
  have HB := Lib.hid (Blk.new w 25 #[.slice none 0 0, .slice none 0 0])
  have HM := Lib.hid hm
  have HT := Lib.hid htab
  have hcut := fun W hW => strCut_any ls 58 W (by omega) (hm.ext hW)
  clear hm htab
  rcases cut_one 58 ls.data.toList with ⟨hno, hc⟩ | ⟨p, r, hpr, hno, hc⟩
  · have HN := Lib.hid (show recOf t l = none from implRec_colon (by rw [← hld]; exact hno))
    have HC := Lib.hid (fun W (hW : Ext w W) => show Calls Tryz.prog 40 #[.string ls, .string ⟨#[58]⟩] W fun e w' => e = .returned (.tuple #[.string ls, .string ⟨#[]⟩, .bool false]) ∧ Ext W w' from by
      have h := hcut W hW
      rw [hc, strOf_list] at h
      exact h)
    clear hcut hc hno hld hls
    go_enter Tryz.func117, Tryz.ntmps117
    go_wp2_with (go_at_call 40; refine (HC.out _ ((Ext.refl _).alloc _)).mono ?_; rintro e w1 ⟨rfl, hx1⟩; have hb := HB.out.ext hx1; have q0 := hb.cell 0; have q1 := hb.cell 1; have f0 := hb.frozen 0; have f1 := hb.frozen 1; have hl := hb.lt; have HX1 := Lib.hid hx1; clear hb hx1)
    refine bodyPost_ret (v := .tuple #[.agg #[.slice none 0 0, .slice none 0 0], .bool false]) (by simp [results, Tryz.results117, go_sem, q0, q1]) rfl ⟨by rw [HN.out]; rfl, ?_⟩
    exact Ext.setNew (a := w) (Ext.setNew (((Ext.refl w).alloc _).trans' HX1.out) (Nat.le_refl _) _) (Nat.le_refl _) _
  obtain ⟨ps, hps⟩ : ∃ ps, ps = strOf p := ⟨_, rfl⟩
  obtain ⟨rs, hrs⟩ : ∃ rs, rs = strOf r := ⟨_, rfl⟩
  have hlen : p.length + 1 + r.length = ls.size := by
    have h := congrArg List.length hpr
    simp only [List.length_append, List.length_cons] at h
    have e : ls.data.toList.length = ls.size := by simp
    omega
  have hrs1 : rs.size ≤ 400000 := by rw [hrs, strOf_size]; omega
  have hrd : rs.data.toList = r := by rw [hrs, list_strOf]
  have HC := Lib.hid (fun W (hW : Ext w W) => show Calls Tryz.prog 40 #[.string ls, .string ⟨#[58]⟩] W fun e w' => e = .returned (.tuple #[.string ps, .string rs, .bool true]) ∧ Ext W w' from by
    have h := hcut W hW
    rw [hc, ← hps, ← hrs] at h
    exact h)
  obtain ⟨m, hm1, hm2, hm3, hm4⟩ := last_upTo rs
  rw [hrd] at hm1 hm4
  obtain ⟨n, hn⟩ : ∃ n, n = Lib.lastIndexByte rs 32 := ⟨_, rfl⟩
  have HLI := Lib.hid (fun W => show Calls Tryz.prog 152 #[.string rs, .int .u8 32] W fun e w' => e = .returned (.int .i64 n) ∧ W = w' from hn ▸ strLast_any rs W (by omega))
  have hn2 : n + 1 = (m : Int) := by rw [hn]; exact hm2
  have hm5 : (0 : Int) ≤ (m : Int) := by omega
  have HPR := Lib.hid (show l ++ [10] = p ++ 58 :: r from hld.symm.trans hpr)
  have HNO := Lib.hid hno
  have HX := Lib.hid (show (rs.extract 0 m).data.toList = upTo 32 r from by rw [hm4, list_strOf])
  have HXS := Lib.hid (show (rs.extract 0 m).size ≤ 400000 from by rw [hm4, strOf_size, ← hm1]; omega)
  clear hcut hc hno hld hls hps hrs hlen hrd hm1 hm2 hm4 hn hpr
  cases hc : changeOf (upTo 32 r) with
  | none =>
    have HN := Lib.hid (show recOf t l = none from implRec_none HPR.out HNO.out hc)
    have HG := Lib.hid (fun W (hW : Ext w W) => show Calls Tryz.prog 9 #[.string (rs.extract 0 m)] W fun e w' => e = .returned (.tuple #[.agg #[.slice none 0 0, .slice none 0 0], .bool false]) ∧ Ext W w' from (changeGet_any (rs.extract 0 m) W (by have := HXS.out; omega) (HM.out.ext hW)).mono fun e w' ⟨h1, h2⟩ => by
      rw [HX.out, hc] at h1; exact ⟨h1, h2⟩)
    clear hc
    go_enter Tryz.func117, Tryz.ntmps117
    go_wp2_with (first
      | (go_at_call 40; refine (HC.out _ ((Ext.refl _).alloc _)).mono ?_; rintro e w1 ⟨rfl, hx1⟩; have HB1 := Lib.hid (HB.out.ext hx1); have HX1 := Lib.hid (((Ext.refl w).alloc _).trans' hx1); clear hx1)
      | (go_at_call 152; refine (HLI.out _).mono ?_; rintro e w2 ⟨rfl, rfl⟩)
      | (go_at_call 9; refine (HG.out _ HX1.out).mono ?_; rintro e w3 ⟨rfl, hx3⟩; have HX3 := Lib.hid (HX1.out.trans' hx3); have hb := HB1.out.ext hx3; have hl := hb.lt; have HB3 := Lib.hid hb; have q0 := hb.cell 0; have q1 := hb.cell 1; have f0 := hb.frozen 0; have f1 := hb.frozen 1; clear hb hx3))
    have hzf := ((HB3.out.set_ 0 (.slice none 0 0)).set_ 1 (.slice none 0 0)).alloc (.cells #[.slice none 0 0, .slice none 0 0] 25)
    have z0 := hzf.cell 0
    have z1 := hzf.cell 1
    simp at z0 z1
    refine bodyPost_ret (v := .tuple #[.agg #[.slice none 0 0, .slice none 0 0], .bool false]) (by simp [results, Tryz.results117, go_sem, z0, z1]) rfl ⟨by rw [HN.out]; rfl, ?_⟩
    exact (Ext.setNew (a := w) (Ext.setNew HX3.out (Nat.le_refl _) _) (Nat.le_refl _) _).alloc _
  | some g =>
    obtain ⟨n1, hn1'⟩ : ∃ n1, n1 = g.comes.length := ⟨_, rfl⟩
    obtain ⟨m1, hm1'⟩ : ∃ m1, m1 = g.goes.length := ⟨_, rfl⟩
    have HG := Lib.hid (fun W (hW : Ext w W) => show Calls Tryz.prog 9 #[.string (rs.extract 0 m)] W fun e w' => GotSomeC W.heap.size g n1 m1 e w' ∧ Ext W w' from (changeGet_any (rs.extract 0 m) W (by have := HXS.out; omega) (HM.out.ext hW)).mono fun e w' ⟨h1, h2⟩ => by
      rw [HX.out, hc] at h1
      have h3 := GotChange.some h1
      rw [← hn1', ← hm1'] at h3
      exact ⟨h3, h2⟩)
    obtain ⟨f, hf⟩ : ∃ f, f = strOf (logPutL t g) := ⟨_, rfl⟩
    have HL := Lib.hid (fun W (hW : Ext w W) (v u : Value) (S T : Nat → Prop) (hv : AtomsR S W v g.comes) (hu : AtomsR T W u g.goes) => show Calls Tryz.prog 153 #[.int .i64 t, .agg #[v, u]] W fun e w' => e = .returned (.string f) ∧ Ext W w' from by
      have h3 := logPut_any (t : Int) g v u W hv hu (pow_ext HT.out hW)
      rw [← hf] at h3
      exact h3)
    have HF := Lib.hid hf
    have HC2 := Lib.hid hc
    clear hf hc hn1' hm1'
    by_cases he : f = ls
    · have HOK := Lib.hid (show recOf t l = some g from implRec_yes (by
        have h4 := congrArg (fun b : ByteArray => b.data.toList) (HF.out.symm.trans (he.trans HLS.out))
        simp only [list_strOf] at h4
        exact h4))
      have he1 := str_eq he
      clear he
      go_enter Tryz.func117, Tryz.ntmps117
      go_wp2_with (first
        | (go_at_call 40; refine (HC.out _ ((Ext.refl _).alloc _)).mono ?_; rintro e w1 ⟨rfl, hx1⟩; have HB1 := Lib.hid (HB.out.ext hx1); have HX1 := Lib.hid (((Ext.refl w).alloc _).trans' hx1); have hz1 := HB1.out.lt; clear hx1)
        | (go_at_call 152; refine (HLI.out _).mono ?_; rintro e w2 ⟨rfl, rfl⟩)
        | (go_at_call 9; refine (HG.out _ HX1.out).mono ?_; rintro e w3 ⟨⟨A3, B3, c3, d3, S3, T3, rfl, ⟨k1, k2, k3, k4⟩, hv3, hu3, hS3, hT3, hD3⟩, hx3⟩
           have HV3 := Lib.hid hv3
           have HU3 := Lib.hid hu3
           have HS3 := Lib.hid hS3
           have HT3 := Lib.hid hT3
           have HD3 := Lib.hid hD3
           have HX3 := Lib.hid (HX1.out.trans' hx3)
           have HB3 := Lib.hid (HB1.out.ext hx3)
           have hl3 := HB3.out.lt
           clear hx3 hv3 hu3 hS3 hT3 hD3)
        | (go_at_call 153; refine (HL.out _ (HX3.out.alloc _) _ _ _ _ (AtomsO.read (HV3.out.ext ((Ext.refl _).alloc _))) (AtomsO.read (HU3.out.ext ((Ext.refl _).alloc _)))).mono ?_; rintro e w4 ⟨rfl, hx4⟩
           have HX4 := Lib.hid ((HX3.out.alloc _).trans' hx4)
           have HY4 := Lib.hid hx4
           have HB4 := Lib.hid ((HB3.out.alloc _).ext hx4)
           have hc4 := (Blk.new w3 25 #[.slice A3 n1 c3, .slice B3 m1 d3]).ext hx4
           have p0 := hc4.cell 0
           have p1 := hc4.cell 1
           have q0 := HB4.out.cell 0
           have q1 := HB4.out.cell 1
           have f0 := HB4.out.frozen 0
           have f1 := HB4.out.frozen 1
           have hl4 := HB4.out.lt
           clear hx4 hc4))
      refine bodyPost_ret (v := .tuple #[.agg #[.slice A3 n1 c3, .slice B3 m1 d3], .bool true]) (by simp [results, Tryz.results117, go_sem, q0, q1]) rfl ⟨?_, ?_⟩
      · rw [HOK.out]
        refine ⟨_, _, S3, T3, rfl, ?_, ?_, fun b hb => Nat.le_trans ?_ (HS3.out b hb), fun b hb => Nat.le_trans ?_ (HT3.out b hb), HD3.out⟩
        · exact ((HV3.out.ext (((Ext.refl _).alloc _).trans' HY4.out)).setAt (b := w.heap.size) (o := 0) (fun hb => absurd (HS3.out _ hb) (by omega)) _).setAt (b := w.heap.size) (o := 1) (fun hb => absurd (HS3.out _ hb) (by omega)) _
        · exact ((HU3.out.ext (((Ext.refl _).alloc _).trans' HY4.out)).setAt (b := w.heap.size) (o := 0) (fun hb => absurd (HT3.out _ hb) (by omega)) _).setAt (b := w.heap.size) (o := 1) (fun hb => absurd (HT3.out _ hb) (by omega)) _
        · omega
        · omega
      · exact Ext.setNew (a := w) (Ext.setNew HX4.out (Nat.le_refl _) _) (Nat.le_refl _) _
    · have HN := Lib.hid (show recOf t l = none from implRec_no ht HPR.out HNO.out HC2.out (by
        intro e
        apply he
        rw [HF.out, HLS.out, e]))
      have he1 := str_ne he
      clear he
      go_enter Tryz.func117, Tryz.ntmps117
      go_wp2_with (first
        | (go_at_call 40; refine (HC.out _ ((Ext.refl _).alloc _)).mono ?_; rintro e w1 ⟨rfl, hx1⟩; have HB1 := Lib.hid (HB.out.ext hx1); have HX1 := Lib.hid (((Ext.refl w).alloc _).trans' hx1); clear hx1)
        | (go_at_call 152; refine (HLI.out _).mono ?_; rintro e w2 ⟨rfl, rfl⟩)
        | (go_at_call 9; refine (HG.out _ HX1.out).mono ?_; rintro e w3 ⟨⟨A3, B3, c3, d3, S3, T3, rfl, ⟨k1, k2, k3, k4⟩, hv3, hu3, hS3, hT3, hD3⟩, hx3⟩
           have HV3 := Lib.hid hv3
           have HU3 := Lib.hid hu3
           have HX3 := Lib.hid (HX1.out.trans' hx3)
           have HB3 := Lib.hid (HB1.out.ext hx3)
           clear hx3 hv3 hu3 hS3 hT3 hD3)
        | (go_at_call 153; refine (HL.out _ (HX3.out.alloc _) _ _ _ _ (AtomsO.read (HV3.out.ext ((Ext.refl _).alloc _))) (AtomsO.read (HU3.out.ext ((Ext.refl _).alloc _)))).mono ?_; rintro e w4 ⟨rfl, hx4⟩
           have HX4 := Lib.hid ((HX3.out.alloc _).trans' hx4)
           have HB4 := Lib.hid ((HB3.out.alloc _).ext hx4)
           have q0 := HB4.out.cell 0
           have q1 := HB4.out.cell 1
           have f0 := HB4.out.frozen 0
           have f1 := HB4.out.frozen 1
           have hl4 := HB4.out.lt
           clear hx4))
      refine bodyPost_ret (v := .tuple #[.agg #[.slice none 0 0, .slice none 0 0], .bool false]) (by simp [results, Tryz.results117, go_sem, q0, q1]) rfl ⟨by rw [HN.out]; rfl, ?_⟩
      exact Ext.setNew (a := w) (Ext.setNew HX4.out (Nat.le_refl _) _) (Nat.le_refl _) _

end Go.Proofs.YthndnkafckapnaaGreatDoor
