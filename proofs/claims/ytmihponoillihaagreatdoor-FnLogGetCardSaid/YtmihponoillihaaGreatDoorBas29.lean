/- Part of the texts of a proof; what they say stands at each theorem. -/
import Derived.Test.YtmihponoillihaaGreatDoorBas28
import Derived.Deep.QuietTactic
import Derived.BigQuiet
import Derived.Deep.LoopGhost
import Derived.RangeFuncNested
import Derived.RangeFuncBound
import Derived.RangeFuncCalls
import Derived.RangeFuncLeaves
import Derived.RangeFuncWrites
import Derived.Shelf.Abstract
import Derived.Shelf.RegionOpen
import Derived.OwnWalkIn
import Derived.TacticsInMore
import Derived.LoopNIn
import Derived.LoopIn
set_option linter.unusedSimpArgs false
set_option linter.unusedVariables false
namespace Go.Proofs.YtmihponoillihaaGreatDoor
open Go.RowKit
theorem last_upTo (rs : ByteArray) : ∃ m : Nat, m = (upTo 32 rs.data.toList).length ∧ Lib.lastIndexByte rs 32 + 1 = (m : Int) ∧ m ≤ rs.size ∧ rs.extract 0 m = strOf (upTo 32 rs.data.toList) := by
 have e0 : rs.data.toList.length = rs.size := by simp
 have hget : ∀ j (hj : j < rs.data.toList.length), rs.data[j]! = rs.data.toList[j] := fun j hj => by
  rw [getElem!_pos rs.data j (by simpa using hj)]; simp
 have fin : ∀ m : Nat, m = (upTo 32 rs.data.toList).length → Lib.lastIndexByte rs 32 + 1 = (m : Int) → ∃ m : Nat, m = (upTo 32 rs.data.toList).length ∧ Lib.lastIndexByte rs 32 + 1 = (m : Int) ∧ m ≤ rs.size ∧ rs.extract 0 m = strOf (upTo 32 rs.data.toList) := fun m h1 h2 => by
  have h3 := upTo_len 32 rs.data.toList; refine ⟨m, h1, h2, by omega, ?_⟩; rw [extract_str rs 0 m (by omega), List.drop_zero, Nat.sub_zero, h1]
  congr 1
  obtain ⟨z, _, _, h6⟩ := split_upTo 32 rs.data.toList
  conv => lhs; arg 2; rw [h6]
  exact List.take_left' rfl
 rcases Lib.lastIdx_spec rs 32 rs.size with ⟨h1, h2⟩ | ⟨i, hi, h1, h2, h3⟩
 · have hno : (32 : UInt8) ∉ rs.data.toList := by
     intro hm; obtain ⟨j, hj, e⟩ := List.mem_iff_getElem.1 hm; have := h2 j (by omega); rw [hget j hj, e] at this; exact this rfl
   have hu := upTo_none hno; exact fin 0 (by rw [hu]; rfl) (by unfold Lib.lastIndexByte; rw [h1]; rfl)
 have hil : i < rs.data.toList.length := by omega
 have hc : rs.data.toList[i] = 32 := by
  rw [hget i hil] at h2; exact UInt8.toNat_inj.1 (by show _ = 32; omega)
 have hsplit : rs.data.toList = rs.data.toList.take i ++ 32 :: rs.data.toList.drop (i + 1) := by
  conv => lhs; rw [← List.take_append_drop i rs.data.toList, List.drop_eq_getElem_cons hil, hc]
 have hno : (32 : UInt8) ∉ rs.data.toList.drop (i + 1) := by
  intro hm; obtain ⟨j, hj, e⟩ := List.mem_iff_getElem.1 hm; rw [List.getElem_drop] at e; rw [List.length_drop] at hj; have := h3 (i + 1 + j) (by omega) (by omega); rw [hget _ (by omega), e] at this; exact this rfl
 have hu : upTo 32 rs.data.toList = rs.data.toList.take i ++ [32] := by
  conv => lhs; rw [hsplit]
  exact upTo_app _ hno
 exact fin (i + 1) (by rw [hu, List.length_append, List.length_take]; simp; omega) (by unfold Lib.lastIndexByte; rw [h1]; rfl)
theorem strLast_any (rs : ByteArray) (w : World) (hs : rs.size ≤ 4194304) :
 Calls Tryz.prog 156 #[.string rs, .int .u8 32] w fun e w' => e = .returned (.int .i64 (Lib.lastIndexByte rs 32)) ∧ w = w' :=
 (Tryz.strings_LastIndexByte rs 32 (by omega) w).mono fun e w' h => ⟨h.1, h.2.symm⟩
set_option maxRecDepth 100000 in
set_option maxHeartbeats 1000000 in
theorem recordGet_any (t : Nat) (l : List UInt8) (ls : ByteArray) (w : World) (hls : ls = strOf (l ++ [10])) (hs : ls.size ≤ 400000) (ht : t ≤ 100000) (hm : MaxIs w) (htab : Lib.TabIs Tryz.prog w "internal/strconv.uint64pow10" .u64 Lib.pow10Tab) :
 Calls Tryz.prog 90 #[.int .i64 t, .string ls] w fun e w' => GotChange w.heap.size (recOf t l) e w' ∧ Ext w w' := by
 have hld : ls.data.toList = l ++ [10] := by rw [hls, list_strOf]
 have HLS := Lib.hid hls; have HB := Lib.hid (Blk.new w 32 #[.slice none 0 0, .slice none 0 0]); have HM := Lib.hid hm; have HT := Lib.hid htab
 have hcut := fun W hW => strCut_any ls 58 W (by omega) (hm.ext hW)
 clear hm htab
 rcases cut_one 58 ls.data.toList with ⟨hno, hc⟩ | ⟨p, r, hpr, hno, hc⟩
 · have HN := Lib.hid (show recOf t l = none from implRec_colon (by rw [← hld]; exact hno))
   have HC := Lib.hid (fun W (hW : Ext w W) => show Calls Tryz.prog 154 #[.string ls, .string ⟨#[58]⟩] W fun e w' => e = .returned (.tuple #[.string ls, .string ⟨#[]⟩, .bool false]) ∧ Ext W w' from by
    have h := hcut W hW; rw [hc, strOf_list] at h
    exact h)
   clear hcut hc hno hld hls
   go_enter Tryz.func90, Tryz.ntmps90
   go_wp2_with (go_at_call 154; refine (HC.out _ ((Ext.refl _).alloc _)).mono ?_; rintro e w1 ⟨rfl, hx1⟩; have hb := HB.out.ext hx1; have q0 := hb.cell 0; have q1 := hb.cell 1; have f0 := hb.frozen 0; have f1 := hb.frozen 1; have hl := hb.lt; have HX1 := Lib.hid hx1; clear hb hx1)
   refine bodyPost_ret (v := .tuple #[.agg #[.slice none 0 0, .slice none 0 0], .bool false]) (by simp [results, Tryz.results90, go_sem, q0, q1]) rfl ⟨by rw [HN.out]; rfl, ?_⟩; exact Ext.setNew (a := w) (Ext.setNew (((Ext.refl w).alloc _).trans' HX1.out) (Nat.le_refl _) _) (Nat.le_refl _) _
 obtain ⟨ps, hps⟩ : ∃ ps, ps = strOf p := ⟨_, rfl⟩
 obtain ⟨rs, hrs⟩ : ∃ rs, rs = strOf r := ⟨_, rfl⟩
 have hlen : p.length + 1 + r.length = ls.size := by
  have h := congrArg List.length hpr; simp only [List.length_append, List.length_cons] at h
  have e : ls.data.toList.length = ls.size := by simp
  omega
 have hrs1 : rs.size ≤ 400000 := by rw [hrs, strOf_size]; omega
 have hrd : rs.data.toList = r := by rw [hrs, list_strOf]
 have HC := Lib.hid (fun W (hW : Ext w W) => show Calls Tryz.prog 154 #[.string ls, .string ⟨#[58]⟩] W fun e w' => e = .returned (.tuple #[.string ps, .string rs, .bool true]) ∧ Ext W w' from by
  have h := hcut W hW; rw [hc, ← hps, ← hrs] at h
  exact h)
 obtain ⟨m, hm1, hm2, hm3, hm4⟩ := last_upTo rs; rw [hrd] at hm1 hm4
 obtain ⟨n, hn⟩ : ∃ n, n = Lib.lastIndexByte rs 32 := ⟨_, rfl⟩
 have HLI := Lib.hid (fun W => show Calls Tryz.prog 156 #[.string rs, .int .u8 32] W fun e w' => e = .returned (.int .i64 n) ∧ W = w' from hn ▸ strLast_any rs W (by omega))
 have hn2 : n + 1 = (m : Int) := by rw [hn]; exact hm2
 have hm5 : (0 : Int) ≤ (m : Int) := by omega
 have HPR := Lib.hid (show l ++ [10] = p ++ 58 :: r from hld.symm.trans hpr); have HNO := Lib.hid hno; have HX := Lib.hid (show (rs.extract 0 m).data.toList = upTo 32 r from by rw [hm4, list_strOf]); have HXS := Lib.hid (show (rs.extract 0 m).size ≤ 400000 from by rw [hm4, strOf_size, ← hm1]; omega); clear hcut hc hno hld hls hps hrs hlen hrd hm1 hm2 hm4 hn hpr
 cases hc : changeOf (upTo 32 r) with
 | none =>
   have HN := Lib.hid (show recOf t l = none from implRec_none HPR.out HNO.out hc)
   have HG := Lib.hid (fun W (hW : Ext w W) => show Calls Tryz.prog 155 #[.string (rs.extract 0 m)] W fun e w' => e = .returned (.tuple #[.agg #[.slice none 0 0, .slice none 0 0], .bool false]) ∧ Ext W w' from (changeGet_any (rs.extract 0 m) W (by have := HXS.out; omega) (HM.out.ext hW)).mono fun e w' ⟨h1, h2⟩ => by
    rw [HX.out, hc] at h1; exact ⟨h1, h2⟩)
   clear hc
   go_enter Tryz.func90, Tryz.ntmps90
   go_wp2_with (first
    | (go_at_call 154; refine (HC.out _ ((Ext.refl _).alloc _)).mono ?_; rintro e w1 ⟨rfl, hx1⟩; have HB1 := Lib.hid (HB.out.ext hx1); have HX1 := Lib.hid (((Ext.refl w).alloc _).trans' hx1); clear hx1)
    | (go_at_call 156; refine (HLI.out _).mono ?_; rintro e w2 ⟨rfl, rfl⟩)
    | (go_at_call 155; refine (HG.out _ HX1.out).mono ?_; rintro e w3 ⟨rfl, hx3⟩; have HX3 := Lib.hid (HX1.out.trans' hx3); have hb := HB1.out.ext hx3; have hl := hb.lt; have HB3 := Lib.hid hb; have q0 := hb.cell 0; have q1 := hb.cell 1; have f0 := hb.frozen 0; have f1 := hb.frozen 1; clear hb hx3))
   have hzf := ((HB3.out.set_ 0 (.slice none 0 0)).set_ 1 (.slice none 0 0)).alloc (.cells #[.slice none 0 0, .slice none 0 0] 32); have z0 := hzf.cell 0; have z1 := hzf.cell 1; simp at z0 z1; refine bodyPost_ret (v := .tuple #[.agg #[.slice none 0 0, .slice none 0 0], .bool false]) (by simp [results, Tryz.results90, go_sem, z0, z1]) rfl ⟨by rw [HN.out]; rfl, ?_⟩; exact (Ext.setNew (a := w) (Ext.setNew HX3.out (Nat.le_refl _) _) (Nat.le_refl _) _).alloc _
 | some g =>
   obtain ⟨n1, hn1'⟩ : ∃ n1, n1 = g.comes.length := ⟨_, rfl⟩
   obtain ⟨m1, hm1'⟩ : ∃ m1, m1 = g.goes.length := ⟨_, rfl⟩
   have HG := Lib.hid (fun W (hW : Ext w W) => show Calls Tryz.prog 155 #[.string (rs.extract 0 m)] W fun e w' => GotSomeC W.heap.size g n1 m1 e w' ∧ Ext W w' from (changeGet_any (rs.extract 0 m) W (by have := HXS.out; omega) (HM.out.ext hW)).mono fun e w' ⟨h1, h2⟩ => by
    rw [HX.out, hc] at h1; have h3 := GotChange.some h1; rw [← hn1', ← hm1'] at h3
    exact ⟨h3, h2⟩)
   obtain ⟨f, hf⟩ : ∃ f, f = strOf (logPutL t g) := ⟨_, rfl⟩
   have HL := Lib.hid (fun W (hW : Ext w W) (v u : Value) (S T : Nat → Prop) (hv : AtomsR S W v g.comes) (hu : AtomsR T W u g.goes) => show Calls Tryz.prog 11 #[.int .i64 t, .agg #[v, u]] W fun e w' => e = .returned (.string f) ∧ Ext W w' from by
    have h3 := logPut_any (t : Int) g v u W hv hu (pow_ext HT.out hW); rw [← hf] at h3
    exact h3)
   have HF := Lib.hid hf; have HC2 := Lib.hid hc; clear hf hc hn1' hm1'
   by_cases he : f = ls
   · have HOK := Lib.hid (show recOf t l = some g from implRec_yes (by
       have h4 := congrArg (fun b : ByteArray => b.data.toList) (HF.out.symm.trans (he.trans HLS.out)); simp only [list_strOf] at h4
       exact h4))
     have he1 := str_eq he; clear he
     go_enter Tryz.func90, Tryz.ntmps90
     go_wp2_with (first
      | (go_at_call 154; refine (HC.out _ ((Ext.refl _).alloc _)).mono ?_; rintro e w1 ⟨rfl, hx1⟩; have HB1 := Lib.hid (HB.out.ext hx1); have HX1 := Lib.hid (((Ext.refl w).alloc _).trans' hx1); have hz1 := HB1.out.lt; clear hx1)
      | (go_at_call 156; refine (HLI.out _).mono ?_; rintro e w2 ⟨rfl, rfl⟩)
      | (go_at_call 155; refine (HG.out _ HX1.out).mono ?_; rintro e w3 ⟨⟨A3, B3, c3, d3, S3, T3, rfl, ⟨k1, k2, k3, k4⟩, hv3, hu3, hS3, hT3, hD3⟩, hx3⟩
         have HV3 := Lib.hid hv3; have HU3 := Lib.hid hu3; have HS3 := Lib.hid hS3; have HT3 := Lib.hid hT3; have HD3 := Lib.hid hD3; have HX3 := Lib.hid (HX1.out.trans' hx3); have HB3 := Lib.hid (HB1.out.ext hx3); have hl3 := HB3.out.lt
         clear hx3 hv3 hu3 hS3 hT3 hD3)
      | (go_at_call 11; refine (HL.out _ (HX3.out.alloc _) _ _ _ _ (AtomsO.read (HV3.out.ext ((Ext.refl _).alloc _))) (AtomsO.read (HU3.out.ext ((Ext.refl _).alloc _)))).mono ?_; rintro e w4 ⟨rfl, hx4⟩
         have HX4 := Lib.hid ((HX3.out.alloc _).trans' hx4); have HY4 := Lib.hid hx4; have HB4 := Lib.hid ((HB3.out.alloc _).ext hx4); have hc4 := (Blk.new w3 32 #[.slice A3 n1 c3, .slice B3 m1 d3]).ext hx4; have p0 := hc4.cell 0; have p1 := hc4.cell 1; have q0 := HB4.out.cell 0; have q1 := HB4.out.cell 1; have f0 := HB4.out.frozen 0; have f1 := HB4.out.frozen 1; have hl4 := HB4.out.lt
         clear hx4 hc4))
     refine bodyPost_ret (v := .tuple #[.agg #[.slice A3 n1 c3, .slice B3 m1 d3], .bool true]) (by simp [results, Tryz.results90, go_sem, q0, q1]) rfl ⟨?_, ?_⟩
     · rw [HOK.out]
       refine ⟨_, _, S3, T3, rfl, ?_, ?_, fun b hb => Nat.le_trans ?_ (HS3.out b hb), fun b hb => Nat.le_trans ?_ (HT3.out b hb), HD3.out⟩
       · exact ((HV3.out.ext (((Ext.refl _).alloc _).trans' HY4.out)).setAt (b := w.heap.size) (o := 0) (fun hb => absurd (HS3.out _ hb) (by omega)) _).setAt (b := w.heap.size) (o := 1) (fun hb => absurd (HS3.out _ hb) (by omega)) _
       · exact ((HU3.out.ext (((Ext.refl _).alloc _).trans' HY4.out)).setAt (b := w.heap.size) (o := 0) (fun hb => absurd (HT3.out _ hb) (by omega)) _).setAt (b := w.heap.size) (o := 1) (fun hb => absurd (HT3.out _ hb) (by omega)) _
       · omega
       omega
     exact Ext.setNew (a := w) (Ext.setNew HX4.out (Nat.le_refl _) _) (Nat.le_refl _) _
   have HN := Lib.hid (show recOf t l = none from implRec_no ht HPR.out HNO.out HC2.out (by
     intro e
     apply he
     rw [HF.out, HLS.out, e]))
   have he1 := str_neL he; clear he
   go_enter Tryz.func90, Tryz.ntmps90
   go_wp2_with (first
    | (go_at_call 154; refine (HC.out _ ((Ext.refl _).alloc _)).mono ?_; rintro e w1 ⟨rfl, hx1⟩; have HB1 := Lib.hid (HB.out.ext hx1); have HX1 := Lib.hid (((Ext.refl w).alloc _).trans' hx1); clear hx1)
    | (go_at_call 156; refine (HLI.out _).mono ?_; rintro e w2 ⟨rfl, rfl⟩)
    | (go_at_call 155; refine (HG.out _ HX1.out).mono ?_; rintro e w3 ⟨⟨A3, B3, c3, d3, S3, T3, rfl, ⟨k1, k2, k3, k4⟩, hv3, hu3, hS3, hT3, hD3⟩, hx3⟩
       have HV3 := Lib.hid hv3; have HU3 := Lib.hid hu3; have HX3 := Lib.hid (HX1.out.trans' hx3); have HB3 := Lib.hid (HB1.out.ext hx3)
       clear hx3 hv3 hu3 hS3 hT3 hD3)
    | (go_at_call 11; refine (HL.out _ (HX3.out.alloc _) _ _ _ _ (AtomsO.read (HV3.out.ext ((Ext.refl _).alloc _))) (AtomsO.read (HU3.out.ext ((Ext.refl _).alloc _)))).mono ?_; rintro e w4 ⟨rfl, hx4⟩
       have HX4 := Lib.hid ((HX3.out.alloc _).trans' hx4); have HB4 := Lib.hid ((HB3.out.alloc _).ext hx4); have q0 := HB4.out.cell 0; have q1 := HB4.out.cell 1; have f0 := HB4.out.frozen 0; have f1 := HB4.out.frozen 1; have hl4 := HB4.out.lt
       clear hx4))
   refine bodyPost_ret (v := .tuple #[.agg #[.slice none 0 0, .slice none 0 0], .bool false]) (by simp [results, Tryz.results90, go_sem, q0, q1]) rfl ⟨by rw [HN.out]; rfl, ?_⟩; exact Ext.setNew (a := w) (Ext.setNew HX4.out (Nat.le_refl _) _) (Nat.le_refl _) _
def EofIs (w : World) (T : TypeId) (y : Value) : Prop := w.cell? ⟨0, 0, none⟩ = some (.iface T y)
theorem EofIs.ext {w w' : World} {T : TypeId} {y : Value} (h : EofIs w T y) (he : Ext w w') : EofIs w' T y := (he.cells.1 _ _ (cell_lt h)).trans h
theorem EofIs.below' {w w' : World} {T : TypeId} {y : Value} {n : Nat} (h : EofIs w T y) (he : Below n w w') (hn : 0 < n) : EofIs w' T y :=
 (he.cell (p := ⟨0, 0, none⟩) hn).trans h
theorem EofIs.inside {w w' : World} {T : TypeId} {y : Value} {S : Nat → Prop} (h : EofIs w T y) (he : Inside S w w') (hS : ¬ S 0) : EofIs w' T y :=
 (World.cell?_of_block (a := ⟨0, 0, none⟩) (he.block _ (cell_lt h) hS)).trans h
theorem Inside.below {S : Nat → Prop} {a b c : World} {n : Nat} (h : Inside S a b) (k : Below n b c) (hn : a.heap.size ≤ n) : Inside S a c :=
 ⟨k.os.trans h.os, k.tape.trans h.tape, k.output.trans h.output, Nat.le_trans h.size k.size, fun i hi hs => (k.block i (Nat.lt_of_lt_of_le hi hn)).trans (h.block i hi hs)⟩
theorem Builds.inside {B b : Nat} {l : List UInt8} {w w' : World} {S : Nat → Prop} (h : Builds B b l w) (he : Inside S w w') (hS : ∀ i, S i → i < B) : Builds B b l w' := by
 have key : ∀ p, BuilderAt B b p l w → BuilderAt B b p l w' := fun p hp => by
  obtain ⟨hB, v, hb, hown, hne⟩ := hp; refine ⟨hB, v, (he.block b (Array.getElem?_eq_some_iff.1 hb).1 (fun hs => absurd (hS b hs) (Nat.not_lt.2 hB))).trans hb, ⟨hown.1, ?_⟩, hne⟩
  rcases hown.2 with h0 | ⟨g, cap, cur, rfl, hg, hc, h3⟩
  · exact .inl h0
  exact .inr ⟨g, cap, cur, rfl, hg, (he.block g (Array.getElem?_eq_some_iff.1 hc).1 (fun hs => absurd (hS g hs) (Nat.not_lt.2 hg))).trans hc, h3⟩
 exact h.imp (key _) (key _)
set_option maxRecDepth 100000 in
set_option maxHeartbeats 1000000 in
theorem readByte_more (s : ByteArray) (p : Nat) (q : Int) (b : Nat) (t : TypeId) (w : World) (hs : s.size ≤ 400000) (hp : p < s.size) (hb : Blk w b t #[.string s, .int .i64 p, .int .i64 q]) :
 Calls Tryz.prog 152 #[.pointer (some ⟨b, 0, none⟩)] w fun e w' => e = .returned (.tuple #[.int .u8 s[p].toNat, .nilIface]) ∧ Blk w' b t #[.string s, .int .i64 (p + 1 : Nat), .int .i64 (-1)] ∧ Inside (fun i => i = b) w w' := by
 have q2 := hb.cell 2; have f1 := hb.frozen 1; have f2 := hb.frozen 2
 have hb1 : Blk (w.setCell ⟨b, 2, none⟩ (.int .i64 (-1))) b t #[.string s, .int .i64 p, .int .i64 (-1)] := by simpa using hb.set_ 2 (.int .i64 (-1))
 have HB1 := Lib.hid hb1; have c0 := hb1.cell 0; have c1 := hb1.cell 1; have g1 := hb1.frozen 1; simp at c0 c1 q2
 have hi0 : (0 : Int) ≤ (p : Int) := by omega
 have hi1 : (p : Int) < (s.size : Int) := by omega
 have hs1 : (s.size : Int) ≤ 400000 := by omega
 have hlt : decide ((s.size : Int) ≤ (p : Int)) = false := decide_eq_false (by omega); clear hb1
 go_enter Tryz.func152, Tryz.ntmps152
 go_wp2
 go_quiet (fail)
 go_wp2
 go_quiet (fail)
 go_wp2
 go_ret2
 refine ⟨rfl, by simpa using (HB1.out.drewN _).set_ 1 (.int .i64 ((p : Int) + 1)), ?_⟩; exact ((Inside.set (S := fun i => i = b) w ⟨b, 2, none⟩ _ rfl).trans' (Inside.of_ext ((Ext.refl _).drewN _))).trans' (Inside.set (S := fun i => i = b) _ ⟨b, 1, none⟩ _ rfl)
set_option maxRecDepth 100000 in
set_option maxHeartbeats 1000000 in
theorem readByte_end (s : ByteArray) (p : Nat) (q : Int) (b : Nat) (t : TypeId) (T : TypeId) (y : Value) (w : World) (hs : s.size ≤ 400000) (hp : s.size ≤ p) (hp2 : p ≤ 400000) (hb : Blk w b t #[.string s, .int .i64 p, .int .i64 q]) (he : EofIs w T y) (hne : b ≠ 0) :
 Calls Tryz.prog 152 #[.pointer (some ⟨b, 0, none⟩)] w fun e w' => e = .returned (.tuple #[.int .u8 0, .iface T y]) ∧ Blk w' b t #[.string s, .int .i64 p, .int .i64 (-1)] ∧ Inside (fun i => i = b) w w' := by
 have q2 := hb.cell 2; have f1 := hb.frozen 1; have f2 := hb.frozen 2
 have hb1 : Blk (w.setCell ⟨b, 2, none⟩ (.int .i64 (-1))) b t #[.string s, .int .i64 p, .int .i64 (-1)] := by simpa using hb.set_ 2 (.int .i64 (-1))
 have he1 : (w.setCell ⟨b, 2, none⟩ (.int .i64 (-1))).cell? ⟨0, 0, none⟩ = some (.iface T y) := he.inside (Inside.set (S := fun i => i = b) w ⟨b, 2, none⟩ _ rfl) (fun e => hne (Eq.symm e)); have HB1 := Lib.hid hb1; have c0 := hb1.cell 0; have c1 := hb1.cell 1; simp at c0 c1 q2
 have hi0 : (0 : Int) ≤ (p : Int) := by omega
 have hs1 : (s.size : Int) ≤ 400000 := by omega
 have hlt : decide ((s.size : Int) ≤ (p : Int)) = true := decide_eq_true (by omega); clear hb1
 go_enter Tryz.func152, Tryz.ntmps152
 go_wp2
 go_quiet (fail)
 go_wp2
 go_quiet (fail)
 go_wp2
 go_ret2
 refine ⟨rfl, (HB1.out.drewN _).drewN _, ?_⟩; exact ((Inside.set (S := fun i => i = b) w ⟨b, 2, none⟩ _ rfl).trans' (Inside.of_ext ((Ext.refl _).drewN _))).trans' (Inside.of_ext ((Ext.refl _).drewN _))
def LineGot (s : ByteArray) (p b : Nat) (t : TypeId) (e : Ending) (w' : World) : Prop :=
 (∃ x r, s.data.toList.drop p = x ++ 10 :: r ∧ (10 : UInt8) ∉ x ∧ e = .returned (.tuple #[.string (strOf (x ++ [10])), .bool true]) ∧ Blk w' b t #[.string s, .int .i64 (p + (x.length + 1) : Nat), .int .i64 (-1)]) ∨
 ((10 : UInt8) ∉ s.data.toList.drop p ∧ e = .returned (.tuple #[.string ⟨#[]⟩, .bool false]))
set_option maxRecDepth 100000 in
set_option maxHeartbeats 1000000 in
theorem line_any (s : ByteArray) (p : Nat) (q : Int) (b : Nat) (t : TypeId) (T : TypeId) (y : Value) (w : World) (hs : s.size ≤ 400000) (hp : p ≤ s.size) (hb : Blk w b t #[.string s, .int .i64 p, .int .i64 q]) (he : EofIs w T y) (hne : b ≠ 0) :
 Calls Tryz.prog 89 #[.pointer (some ⟨b, 0, none⟩)] w fun e w' => LineGot s p b t e w' ∧ Inside (fun i => i = b) w w' := by
 have hlt := hb.lt; have heof := cell_lt he; have HB := Lib.hid (hb.alloc (.cells #[.pointer none, .slice none 0 0] 144)); have HE := Lib.hid (he.ext ((Ext.refl w).alloc (.cells #[.pointer none, .slice none 0 0] 144))); have HF := Lib.hid (Builds.fresh w); clear hb he
 go_enter Tryz.func89, Tryz.ntmps89
 go_wp2
 go_loopg [] (s.size - p) (fun gk wr => ∃ (k : Nat) (q : Int) (l : List UInt8), gk = s.size - (p + k) ∧ p + k ≤ s.size ∧ Hid (l = (s.data.toList.drop p).take k) ∧ Hid ((10 : UInt8) ∉ l) ∧ Hid (Blk wr b t #[.string s, .int .i64 (p + k : Nat), .int .i64 q]) ∧ Hid (EofIs wr T y) ∧ Hid (Builds w.heap.size w.heap.size l wr) ∧ Inside (fun i => i = b) w wr ∧ w.heap.size < wr.heap.size)
 case atStart => exact ⟨0, q, [], by omega, by omega, Lib.hid (by simp), Lib.hid (by simp), HB, HE, HF, Inside.of_ext ((Ext.refl _).alloc _), by simp⟩
 case round =>
  obtain ⟨k, q, l, rfl, hpk, hl, h10, hb, he, hf, hin, hsz⟩ := hrel
  have hll : l.length = k := by rw [hl.out, List.length_take, List.length_drop]; have e : s.data.toList.length = s.size := (by simp); omega
  by_cases hlt' : p + k < s.size
  · have hat : s.data.toList[p + k]? = some s[p + k] := by rw [List.getElem?_eq_getElem (by simpa using hlt')]; rfl
    have HT := Lib.hid (show (s.data.toList.drop p).take (k + 1) = l ++ [s[p + k]] from by
     rw [hl.out]
     have h2 : (s.data.toList.drop p)[k]? = some s[p + k] := by rw [List.getElem?_drop]; exact hat
     obtain ⟨h3, h4⟩ := List.getElem?_eq_some_iff.1 h2
     rw [List.take_succ_eq_append_getElem h3, h4])
    obtain ⟨c, hc⟩ : ∃ c, c = s[p + k] := ⟨_, rfl⟩
    have HR := Lib.hid (show Calls Tryz.prog 152 #[.pointer (some ⟨b, 0, none⟩)] wr fun e w' => e = .returned (.tuple #[.int .u8 c.toNat, .nilIface]) ∧ Blk w' b t #[.string s, .int .i64 (p + (k + 1) : Nat), .int .i64 (-1)] ∧ Inside (fun i => i = b) wr w' from hc ▸ readByte_more s (p + k) q b t wr hs hlt' hb.out); rw [← hc] at HT hat; have hc8 : c.toNat < 256 := c.toNat_lt
    by_cases hcn : c = 10
    · have hg : ((c.toNat : Int) == 10) = true := by rw [hcn]; rfl
      have HL := Lib.hid (show s.data.toList.drop p = l ++ 10 :: s.data.toList.drop (p + k + 1) from by
       have h2 : (s.data.toList.drop p)[k]? = some c := by rw [List.getElem?_drop]; exact hat
       obtain ⟨h3, h4⟩ := List.getElem?_eq_some_iff.1 h2
       conv => lhs; rw [← List.take_append_drop k (s.data.toList.drop p), List.drop_eq_getElem_cons h3, h4, hcn, ← hl.out, List.drop_drop]
       rw [show p + (k + 1) = p + k + 1 from by omega])
      have HCN := Lib.hid hcn; clear hc hat hcn
      go_wp2_with (first
       | (go_at_call 152; refine HR.out.mono ?_; rintro e w1 ⟨rfl, hb1, hi1⟩; have HB1 := Lib.hid hb1; have HI1 := Lib.hid hi1; have hz1 := hi1.size; have hf1 := Builds.inside hf.out hi1 (fun i hi => by omega); have HF1 := Lib.hid hf1; clear hb1 hi1 hf1)
       | (go_at_call 153; refine (writeByte_any w.heap.size w.heap.size l c _ HF1.out (by omega) (by omega)).mono ?_; rintro e w2 ⟨rfl, hf2, hb2, hk2⟩; have HF2 := Lib.hid hf2; have HB2 := Lib.hid (HB1.out.below hb2 hlt); have HI2 := Lib.hid hb2; have hz2 := hb2.size; clear hf2 hb2 hk2)
       | (go_at_call 96; refine (string_any w.heap.size w.heap.size (l ++ [c]) _ HF2.out (by omega)).mono ?_; rintro e w3 ⟨rfl, hb3⟩; have HB3 := Lib.hid hb3; clear hb3))
      go_ret2
      refine ⟨.inl ⟨l, _, HL.out, h10.out, ?_, ?_⟩, ?_⟩
      · rw [HCN.out]; rfl
      · rw [hll]; exact HB2.out.below HB3.out hlt
      exact ((hin.trans' HI1.out).below HI2.out (Nat.le_refl _)).below HB3.out (Nat.le_refl _)
    have hg : ((c.toNat : Int) == 10) = false := by
      rw [beq_eq_false_iff_ne]; intro e; exact hcn (UInt8.toNat_inj.1 (by show _ = 10; omega))
    have HNO := Lib.hid (show (10 : UInt8) ∉ l ++ [c] from by
     intro hm
     rcases List.mem_append.1 hm with hm | hm
     · exact h10.out hm
     simp at hm; exact hcn hm.symm)
    clear hc hat hcn
    go_wp2_with (first
     | (go_at_call 152; refine HR.out.mono ?_; rintro e w1 ⟨rfl, hb1, hi1⟩; have HB1 := Lib.hid hb1; have HI1 := Lib.hid hi1; have hz1 := hi1.size; have hf1 := Builds.inside hf.out hi1 (fun i hi => by omega); have HF1 := Lib.hid hf1; clear hb1 hi1 hf1)
     | (go_at_call 153; refine (writeByte_any w.heap.size w.heap.size l c _ HF1.out (by omega) (by omega)).mono ?_; rintro e w2 ⟨rfl, hf2, hb2, hk2⟩; have HF2 := Lib.hid hf2; have HB2 := Lib.hid (HB1.out.below hb2 hlt); have HI2 := Lib.hid hb2; have hz2 := hb2.size; clear hf2 hb2 hk2))
    go_roundg (s.size - (p + (k + 1)))
    case rel =>
     have hin2 := (hin.trans' HI1.out).below HI2.out (Nat.le_refl _); exact ⟨k + 1, -1, l ++ [c], rfl, by omega, HT.out.symm, HNO, HB2, Lib.hid ((he.out.inside HI1.out (fun e => hne (Eq.symm e))).below' HI2.out heof), HF2, hin2, by omega⟩
    case measure => omega
  have hend : p + k = s.size := by omega
  have HR := Lib.hid (readByte_end s (p + k) q b t T y wr hs (by omega) (by omega) hb.out he.out hne)
  have HN := Lib.hid (show (10 : UInt8) ∉ s.data.toList.drop p from by
   have h2 : (s.data.toList.drop p).take k = s.data.toList.drop p := List.take_of_length_le (by rw [List.length_drop]; have e : s.data.toList.length = s.size := (by simp); omega)
   rw [← h2, ← hl.out]; exact h10.out)
  go_wp2_with (go_at_call 152; refine HR.out.mono ?_; rintro e w1 ⟨rfl, hb1, hi1⟩; have HI1 := Lib.hid hi1; clear hi1)
  go_ret2
  exact ⟨.inr ⟨HN.out, rfl⟩, hin.trans' HI1.out⟩
end Go.Proofs.YtmihponoillihaaGreatDoor
namespace Go.Proofs.YtmihponoillihaaGreatDoor
open Go Go.RowKit
def SeqSteps {α : Type} (F : Fence) (n : Nat) (P : Program) (g : Nat) (lb : Array Value) (encs : α → Array Value) (Step : World → World → Prop) (E : World → World → α → Prop) (Kp : World → World → Prop) (S : List α → Prop) (N : Nat) (w : World) : Prop :=
 ∀ (l : Nat) (J : List α → World → Prop) (W : World), Below w.heap.size w W → (∀ s A B, J s A → Step A B → J s B) →
   (∀ pre x W0 W1, J pre W0 → Step W0 W1 → E W0 W1 x → pre.length < N → YieldAt F (n - 1) P l (encs x) W1 fun e W' => e = .returned (.bool true) ∧ J (pre ++ [x]) W' ∧ Kp W1 W') →
   J [] W → CallsIn F n P g (#[.func (.yield l) #[] #[]] ++ lb) W fun e W' => (∃ v, e = .returned v) ∧ ∃ xs, S xs ∧ J xs W'
structure Turned (D : Nat) (A B : World) : Prop where
 os : B.os = A.os
 tape : B.tape = A.tape
 output : B.output = A.output
 size : A.heap.size ≤ B.heap.size
 block : ∀ b, b < A.heap.size → b ≠ D → b ≠ D + 1 → B.heap[b]? = A.heap[b]?
theorem Turned.putObj {D l : Nat} (W : World) (o : Obj) (hl : l = D ∨ l = D + 1) : Turned D W (W.putObj l o) :=
 ⟨rfl, rfl, rfl, by simp, fun b _ h1 h2 => World.putObj_heap_other (by omega)⟩
def stepPost {α : Type} (Kp : World → World → Prop) (I : List α → World → Prop) (xs : List α) (W : World) : Exit → Act → World → Prop
 | .normal, _, W' => KeepsOthers W W' ∧ Kp W W' ∧ I xs W'
 | _, _, _ => False
variable {F : Fence} {n : Nat} {P : Program}
theorem wpIn_range_steps {α : Type} {fo : Operand} {ps : Array Tmp} {assign body : Code} {Q : Exit → Act → World → Prop} {a : Act} {w : World}
 (hro : F.round = none) (h1 : 1 ≤ n) {gf : Nat} {lb : Array Value} (hg : a.eval fo = .func (.func gf) #[] lb) (hFg : F.fn gf) (eg : ∀ args w, (callFunc gf args).run P w = .ok (.enter gf args) w)
 {encs : α → Array Value} {Step Kp : World → World → Prop} {E : World → World → α → Prop} {S : List α → Prop} {N : Nat} {w0 : World} (hseq : SeqSteps F (n - 1) P gf lb encs Step E Kp S N w0)
 (hSk : ∀ (A B : World) (l : Nat) (o : Obj), Step A B → w.heap.size ≤ l → A.heap[l]? = some o → o.isCells = false → B.heap[l]? = some o)
 (hKt : ∀ {A B C : World}, Kp A B → Kp B C → Kp A C) (hKb : ∀ (W : World) (l : Nat) (o o' : Obj), w.heap.size ≤ l → W.heap[l]? = some o → o.isCells = false → o.isWalk = false → Kp W (W.putObj l o')) (hb0 : Below w0.heap.size w0 w) (hps : ∀ x, (encs x).size = ps.size)
 (I : List α → World → Prop) (hI : ∀ s A B, I s A → Turned w.heap.size A B → I s B) (hIS : ∀ s A B, I s A → Step A B → I s B) (h0 : I [] w) (a₁ : α → World → Act) (g : α → World → World) (hgs : ∀ x W, KeepsOthers W (g x W)) (hgk : ∀ x W, Kp W (g x W))
 (hassign : ∀ (x : α) (W : World) (K : Act → World → Prop), K (a₁ x W) (g x W) →
  assign.wpIn (F.inRound (w.heap.size + 1)) (n - 1 - 1) P (Exit.then K (fun _ _ _ => False)) { tmps := (ps.zip (encs x)).foldl (fun t (p, v) => t.setIfInBounds p v) a.tmps, defers := [] } W)
 (hbody : ∀ (pre : List α) (x : α) (W0 W1 : World) (o' : Obj), I pre W0 → Step W0 W1 → E W0 W1 x → pre.length < N → w.heap.size + 1 < W0.heap.size → w.heap.size + 1 < W1.heap.size → (∃ o : Obj, W1.heap[w.heap.size + 1]? = some o ∧ o.isCells = false) →
  body.wpIn (F.inRound (w.heap.size + 1)) (n - 1 - 1) P (stepPost Kp I (pre ++ [x]) ((g x W1).putObj (w.heap.size + 1) o')) (a₁ x W1) ((g x W1).putObj (w.heap.size + 1) o'))
 (hdone : ∀ (xs : List α) (W : World), S xs → I xs W → W.heap[w.heap.size]? = some (.deferred (some [])) → Q .normal { a with defers := { target := .collected w.heap.size, args := #[] } :: a.defers } W) :
 (Code.rangeFunc fo ps assign body).wpIn F n P Q a w := by
 refine wpIn_rangeFunc ?_; intro fn hfn; rw [hro]
 obtain ⟨D, hD⟩ : ∃ D, D = w.heap.size := ⟨_, rfl⟩
 obtain ⟨rec, hrec⟩ : ∃ rec : LoopState → Option Code → Loop, rec = fun st pe => { state := st, pending := pe, fn, tmps := a.tmps, params := ps, assign, body, defers := D } := ⟨_, rfl⟩
 obtain ⟨W1, hW1⟩ : ∃ W1, (w.alloc (.deferred (some []))).alloc (.loop (rec .ready none)) = W1 := ⟨_, rfl⟩
 have hL1 : W1.heap[D + 1]? = some (.loop (rec .ready none)) := by
  have h := World.alloc_heap_new (w.alloc (.deferred (some []))) (.loop (rec .ready none)); rw [World.size_alloc, hW1, ← hD] at h; exact h
 have hK1 : W1.heap[D]? = some (.deferred (some [])) := by
  rw [← hW1, hD]; exact (Below.heap_alloc _ _ _ (by simp)).trans (World.alloc_heap_new w _)
 have hI1 : I [] W1 := by
  refine hI _ _ _ h0 ?_; rw [← hW1]; exact ⟨rfl, rfl, rfl, by simp only [World.size_alloc]; omega, fun b hb _ _ => (Below.heap_alloc _ _ b (by simp only [World.size_alloc]; omega)).trans (Below.heap_alloc _ _ b hb)⟩
 have hb1 : Below w0.heap.size w0 W1 := by
  rw [← hW1]; exact hb0.trans ((((Below.refl _ w).alloc (Nat.le_refl _) _).alloc (by simp) _).mono hb0.size)
 rw [← hD] at hSk hKb hI hassign hbody hdone
 let J : List α → World → Prop := fun pre W => I pre W ∧ W.heap[D + 1]? = some (.loop (rec .ready none)) ∧ W.heap[D]? = some (.deferred (some []))
 have hJ : ∀ s A B, J s A → Step A B → J s B := fun s A B h hs => ⟨hIS s A B h.1 hs, hSk A B _ _ hs (by omega) h.2.1 rfl, hSk A B _ _ hs (Nat.le_refl _) h.2.2 rfl⟩
 have round : ∀ pre x W0 W2, J pre W0 → Step W0 W2 → E W0 W2 x → pre.length < N → YieldAt F (n - 1 - 1) P (D + 1) (encs x) W2 fun e W' => e = .returned (.bool true) ∧ J (pre ++ [x]) W' ∧ Kp W2 W' := by
  intro pre x W0 W2 h0 hs he hlen; have hlt0 : D + 1 < W0.heap.size := (Array.getElem?_eq_some_iff.1 h0.2.1).1; obtain ⟨_, hl, hk⟩ := hJ pre W0 W2 h0 hs; have hlt : D + 1 < W2.heap.size := (Array.getElem?_eq_some_iff.1 hl).1; have hy := run_yield (P := P) (args := encs x) hl (by rw [hrec]; exact hps x); rw [hrec] at hy; have hlg := (hgs x W2).same _ _ hl rfl; have hltg : D + 1 < (g x W2).heap.size := (Array.getElem?_eq_some_iff.1 hlg).1; have hl2 : ((g x W2).putObj (D + 1) (.loop { rec .ready none with state := .busy })).heap[D + 1]? = some (.loop { rec .ready none with state := .busy }) := World.putObj_heap_same hltg; have hk2 : ((g x W2).putObj (D + 1) (.loop { rec .ready none with state := .busy })).heap[D]? = some (.deferred (some [])) := (World.putObj_heap_other (by omega)).trans ((hgs x W2).same _ _ hk rfl); refine ⟨fn, _, assign, body, hy, roundIn_of_wpIn hfn (hassign x W2 _ ⟨_, run_beginRound hlg (by rw [hrec]), ?_⟩)⟩; refine wpIn_mono (hbody pre x W0 W2 (.loop { rec .ready none with state := .busy }) h0.1 hs he hlen hlt0 hlt ⟨_, hl, rfl⟩) ?_; intro e a3 W3 hp
  cases e with
  | normal =>
    obtain ⟨hk3, hkp3, hi3⟩ := hp; have hl3 := hk3.same _ _ hl2 rfl; have hr := run_endRound (P := P) none hl3; rw [hrec] at hr; refine ⟨_, _, hr, ?_⟩; rw [hrec] at hl3; refine ⟨rfl, ⟨hI _ _ _ hi3 (Turned.putObj _ _ (.inr rfl)), ?_, ?_⟩, hKt (hKt (hKt (hgk x W2) (hKb _ _ _ _ (by omega) hlg rfl rfl)) hkp3) (hKb _ _ _ _ (by omega) hl3 rfl rfl)⟩
    · rw [World.putObj_heap_same (Array.getElem?_eq_some_iff.1 hl3).1, hrec]; rfl
    · exact (World.putObj_heap_other (by omega)).trans (hk3.same _ _ hk2 rfl)
  | ret => exact hp.elim
  | exit id => exact hp.elim
  | goto t => exact hp.elim
  | panic ch => exact hp.elim
  | outgrown => exact hp.elim
 refine ⟨D + 1, [{ target := .collected D, args := #[] }], W1, { target := .fn (.func gf) lb, args := #[.func (.yield (D + 1)) #[] #[]] }, W1, gf, #[.func (.yield (D + 1)) #[] #[]] ++ lb, W1, ?_, ?_, ?_, ?_, fun _ => h1, ?_⟩
 · rw [← hW1, hrec, hD]; exact run_enterLoop_outer _ _ _ _ _
 · simp only [resolve, hg]
   simp [go_sem]
 · intro f' hf'; simp [Target.leads] at hf'; subst hf'; exact hFg
 · simp [invoke, go_sem, eg]
 refine (hseq (D + 1) J W1 hb1 hJ round ⟨hI1, hL1, hK1⟩).mono ?_; rintro e W2 ⟨⟨v, rfl⟩, xs, hS, hi, hl, hk⟩; have hend := run_endLoop (P := P) hl (by rw [hrec]; simp); rw [hrec] at hend; exact ⟨none, _, hend, hdone xs _ hS (hI _ _ _ hi (Turned.putObj _ _ (.inr rfl))) ((World.putObj_heap_other (by omega)).trans hk)⟩
end Go.Proofs.YtmihponoillihaaGreatDoor
namespace Go.Proofs.YtmihponoillihaaGreatDoor
open Go.RowKit Go.Shelf
attribute [local go_sem] Oper.semAt_some
structure LE where
 g : GC
 A : Option Addr
 an : Nat
 ac : Nat
 B : Option Addr
 bn : Nat
 bc : Nat
 n : Nat
def encLE (e : LE) : Array Value := #[.agg #[.slice e.A e.an e.ac, .slice e.B e.bn e.bc], .int .i64 e.n]
noncomputable def logRest (t : Nat) (l : List UInt8) : List GC × Nat := logRead t (splitL 10 l)
theorem rest_none {t : Nat} {l : List UInt8} (h : (10 : UInt8) ∉ l) : logRest t l = ([], 0) := by unfold logRest; rw [splitL_none h]; rfl
theorem rest_stop {t : Nat} {x r : List UInt8} (hx : (10 : UInt8) ∉ x) (h : recOf t x = none) : logRest t (x ++ 10 :: r) = ([], 0) := by unfold logRest; rw [splitL_app hx, logRead_none h]
theorem rest_go {t : Nat} {x r : List UInt8} {g : GC} (hx : (10 : UInt8) ∉ x) (h : recOf t x = some g) : logRest t (x ++ 10 :: r) = (g :: (logRest (t + 1) r).1, x.length + 1 + (logRest (t + 1) r).2) := by
 unfold logRest; rw [splitL_app hx, logRead_some (splitL_ne _ _) h]
def RecE (A B : World) (e : LE) : Prop := ∃ (S T : Nat → Prop), AtomsO S B (.slice e.A e.an e.ac) e.g.comes ∧ AtomsO T B (.slice e.B e.bn e.bc) e.g.goes ∧ (∀ b, S b → A.heap.size ≤ b ∧ b < B.heap.size) ∧ (∀ b, T b → A.heap.size ≤ b ∧ b < B.heap.size) ∧ (∀ b, S b → ¬ T b) ∧ e.n ≤ 400000
set_option maxHeartbeats 400000 in
theorem records_any (rb : Nat) (w : World) :
 Calls Tryz.prog 33 #[.pointer (some ⟨rb, 0, none⟩)] w fun e w' =>
  e = .returned (.func (.func 88) #[] #[.pointer (some ⟨w.heap.size, 0, none⟩)]) ∧ w' = w.alloc (.cells #[.pointer (some ⟨rb, 0, none⟩)] 76) := by
 go_enter Tryz.func33, Tryz.ntmps33
 go_wp2; go_ret; exact ⟨rfl, rfl⟩
theorem line_none (s : ByteArray) (p : Nat) (q : Int) (b : Nat) (t T : TypeId) (y : Value) (w : World) (hs : s.size ≤ 400000) (hp : p ≤ s.size) (hb : Blk w b t #[.string s, .int .i64 p, .int .i64 q]) (he : EofIs w T y) (hne : b ≠ 0) (h10 : (10 : UInt8) ∉ s.data.toList.drop p) :
 Calls Tryz.prog 89 #[.pointer (some ⟨b, 0, none⟩)] w fun e w' => e = .returned (.tuple #[.string ⟨#[]⟩, .bool false]) ∧ Inside (fun i => i = b) w w' :=
 (line_any s p q b t T y w hs hp hb he hne).mono fun e w' ⟨h1, h2⟩ => ⟨by
  rcases h1 with ⟨x, r, h3, _⟩ | ⟨_, h3⟩
  · exact absurd (h3 ▸ (by simp : (10 : UInt8) ∈ x ++ 10 :: r)) h10
  exact h3, h2⟩
theorem line_some (s : ByteArray) (p : Nat) (q : Int) (b : Nat) (t T : TypeId) (y : Value) (w : World) (hs : s.size ≤ 400000) (hp : p ≤ s.size) (hb : Blk w b t #[.string s, .int .i64 p, .int .i64 q]) (he : EofIs w T y) (hne : b ≠ 0) (x r : List UInt8) (hx : s.data.toList.drop p = x ++ 10 :: r) (h10 : (10 : UInt8) ∉ x) :
 Calls Tryz.prog 89 #[.pointer (some ⟨b, 0, none⟩)] w fun e w' => e = .returned (.tuple #[.string (strOf (x ++ [10])), .bool true]) ∧ Blk w' b t #[.string s, .int .i64 (p + (x.length + 1) : Nat), .int .i64 (-1)] ∧ Inside (fun i => i = b) w w' :=
 (line_any s p q b t T y w hs hp hb he hne).mono fun e w' ⟨h1, h2⟩ => by
  rcases h1 with ⟨x', r', h3, h4, h5, h6⟩ | ⟨h3, _⟩
  · have e1 : splitL 10 (x' ++ 10 :: r') = splitL 10 (x ++ 10 :: r) := by rw [← h3, ← hx]
    rw [splitL_app h4, splitL_app h10] at e1
    injection e1 with e1 _
    subst e1; exact ⟨h5, h6, h2⟩
  exact absurd (hx ▸ (by simp : (10 : UInt8) ∈ x ++ 10 :: r)) h3
theorem cut_line (l : List UInt8) : (10 : UInt8) ∉ l ∨ ∃ x r, l = x ++ 10 :: r ∧ (10 : UInt8) ∉ x := by
 induction l with
 | nil => exact .inl (by simp)
 | cons c l ih =>
   by_cases hc : c = 10
   · exact .inr ⟨[], l, by rw [hc]; rfl, by simp⟩
   rcases ih with h | ⟨x, r, rfl, h⟩
   · exact .inl (by simp; exact ⟨fun e => hc e.symm, h⟩)
   exact .inr ⟨c :: x, r, rfl, by simp; exact ⟨fun e => hc e.symm, h⟩⟩
set_option maxRecDepth 100000 in
set_option maxHeartbeats 4000000 in
theorem records1_steps (n : Nat) (hn : 1 ≤ n) (s : ByteArray) (rb pb : Nat) (t T : TypeId) (y : Value) (q0 : Int) (w0 w : World)
 (hs : s.size ≤ 400000) (hb : Blk w rb t #[.string s, .int .i64 (0 : Nat), .int .i64 q0]) (hpb : w.cell? ⟨pb, 0, none⟩ = some (.pointer (some ⟨rb, 0, none⟩))) (hne : pb ≠ rb) (hr0 : w0.heap.size ≤ rb) (hp0 : w0.heap.size ≤ pb) (hx0 : Ext w0 w)
 (he : EofIs w0 T y) (hm : MaxIs w0) (htab : Lib.TabIs Tryz.prog w0 "internal/strconv.uint64pow10" .u64 Lib.pow10Tab) :
 SeqSteps Fence.wide n Tryz.prog 88 #[.pointer (some ⟨pb, 0, none⟩)] encLE (Inside (fun i => i = rb)) RecE (Inside (fun i => ¬ (i < w0.heap.size ∨ i = rb ∨ i = pb)))
  (fun xs => xs.map (·.g) = (logRest 0 s.data.toList).1 ∧ (xs.map (·.n)).sum = (logRest 0 s.data.toList).2) 100001 w := by
 intro l J W hW hJ hY h0; have HY := Lib.hid hY; have HJ := Lib.hid hJ; have hbW := Lib.hid (Blk.ext hb hW); have hpW := Lib.hid ((Ext.cells hW).1 pb 0 (cell_lt hpb) |>.trans hpb); have hxW : Ext w0 W := hx0.trans' hW
 have heof : rb ≠ 0 := fun e => by have := cell_lt he; omega
 have HE := Lib.hid he; have HM := Lib.hid hm; have HT := Lib.hid htab; clear hY hJ hb hpb hW hx0 he hm htab; refine callsIn_of_wp Tryz.func88 rfl trivial ?_ rfl; simp only [Tryz.ntmps88, List.size_toArray, List.length_cons, List.length_nil, Nat.reduceAdd, Nat.reduceSub, Array.replicate_succ, Array.replicate_zero, List.push_toArray, List.append_toArray, List.nil_append, List.cons_append]
 gi_wp2
 gi_loopw [3] (fun i wr => ∃ (k p : Nat) (q : Int) (xs : List LE), i = .int .i64 k ∧ 4 * k ≤ p ∧ p ≤ s.size ∧ Hid (xs.length = k) ∧ Hid (logRest 0 s.data.toList = (xs.map (·.g) ++ (logRest k (s.data.toList.drop p)).1, (xs.map (·.n)).sum + (logRest k (s.data.toList.drop p)).2)) ∧ J xs wr ∧ Hid (Blk wr rb t #[.string s, .int .i64 p, .int .i64 q]) ∧ Hid (wr.cell? ⟨pb, 0, none⟩ = some (.pointer (some ⟨rb, 0, none⟩))) ∧ Ext w0 wr) (fun i _ => 100001 - (intOf i).toNat)
 case atStart => exact ⟨0, 0, q0, [], rfl, by omega, by omega, Lib.hid rfl, Lib.hid (by simp), h0, hbW, hpW, hxW⟩
 case round =>
  obtain ⟨k, p, q, xs, rfl, hkp, hps, hxk, hrest, hJs, hb, hp, hx⟩ := hrel; have c0 := hp.out; have hplt := cell_lt c0
  have hk0 : (0 : Int) ≤ (k : Int) := by omega
  have hk1 : (k : Int) ≤ 100000 := by omega
  rcases cut_line (s.data.toList.drop p) with h10 | ⟨x, r, hxr, h10⟩
  · have HL := Lib.hid (line_none s p q rb t T y wr hs hps hb.out (HE.out.ext hx) heof h10)
    have HF := Lib.hid (show logRest 0 s.data.toList = (xs.map (·.g), (xs.map (·.n)).sum) from by rw [hrest.out, rest_none h10, List.append_nil, Nat.add_zero]); clear h10
    gi_wp2_with (refine ⟨trivial, ?_⟩; gi_at_call 89; refine (callsIn_wide.2 HL.out).mono ?_; rintro e w1 ⟨rfl, hi1⟩; have HI1 := Lib.hid hi1; clear hi1)
    refine bodyPost_ret (results_none rfl _ _ _) rfl ?_; exact ⟨⟨_, rfl⟩, xs, by rw [HF.out]; exact ⟨rfl, rfl⟩, HJ.out _ _ _ hJs HI1.out⟩
  have HL := Lib.hid (line_some s p q rb t T y wr hs hps hb.out (HE.out.ext hx) heof x r hxr h10)
  obtain ⟨ls, hls⟩ : ∃ ls, ls = strOf (x ++ [10]) := ⟨_, rfl⟩
  rw [← hls] at HL
  have hlsz : ls.size = x.length + 1 := by rw [hls, strOf_size]; simp
  have hlen : x.length + 1 + p ≤ s.size := by
   have h1 := congrArg List.length hxr
   have h2 : s.data.toList.length = s.size := by simp
   rw [List.length_drop, List.length_append, List.length_cons] at h1; omega
  have hdrop : s.data.toList.drop (p + (x.length + 1)) = r := by
   rw [← List.drop_drop, hxr, ← List.drop_drop, List.drop_left' rfl]; rfl
  have HLS := Lib.hid hls; have HR := Lib.hid (fun W (hW : Ext w0 W) => recordGet_any k x ls W hls (by omega) (by omega) (HM.out.ext hW) (pow_ext HT.out hW)); have HS := Lib.hid hlsz
  have hls4 : ls.size ≤ 400000 := by omega
  cases hrc : recOf k x with
  | none =>
    have HF := Lib.hid (show logRest 0 s.data.toList = (xs.map (·.g), (xs.map (·.n)).sum) from by rw [hrest.out, hxr, rest_stop h10 hrc, List.append_nil, Nat.add_zero]); have HR2 := Lib.hid (fun W (hW : Ext w0 W) => show Calls Tryz.prog 90 #[.int .i64 k, .string ls] W fun e w' => e = .returned (.tuple #[.agg #[.slice none 0 0, .slice none 0 0], .bool false]) ∧ Ext W w' from (HR.out W hW).mono fun e w' ⟨h1, h2⟩ => ⟨by rw [hrc] at h1; exact h1, h2⟩); clear h10 hxr hls hlsz hdrop hrc HR
    gi_wp2_with (first
     | (refine ⟨trivial, ?_⟩; gi_at_call 89; refine (callsIn_wide.2 HL.out).mono ?_; rintro e w1 ⟨rfl, _, hi1⟩; have HI1 := Lib.hid hi1; have HX1 := Lib.hid (hi1.toExt hx (fun i hi => by omega)); clear hi1)
     | (refine ⟨trivial, ?_⟩; gi_at_call 90; refine (callsIn_wide.2 (HR2.out _ HX1.out)).mono ?_; rintro e w2 ⟨rfl, hx2⟩; have HX2 := Lib.hid hx2; clear hx2))
    refine ⟨(fun _ h => by cases h), ?_⟩
    gi_wp2
    refine bodyPost_ret (results_none rfl _ _ _) rfl ?_; refine ⟨⟨_, rfl⟩, xs, by rw [HF.out]; exact ⟨rfl, rfl⟩, HJ.out _ _ _ hJs (HI1.out.trans' (Inside.of_ext ?_))⟩; exact HX2.out.alloc _
  | some g =>
    have hl3 := recOf_len hrc; have HF := Lib.hid (show logRest 0 s.data.toList = ((xs.map (·.g) ++ [g]) ++ (logRest (k + 1) r).1, ((xs.map (·.n)).sum + ls.size) + (logRest (k + 1) r).2) from by rw [hrest.out, hxr, rest_go h10 hrc, HS.out, Prod.mk.injEq]; exact ⟨by simp, by show _ + (x.length + 1 + _) = _; omega⟩); have HR2 := Lib.hid (fun W (hW : Ext w0 W) => show Calls Tryz.prog 90 #[.int .i64 k, .string ls] W fun e w' => GotSomeC W.heap.size g g.comes.length g.goes.length e w' ∧ Ext W w' from (HR.out W hW).mono fun e w' ⟨h1, h2⟩ => ⟨by rw [hrc] at h1; exact GotChange.some h1, h2⟩)
    obtain ⟨n1, hn1⟩ : ∃ n1, n1 = g.comes.length := ⟨_, rfl⟩
    obtain ⟨m1, hm1⟩ : ∃ m1, m1 = g.goes.length := ⟨_, rfl⟩
    rw [← hn1, ← hm1] at HR2; have HD := Lib.hid hdrop; clear h10 hxr hls hlsz hdrop hrc HR hn1 hm1
    gi_wp2_with (first
     | (refine ⟨trivial, ?_⟩; gi_at_call 89; refine (callsIn_wide.2 HL.out).mono ?_; rintro e w1 ⟨rfl, hb1, hi1⟩; have HB1 := Lib.hid hb1; have HI1 := Lib.hid hi1; have HX1 := Lib.hid (hi1.toExt hx (fun i hi => by omega)); have hz1 := hi1.size; clear hi1 hb1)
     | (refine ⟨trivial, ?_⟩; gi_at_call 90; refine (callsIn_wide.2 (HR2.out _ HX1.out)).mono ?_; rintro e w2 ⟨⟨A3, B3, c3, d3, S3, T3, rfl, ⟨k1, k2, k3, k4⟩, hv3, hu3, hS3, hT3, hD3⟩, hx2⟩
        have HX2 := Lib.hid hx2; have HC := Lib.hid (Blk.new w2 32 #[.slice A3 n1 c3, .slice B3 m1 d3]); have p0 := HC.out.cell 0; have p1 := HC.out.cell 1; have hz2 := hx2.size
        obtain ⟨fn, tmps, assign, body, hy, hR⟩ := HY.out xs (⟨g, A3, n1, c3, B3, m1, d3, ls.size⟩ : LE) wr (w2.alloc (.cells #[.slice A3 n1 c3, .slice B3 m1 d3] 32)) hJs (HI1.out.trans' (Inside.of_ext (hx2.alloc _)))
         ⟨fun b => S3 b ∧ b < w2.heap.size, fun b => T3 b ∧ b < w2.heap.size, (SliceO.low hv3).ext ((Ext.refl _).alloc _), (SliceO.low hu3).ext ((Ext.refl _).alloc _), fun b hb => ⟨Nat.le_trans hz1 (hS3 b hb.1), by simp only [World.size_alloc]; have := hb.2; omega⟩, fun b hb => ⟨Nat.le_trans hz1 (hT3 b hb.1), by simp only [World.size_alloc]; have := hb.2; omega⟩, fun b hb hc => hD3 b hb.1 hc.1, hls4⟩ (by have := hxk.out; omega)
        dsimp only [encLE] at hy; have HR3 := Lib.hid hR
        clear hR hx2 hv3 hu3 hS3 hT3 hD3))
    refine HR3.out.mono ?_; rintro e W3 ⟨rfl, hJ3, hk3⟩; have HK3 := Lib.hid hk3; clear hk3
    gi_wp2
    go_roundw
    case rel =>
     have hlt1 := HB1.out.lt; have hb3 : Blk W3 rb t #[.string s, .int .i64 (p + (x.length + 1) : Nat), .int .i64 (-1)] := HK3.out.blk ((HB1.out.ext HX2.out).alloc _) (fun h => h (.inr (.inl rfl))); have hpw : wr.heap[pb]? = wr.heap[pb]? := rfl; have hp1 := HI1.out.block pb hplt (fun e => hne e); have hp2 := HX2.out.block pb (by omega); have hp3 := HK3.out.block pb (by simp only [World.size_alloc]; omega) (fun h => h (.inr (.inr rfl)))
     have hp4 : W3.heap[pb]? = wr.heap[pb]? := by
      rw [hp3, ← hp1, ← hp2]; exact Below.heap_alloc _ _ pb (by omega)
     refine ⟨k + 1, p + (x.length + 1), -1, xs ++ [⟨g, A3, n1, c3, B3, m1, d3, ls.size⟩], by go_num, by omega, by omega, ?_, ?_, hJ3, Lib.hid hb3, Lib.hid ((World.cell?_of_block (w := wr) (a := ⟨pb, 0, none⟩) hp4).trans hp.out), HK3.out.toExt ((HX1.out.trans' HX2.out).alloc _) (fun i hi => Nat.le_of_not_lt (fun h => hi (.inl h)))⟩
     · exact Lib.hid (by rw [List.length_append, hxk.out]; rfl)
     refine Lib.hid ?_; rw [HF.out, HD.out]; simp
    case measure => simp [intOf]; omega
end Go.Proofs.YtmihponoillihaaGreatDoor
namespace Go.Proofs.YtmihponoillihaaGreatDoor
open Go.RowKit
def signB (c : UInt8) : Prop := c = 43 ∨ c = 45
theorem okC_atoms {g : GC} (h : changeOkB g = true) : (∀ a ∈ g.comes, atomOkB a = true) ∧ ∀ a ∈ g.goes, atomOkB a = true := by
 unfold changeOkB factsB at h; simp only [Bool.and_eq_true, List.all_eq_true] at h; exact ⟨fun a ha => factB_ok (h.1.1.1.1 a ha), fun a ha => factB_ok (h.1.2.1.1 a ha)⟩
theorem signed_no {c d : UInt8} (hcd : d ≠ c) (h32 : d ≠ 32) (hd : okByte d = false) (h40 : d ≠ 40) (h41 : d ≠ 41) (h44 : d ≠ 44) : ∀ {l : List GA}, (∀ a ∈ l, atomOkB a = true) → d ∉ signedL c l
 | [], _ => by simp [signedL]
 | a :: l, h => by
   have e : signedL c (a :: l) = c :: (atomL a ++ 32 :: signedL c l) := by simp [signedL]
   rw [e]; have h1 := atomL_no (h a List.mem_cons_self) d hd h40 h41 h44
   have h2 := signed_no hcd h32 hd h40 h41 h44 fun x hx => h x (List.mem_cons_of_mem _ hx)
   simp only [List.mem_cons, List.mem_append, not_or]; exact ⟨hcd, h1, h32, h2⟩
theorem change_no10 {g : GC} (h : changeOkB g = true) : (10 : UInt8) ∉ changeL g := by
 obtain ⟨h1, h2⟩ := okC_atoms h; unfold changeL; rw [List.mem_append, not_or]; exact ⟨signed_no (by decide) (by decide) (by decide) (by decide) (by decide) (by decide) h2, signed_no (by decide) (by decide) (by decide) (by decide) (by decide) (by decide) h1⟩
theorem line_parts (t : Nat) (g : GC) : ∃ d q, logLine t (changeL g) = (Lib.decDigits t ++ [58]) ++ (changeL g ++ (d :: q ++ [10])) ∧ d :: q = Lib.decDigits (sumI (logHead t (changeL g))).toNat ∧ ¬ signB d ∧ (∀ c ∈ d :: q, c ≠ 10 ∧ c ≠ 32) := by
 have h1 := dec_pos (sumI (logHead (t : Int) (changeL g))).toNat; have h2 := dec_digits (sumI (logHead (t : Int) (changeL g))).toNat
 cases hd : Lib.decDigits (sumI (logHead (t : Int) (changeL g))).toNat with
 | nil => rw [hd] at h1; simp at h1
 | cons d q =>
   rw [hd] at h2; refine ⟨d, q, ?_, rfl, ?_, fun c hc => ?_⟩
   · unfold logLine logHead at *
     rw [hd]; simp
   · have := h2 d List.mem_cons_self
     rintro (rfl | rfl)
     · exact absurd this.1 (by decide)
     exact absurd this.1 (by decide)
   have := h2 c hc
   constructor
   · rintro rfl; exact absurd this.1 (by decide)
   rintro rfl; exact absurd this.1 (by decide)
theorem line_no10 {t : Nat} {g : GC} {l : List UInt8} (hg : changeOkB g = true) (e : logLine t (changeL g) = l ++ [10]) : (10 : UInt8) ∉ l := by
 obtain ⟨d, q, h1, h2, h3, h4⟩ := line_parts t g; rw [e, ← List.append_assoc, ← List.append_assoc] at h1; have h5 := List.append_cancel_right h1; rw [h5]; simp only [List.mem_append, not_or]; exact ⟨⟨⟨dec_not _ (by decide), by simp⟩, change_no10 hg⟩, fun h => (h4 10 h).1 rfl⟩
def logCat : Nat → List GC → List UInt8
 | _, [] => []
 | t, g :: gs => logLine t (changeL g) ++ logCat (t + 1) gs
theorem cat_app : ∀ (a : List GC) (t : Nat) (b : List GC), logCat t (a ++ b) = logCat t a ++ logCat (t + a.length) b
 | [], t, b => by simp [logCat]
 | g :: a, t, b => by
   rw [List.cons_append, logCat, logCat, cat_app a (t + 1) b, List.append_assoc, List.length_cons, show t + 1 + a.length = t + (a.length + 1) from by omega]
theorem line_snoc (t : Nat) (l : List UInt8) : ∃ x, logLine t l = x ++ [10] := ⟨_, logLine_tail t l⟩
theorem rest_is : ∀ (n : Nat) (t : Nat) (l : List UInt8), l.length ≤ n → (∀ g ∈ (logRest t l).1, changeOkB g = true) ∧ (logRest t l).2 ≤ l.length ∧ l.take (logRest t l).2 = logCat t (logRest t l).1
 | n, t, l, hn => by
   rcases cut_line l with h | ⟨x, r, rfl, hx⟩
   · rw [rest_none h]; exact ⟨fun _ h => (by cases h), Nat.zero_le _, rfl⟩
   cases hr : recOf t x with
   | none => rw [rest_stop hx hr]; exact ⟨fun _ h => (by cases h), Nat.zero_le _, rfl⟩
   | some g =>
     rw [rest_go hx hr]
     cases n with
     | zero => simp at hn
     | succ n =>
       obtain ⟨h1, h2, h3⟩ := rest_is n (t + 1) r (by simp at hn; omega); obtain ⟨hg, he⟩ := recOf_is hr; refine ⟨fun y hy => ?_, by simp; omega, ?_⟩
       · rcases List.mem_cons.1 hy with rfl | hy
         · exact hg
         exact h1 y hy
       show (x ++ 10 :: r).take (x.length + 1 + (logRest (t + 1) r).2) = logLine t (changeL g) ++ logCat (t + 1) _; rw [he, ← h3, show x ++ 10 :: r = (x ++ [10]) ++ r from by simp, show x.length + 1 + (logRest (t + 1) r).2 = (x ++ [10]).length + (logRest (t + 1) r).2 from by simp]; exact List.take_length_add_append _
theorem rest_cat : ∀ (gs : List GC) (t : Nat) (r : List UInt8), (∀ g ∈ gs, changeOkB g = true) → logRest t (logCat t gs ++ r) = (gs ++ (logRest (t + gs.length) r).1, (logCat t gs).length + (logRest (t + gs.length) r).2)
 | [], t, r, _ => by simp [logCat]
 | g :: gs, t, r, h => by
   obtain ⟨x, hx⟩ := line_snoc t (changeL g); have hg := h g List.mem_cons_self; have h10 := line_no10 hg hx
   have ih := rest_cat gs (t + 1) r fun y hy => h y (List.mem_cons_of_mem _ hy)
   rw [logCat, hx, show x ++ [10] ++ logCat (t + 1) gs ++ r = x ++ 10 :: (logCat (t + 1) gs ++ r) from by simp, rest_go h10 (recOf_some hg hx), ih]; simp only [List.length_cons, List.length_append, List.length_nil, List.cons_append, show t + 1 + gs.length = t + (gs.length + 1) from by omega]; refine Prod.ext rfl ?_; show x.length + 1 + ((logCat (t + 1) gs).length + _) = x.length + (0 + 1) + (logCat (t + 1) gs).length + _; omega
theorem get_law {l : List UInt8} (hl : l.length ≤ 400000) : (∀ g ∈ (logGetL l).1, changeOkB g = true) ∧ (logGetL l).2 ≤ l.length ∧ l.take (logGetL l).2 = logCat 0 (logGetL l).1 ∧
 ∀ g, changeOkB g = true → (logGetL l).2 + (logLine ((logGetL l).1.length : Nat) (changeL g)).length ≤ 400000 →
   logGetL (l.take (logGetL l).2 ++ logLine ((logGetL l).1.length : Nat) (changeL g)) = ((logGetL l).1 ++ [g], (logGetL l).2 + (logLine ((logGetL l).1.length : Nat) (changeL g)).length) := by
 have e0 : ∀ x : List UInt8, x.length ≤ 400000 → logGetL x = logRest 0 x := fun x hx => by unfold logGetL; rw [if_neg (by omega)]; rfl
 obtain ⟨h1, h2, h3⟩ := rest_is _ 0 l (Nat.le_refl _); rw [← e0 l hl] at h1 h2 h3; refine ⟨h1, h2, h3, fun g hg hs => ?_⟩
 have hlen : (l.take (logGetL l).2).length = (logGetL l).2 := by rw [List.length_take]; omega
 rw [e0 (l.take _ ++ _) (by rw [List.length_append, hlen]; exact hs)]
 have hcl : (logCat 0 (logGetL l).1).length = (logGetL l).2 := by rw [← h3, hlen]
 have hone : logRest (logGetL l).1.length (logLine ((logGetL l).1.length : Nat) (changeL g)) = ([g], (logLine ((logGetL l).1.length : Nat) (changeL g)).length) := by
  have := rest_cat [g] (logGetL l).1.length [] (fun x hx => by simp at hx; rw [hx]; exact hg); rw [List.append_nil] at this
  have e : logCat (logGetL l).1.length [g] = logLine ((logGetL l).1.length : Nat) (changeL g) := by simp [logCat]
  rw [e] at this; rw [this, rest_none (by simp)]; simp
 rw [h3, rest_cat _ 0 _ h1, Nat.zero_add, hone, hcl]
end Go.Proofs.YtmihponoillihaaGreatDoor
