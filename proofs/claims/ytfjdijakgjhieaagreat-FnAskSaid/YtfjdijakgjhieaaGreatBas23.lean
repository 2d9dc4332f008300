/- Part of the texts of a proof: own texts joined in the order of their building; what they say stands at each theorem. -/
import Derived.Test.YtfjdijakgjhieaaGreatBas22
import Derived.Test.YtfjdijakgjhieaaGreatBas21
import Derived.Test.YtfjdijakgjhieaaGreatBas08
import Derived.Test.YtfjdijakgjhieaaGreatBas04
import Derived.Test.YtfjdijakgjhieaaGreatBas07
import Derived.Test.YtfjdijakgjhieaaGreatBas05
import Derived.Test.YtfjdijakgjhieaaGreatBas02
import Derived.Test.YtfjdijakgjhieaaGreatRows
import Derived.Test.YtfjdijakgjhieaaGreatBas01
import Derived.ProofKit
import Derived.ChangeSame
import Derived.WideKeyArgs
import Derived.Test.YtfjdijakgjhieaaGreatBas03
import Derived.Laws.BitsAllLaws
import Derived.Laws.BitsLemmas
import Derived.ChangeSlices
namespace Go.Proofs.YtfjdijakgjhieaaGreat
set_option linter.unusedSimpArgs false
set_option linter.unusedVariables false
open Go.RowKit

set_option maxRecDepth 100000 in
set_option maxHeartbeats 4000000 in
theorem l5Ask_any (xs : List GA) (ps : List GP) (v u : Value) (w : World) {S T : Nat → Prop} (hv : AtomsR S w v xs) (hu : PartsR T w u ps) (hps : ∀ p ∈ ps, p.atom.args.length ≤ 3) (hpl : ps.length ≤ 4) (hxl : xs.length ≤ 900) :
 Calls Tryz.prog 48 #[v, u] w fun e w' => (∃ v', e = .returned v' ∧ RowsR Any w' v' (askN xs ps (varsN ps))) ∧ Ext w w' := by
 obtain ⟨A, c, rfl, hc1, hc2⟩ := SliceR.form hv
 obtain ⟨B, d, rfl, hd1, hd2⟩ := SliceR.form hu
 obtain ⟨i0, hi0, hz0, hz1, hz2⟩ := info_parts str_info
 have HV := Lib.hid hv
 have HU := Lib.hid hu
 have HPS := Lib.hid (show ∀ p ∈ ps, p.atom.args.length ≤ 1000 from fun p hp => Nat.le_trans (hps p hp) (by omega))
 have hvf := varsN_few hps hpl
 obtain ⟨vs, hvs⟩ : ∃ vs, vs = varsN ps := ⟨_, rfl⟩
 obtain ⟨all, hall⟩ : ∃ all, all = allN xs ps := ⟨_, rfl⟩
 have hal : all.length ≤ 1000000000000 := by
  rw [hall]; unfold allN
  exact Nat.le_trans (List.length_filter_le _ _) (allFold_most xs ps hxl hpl)
 have HVC := Lib.hid (fun (W : World) (hW : Ext w W) => show Calls Tryz.prog 70 #[.slice B ps.length d] W fun e w' => (∃ v', e = .returned v' ∧ StrsR (From W.heap.size) w' v' vs) ∧ Ext W w' from by rw [hvs]; exact l5Vars_any ps _ W (HU.out.ext hW) HPS.out hpl)
 have HAC := Lib.hid (fun (W : World) (hW : Ext w W) => show Calls Tryz.prog 88 #[.slice A xs.length c, .slice B ps.length d] W fun e w' => (∃ v', e = .returned v' ∧ BindsR (From W.heap.size) w' v' all) ∧ Ext W w' from by rw [hall]; exact l4All_any xs ps _ _ W (HV.out.ext hW) (HU.out.ext hW) HPS.out hpl hxl)
 have HAN := Lib.hid (show askN xs ps (varsN ps) = (all.map (rowB vs)).foldl (insC cmp5) [] from by
  unfold askN
  rw [hvs, hall]
  exact (fold_insC_same (n := (varsN ps).length) (fun x hx => by obtain ⟨b, _, rfl⟩ := List.mem_map.1 hx; simp [rowB]) (fun x hx => by cases hx)).symm)
 rw [← hvs] at hvf
 have HVS := Lib.hid hvs
 clear hv hu hps hvs hall
 go_enter Tryz.func48, Tryz.ntmps48
 go_wp2_with (first
  | (go_at_call 70; refine (HVC.out _ ((Ext.refl _).alloc _)).mono ?_; rintro e w1 ⟨⟨v1, rfl, hv1⟩, hx1⟩; have HX1 := Lib.hid (show Ext w w1 from ((Ext.refl _).alloc _).trans' hx1); have HV1 := Lib.hid hv1; obtain ⟨V, cv, rfl, hcv1, hcv2⟩ := SliceR.form hv1; clear hv1)
  | (go_at_call 88; refine (HAC.out _ HX1.out).mono ?_; rintro e w2 ⟨⟨v2, rfl, hv2⟩, hx2⟩; have HX2 := Lib.hid hx2; have HV2 := Lib.hid hv2; obtain ⟨G, cg, rfl, hcg1, hcg2⟩ := SliceR.form hv2; clear hv2))
 have HVV := Lib.hid (HV1.out.ext HX2.out)
 have HXX := Lib.hid (HX1.out.trans' HX2.out)
 clear HX1 HX2 HV1 HVC HAC hx1 hx2
 go_loopw [5, 8] (fun o i wr => ∃ k : Nat, k ≤ all.length ∧ i = .int .i64 k ∧ Hid (RowsR Any wr o (((all.take k).map (rowB vs)).foldl (insC cmp5) [])) ∧ Ext w2 wr) (fun _ i _ => all.length - (intOf i).toNat)
 case atStart => exact ⟨0, Nat.zero_le _, rfl, Lib.hid (ListK.nil (k := kRow) 0 (Nat.zero_le _) _), Ext.refl _⟩
 case round =>
  obtain ⟨k, hk, rfl, ho, hx⟩ := hrel
  obtain ⟨O, co, rfl, hco1, hco2⟩ := SliceR.form ho.out
  have HOL := Lib.hid (show (((all.take k).map (rowB vs)).foldl (insC cmp5) []).length ≤ 1000000000000 from by
   have h := fold_insC_len cmp5 ((all.take k).map (rowB vs)) []
   rw [List.length_map, List.length_take] at h
   simp only [List.length_nil] at h
   omega)
  obtain ⟨no, hno⟩ : ∃ no, no = (((all.take k).map (rowB vs)).foldl (insC cmp5) []).length := ⟨_, rfl⟩
  rw [← hno] at ho hco1 ⊢
  have HNO := Lib.hid hno
  clear hno
  have hk0 : (0 : Int) ≤ (k : Int) := by omega
  by_cases hlt : k < all.length
  · have hk1 : (k : Int) < (all.length : Int) := by omega
    obtain ⟨bb, off, bd, x, y, rfl, hbb, hbk, hxs, hys, hok, hc0, hc1⟩ := BindsR.at_ (HV2.out.ext hx) hlt
    obtain ⟨X, cx, rfl, hcx1, hcx2⟩ := SliceR.form hxs
    obtain ⟨Y, cy, rfl, hcy1, hcy2⟩ := SliceR.form hys
    have HXS := Lib.hid hxs
    have HYS := Lib.hid hys
    have HOK := Lib.hid hok
    have HST := Lib.hid (show ((all.take (k + 1)).map (rowB vs)).foldl (insC cmp5) [] = insC cmp5 (((all.take k).map (rowB vs)).foldl (insC cmp5) []) (vs.map (sig bd)) from by
     rw [List.take_add_one, hbk, List.map_append, List.foldl_append]; rfl)
    have HGS := Lib.hid (show ∀ x, (sig bd x).size ≤ maxLen from fun x => get_small (strs_small hys) x)
    clear hxs hys hok hbk
    go_wp2
    rename World => w0
    go_loopw [9, 10] (fun o i wz => ∃ r : Nat, r ≤ vs.length ∧ i = .int .i64 r ∧ Hid (OwnK kStr w0.heap.size 9 None wz o ((vs.take r).map (sig bd))) ∧ Ext w0 wz) (fun _ i _ => vs.length - (intOf i).toNat)
    case atStart => exact ⟨0, Nat.zero_le _, rfl, Lib.hid (OwnK.empty rfl (Nat.le_refl _)), (Ext.refl _).alloc _⟩
    case round =>
     obtain ⟨r, hr, rfl, hor, hxr⟩ := hrel
     obtain ⟨OA, on, oc, rfl, hon, ho1, ho2⟩ := hor.out.form2
     have hr0 : (0 : Int) ≤ (r : Int) := by omega
     have HLR := Lib.hid (show ((vs.take r).map (sig bd)).length = r from by rw [List.length_map, List.length_take]; omega)
     by_cases hlr : r < vs.length
     · have hr1 : (r : Int) < (vs.length : Int) := by omega
       obtain ⟨bv, ov, s, rfl, hbv, hsk, hss, hs0⟩ := StrsR.at_ (HVV.out.ext (hx.trans' hxr)) hlr
       have s0 := (hxr.cells.1 bb (off + k * 2) hbb).trans hc0
       have s1 := (hxr.cells.1 bb (off + k * 2 + 1) hbb).trans hc1
       have hbb2 := Nat.lt_of_lt_of_le hbb hxr.size
       have HT := Lib.hid (show (vs.take (r + 1)).map (sig bd) = (vs.take r).map (sig bd) ++ [sig bd s] from by rw [List.take_add_one, hsk, List.map_append]; rfl)
       obtain ⟨g, hg⟩ : ∃ g, g = sig bd s := ⟨_, rfl⟩
       obtain ⟨gb, hgb⟩ : ∃ gb, gb = (bd.get s).isSome := ⟨_, rfl⟩
       have HC := Lib.hid (fun (W : World) (hW : Ext wr W) => show Calls Tryz.prog 89 #[.agg #[.slice X bd.ns.length cx, .slice Y bd.vs.length cy], .string s] W fun e w' => e = .returned (.tuple #[.string g, .bool gb]) ∧ Ext W w' from by
        rw [hg, hgb]; exact bindGet_any bd _ _ s W (HXS.out.ext (hxr.trans' hW)) (HYS.out.ext (hxr.trans' hW)) HOK.out)
       have hgs : g.size ≤ maxLen := by rw [hg]; exact HGS.out s
       rw [← hg] at HT
       clear hsk hg hgb hc0 hc1
       go_wp2_with fail
       refine calm_region (by kernel_rfl) (by kernel_rfl) ?_
       repeat (go_big_quiet_step ((go_at_call 89; exact calm_call (HC.out _ (Later.ext _)))))
       refine wpQuiet_nil ?_
       rintro w5 ⟨⟨_, hx5⟩, rfl⟩
       have HOW := Lib.hid ((hor.out.ext hx5).alloc (.cells #[.string g] 9))
       have h05 : w0.heap.size ≤ w5.heap.size := Nat.le_trans hxr.size hx5.size
       go_wp2_with (at_builtin; go_loud (refine wpList_appL (k := kStr) (S := None) (T := None) (base := w0.heap.size) (xs := (vs.take r).map (sig bd)) (ys := [g]) rfl (.tmp 44) (.tmp 46) 56 (by rfl) i0 _ 16 Tryz.underlying56 hi0 hz0 hz1 hz2 (by rfl) (by rfl) HOW.out _ 1 1 (by rfl) (ElemsK.one (k := kStr) (x := g) (l := [.string g]) (Blk.new _ _ _) ⟨rfl, hgs⟩) (fun _ h => h.elim) (maxOf (by rw [HLR.out]; simp; omega)) (by rw [HLR.out]; omega) (by go_size) ?_; intro v6 w6 hap))
       go_roundw
       case rel => exact ⟨r + 1, by omega, by go_num, Lib.hid (by rw [HT.out]; exact hap.own), hap.toExt ((hxr.trans' hx5).alloc _) (Nat.le_refl _)⟩
       case measure => simp [intOf]; omega
     · have HE := Lib.hid (show (vs.take r).map (sig bd) = vs.map (sig bd) from by rw [List.take_of_length_le (by omega)])
       have hol := hor.out
       rw [HE.out] at hol
       have HLL := Lib.hid (show StrsR Any wr (.slice OA on oc) (vs.map (sig bd)) from hol.list (S' := Any) (fun _ _ => trivial) (fun _ _ => trivial))
       have HRR := Lib.hid (show RowsR Any wr (.slice O no co) (((all.take k).map (rowB vs)).foldl (insC cmp5) []) from RowsR.ext ho.out hxr)
       have HPC := Lib.hid (l5Put_any _ _ _ _ wr HRR.out HLL.out HOL.out)
       clear hol HOL HNO
       go_wp2_with (go_at_call 90; refine HPC.out.mono ?_; rintro e w7 ⟨⟨v7, rfl, hv7⟩, hx7⟩)
       go_roundw
       case rel => exact ⟨k + 1, by omega, by go_num, Lib.hid (by rw [HST.out]; exact hv7), (hx.trans' hxr).trans' hx7⟩
       case measure => simp [intOf]; omega
  · have HE := Lib.hid (show all.take k = all from List.take_of_length_le (by omega))
    have hol := ho.out
    rw [HE.out, ← HAN.out] at hol
    go_wp2
    go_ret
    exact ⟨⟨_, rfl, by rw [← HVS.out] at hol; rw [← HVS.out]; exact hol⟩, HXX.out.trans' hx⟩

/-- What the reference answers. -/
noncomputable def askW (xs : List GA) (ps : List GP) : List (List ByteArray) := if factsB xs 300 && askOkB ps then askN xs ps (varsN ps) else []

set_option maxRecDepth 100000 in
set_option maxHeartbeats 2000000 in
theorem specAsk_any (xs : List GA) (ps : List GP) (v u : Value) (w : World) {S T : Nat → Prop} (hv : AtomsR S w v xs) (hu : PartsR T w u ps) :
 Calls Tryz.prog 17 #[v, u] w fun e w' => (∃ v', e = .returned v' ∧ RowsR Any w' v' (askW xs ps)) ∧ Ext w w' := by
 obtain ⟨A, c, rfl, hc1, hc2⟩ := SliceR.form hv
 obtain ⟨B, d, rfl, hd1, hd2⟩ := SliceR.form hu
 have HV := Lib.hid hv
 have HU := Lib.hid hu
 have hfw := bool_ways (specFactsOk_any _ xs w hv)
 have haw := fun (W : World) (hW : Ext w W) => bool_ways (specAskOk_any ps _ W (hu.ext hW))
 clear hv hu
 cases hf : factsB xs 300
 · have HF := Lib.hid (hfw.2 hf)
   have HR := Lib.hid (show askW xs ps = [] from by unfold askW; rw [hf]; rfl)
   clear hfw haw hf
   go_enter Tryz.func17, Tryz.ntmps17
   go_wp2_with (go_at_call 12; refine HF.out.mono ?_; rintro e w1 ⟨rfl, hx1⟩)
   go_ret
   exact ⟨⟨_, rfl, by rw [HR.out]; exact ListK.nil (k := kRow) 0 (Nat.zero_le _) _⟩, hx1.alloc _⟩
 · have HF := Lib.hid (hfw.1 hf)
   have hxl : xs.length ≤ 900 := by unfold factsB at hf; simp only [Bool.and_eq_true, decide_eq_true_eq] at hf; omega
   cases ha : askOkB ps
   · have HA := Lib.hid (fun W hW => (haw W hW).2 ha)
     have HR := Lib.hid (show askW xs ps = [] from by unfold askW; rw [hf, ha]; rfl)
     clear hfw haw hf ha
     go_enter Tryz.func17, Tryz.ntmps17
     go_wp2_with (first
      | (go_at_call 12; refine HF.out.mono ?_; rintro e w1 ⟨rfl, hx1⟩; have HX1 := Lib.hid hx1)
      | (go_at_call 29; refine (HA.out _ HX1.out).mono ?_; rintro e w2 ⟨rfl, hx2⟩; have HX2 := Lib.hid hx2))
     go_ret
     exact ⟨⟨_, rfl, by rw [HR.out]; exact ListK.nil (k := kRow) 0 (Nat.zero_le _) _⟩, (HX1.out.trans' HX2.out).alloc _⟩
   · have HA := Lib.hid (fun W hW => (haw W hW).1 ha)
     have HR := Lib.hid (show askW xs ps = askN xs ps (varsN ps) from by unfold askW; rw [hf, ha]; rfl)
     obtain ⟨_, hpl, hpo, _⟩ := askOk_parts ha
     have HPS := Lib.hid (show ∀ p ∈ ps, p.atom.args.length ≤ 3 from fun p hp => atomOk_few (hpo p hp))
     clear hfw haw hf ha hpo
     go_enter Tryz.func17, Tryz.ntmps17
     go_wp2_with (first
      | (go_at_call 12; refine HF.out.mono ?_; rintro e w1 ⟨rfl, hx1⟩; have HX1 := Lib.hid hx1)
      | (go_at_call 29; refine (HA.out _ HX1.out).mono ?_; rintro e w2 ⟨rfl, hx2⟩; have HX2 := Lib.hid (HX1.out.trans' hx2))
      | (go_at_call 48; refine (l5Ask_any xs ps _ _ _ (HV.out.ext HX2.out) (HU.out.ext HX2.out) HPS.out hpl hxl).mono ?_; rintro e w3 ⟨⟨v3, rfl, hv3⟩, hx3⟩; have HX3 := Lib.hid (HX2.out.trans' hx3)))
     go_ret
     exact ⟨⟨_, rfl, by rw [HR.out]; exact hv3⟩, HX3.out⟩

end Go.Proofs.YtfjdijakgjhieaaGreat

namespace Go.Proofs.YtfjdijakgjhieaaGreat
set_option linter.unusedSimpArgs false
set_option linter.unusedVariables false
open Go.RowKit

theorem foldl_id {α : Type} : ∀ (l st : List α), l.foldl (fun st r => st ++ [r]) st = st ++ l
 | [], st => by simp
 | x :: l, st => by rw [List.foldl_cons, foldl_id l, List.append_assoc]; rfl

set_option maxRecDepth 100000 in
set_option maxHeartbeats 4000000 in
theorem ask_any (xs : List GA) (ps : List GP) (v u : Value) (w : World) {S T : Nat → Prop} (hv : AtomsR S w v xs) (hu : PartsR T w u ps) (hf : factsB xs 300 = true) (hok : askOkB ps = true) :
 Calls Tryz.prog 45 #[v, u] w fun e w' => (∃ b, e = .returned b ∧ RowsO (From w.heap.size) w' b (askN xs ps (varsN ps))) ∧ Ext w w' := by
 obtain ⟨A, c, rfl, hc1, hc2⟩ := SliceR.form hv
 obtain ⟨A', c', rfl, hc1', hc2'⟩ := SliceR.form hu
 obtain ⟨a1, a2, a3, a4⟩ := askOk_parts hok
 have hl : xs.length ≤ 300 := by
  have := hf
  unfold factsB at this
  simp only [Bool.and_eq_true, decide_eq_true_eq] at this
  exact this.2
 have hff : ∀ a ∈ xs, factB a = true := by
  have := hf
  unfold factsB at this
  simp only [Bool.and_eq_true, List.all_eq_true] at this
  exact this.1.1
 have hn12 := varsN_few (fun p hp => atomOk_few (a3 p hp)) a2
 obtain ⟨K, hK⟩ : ∃ K, K = (toldAll (seOf xs (List.replicate xs.length 0) (varsN ps) ps (wantAll (varsN ps).length))).map (rowW (varsN ps).length) := ⟨_, rfl⟩
 have hKl : K.length ≤ 2430000000000 := by
  rw [hK, List.length_map]
  refine toldAll_len hl ?_
  show (partsOf (varsN ps) ps).length ≤ 4
  unfold partsOf
  rw [List.length_map]
  exact Nat.le_trans (List.length_filter_le _ _) a2
 have HSA := Lib.hid (fun (s : List (List ByteArray)) (hp : s.Perm K) (hs : s.Pairwise fun a b => cmpR a b ≤ 0) => ask_same (askable hok) (fun a ha => fact_ok (hff a ha)) (factsB_asc hf) (hK ▸ hp) hs)
 have HRW := Lib.hid (show Calls Tryz.prog 83 #[.slice A xs.length c, .slice A' ps.length c', .func (.func 84) #[] #[.pointer (some ⟨w.heap.size, 0, none⟩)]] (w.alloc (.cells #[.slice none 0 0] 34)) fun e w' => e = .returned (.tuple #[]) ∧
  (∃ base, w.heap.size + 1 ≤ base ∧ AskR w.heap.size base K w') ∧ Inside (fun b => b = w.heap.size ∨ w.heap.size + 1 ≤ b) (w.alloc (.cells #[.slice none 0 0] 34)) w' from by
  have hz : (w.alloc (.cells #[.slice none 0 0] 34)).heap.size = w.heap.size + 1 := by simp
  have hlow := hv.low
  have h := rows_any (N := 2430000000000) xs ps _ _ _ (hlow.ext ((Ext.refl w).alloc (.cells #[.slice none 0 0] 34))) (hu.ext ((Ext.refl w).alloc (.cells #[.slice none 0 0] 34))) (fun b hb => by rw [hz]; have : b < w.heap.size := hb; omega) (fun b => b = w.heap.size) (fun b hb => by rw [hz, hb]; omega) (fun b hb e => by
   have h1 : b < w.heap.size := hb
   have h2 : b = w.heap.size := e
   omega) hff hl hok (g := 84) (caps := #[.pointer (some ⟨w.heap.size, 0, none⟩)]) (R := AskR w.heap.size) (put := fun st r => st ++ [r]) (rank := List.length) [] (fun H base hG h1 h2 h3 => ask1_yields H hn12 (by rw [hz] at h1; omega) h2 h3 (Nat.le_refl _) hG)
   (fun W hW => ⟨_, (Blk.new w _ _).ext hW, OwnO.nil, Nat.le_refl _, by have := hW.size; rw [hz] at this; omega⟩) (by
    have := hKl
    rw [hK, List.length_map] at this
    simpa using this)
  refine h.mono fun e w' ⟨h1, ⟨base, h2, h3⟩, h4⟩ => ⟨h1, ⟨base, by rw [hz] at h2; exact h2, ?_⟩, ?_⟩
  · rw [foldl_id, List.nil_append, ← hK] at h3; exact h3
  · rw [hz] at h4; exact h4)
 have HKL := Lib.hid hKl
 clear hv hu hf hok a1 a3 a4 hff hK hKl
 go_enter Tryz.func45, Tryz.ntmps45
 go_wp2_with (first
  | (go_at_call 83; refine HRW.out.mono ?_; rintro e w2 ⟨rfl, ⟨base, hb2, ⟨v2, hk2, ho2, hz2, hlt2⟩⟩, hi2⟩
     obtain ⟨A2, n2, c2, rfl, hn2, h21, h22⟩ := ho2.form2
     have o2 := hk2.cell 0
     have l2 := hk2.lt
     have HK2 := Lib.hid hk2
     have HI2 := Lib.hid hi2
     have HSR := Lib.hid (sortRows_any K _ w2 ho2 (by have := HKL.out; omega))
     clear hk2 ho2 hi2)
  | (go_at_call 85; refine HSR.out.mono ?_; rintro e w3 ⟨rfl, ⟨srt, hp3, hs3, hr3⟩, hi3⟩
     have HI3 := Lib.hid hi3
     have o3 := (hi3.blk HK2.out (by omega)).cell 0
     have l3 := (hi3.blk HK2.out (by omega)).lt
     have HR3 := Lib.hid hr3
     have HP3 := Lib.hid (HSA.out srt hp3 hs3)
     clear hi3 hr3 hp3 hs3)
  | fail)
 go_ret
 refine ⟨⟨_, rfl, ?_⟩, ?_⟩
 · rw [← HP3.out]
   exact SliceO.sub HR3.out (fun b hb => by
    have : w.heap.size ≤ b := hb.elim (fun h => by omega) (fun h => by omega)
    exact this)
 · have hx1 : Ext w w2 := HI2.out.toExt ((Ext.refl w).alloc _) (fun i hi => by
     rcases hi with hi | hi
     · omega
     · omega)
   exact HI3.out.toExt hx1 (fun i hi => by
    have hi2 : base ≤ i := hi
    omega)

set_option maxRecDepth 100000 in
set_option maxHeartbeats 2000000 in
theorem askOk_any (ps : List GP) (u : Value) (w : World) {T : Nat → Prop} (hu : PartsR T w u ps) :
 Calls Tryz.prog 44 #[u] w fun e w' => e = .returned (.bool (askOkB ps)) ∧ Ext w w' := by
 obtain ⟨A, c, rfl, hc1, hc2⟩ := SliceR.form hu
 have HBO := Lib.hid (fun (W : World) (hW : Ext w W) => bodyOk_any _ ps W (hu.ext hW))
 have HBL := Lib.hid (fun (W : World) (hW : Ext w W) => bodyLoose_any _ ps W (hu.ext hW))
 have hA : askOkB ps = (decide (0 < ps.length) && (decide (ps.length ≤ 4) && ps.all partOkB) && ps.all (tightP ps)) := by
  unfold askOkB bodyTight
  have e1 : (ps.all fun p => atomOkB p.atom) = ps.all partOkB := rfl
  have e2 : (ps.all fun p => (varsOf p.atom).all (boundIn ps)) = ps.all (tightP ps) := rfl
  rw [e1, e2]
  have e3 : decide (1 ≤ ps.length ∧ ps.length ≤ 4) = (decide (0 < ps.length) && decide (ps.length ≤ 4)) := by
   apply Bool.eq_iff_iff.2; simp; omega
  rw [e3, Bool.and_assoc (decide (0 < ps.length))]
 have HA := Lib.hid hA
 clear hu hA
 obtain ⟨b1, hb1⟩ : ∃ b, b = (decide (ps.length ≤ 4) && ps.all partOkB) := ⟨_, rfl⟩
 obtain ⟨b2, hb2⟩ : ∃ b, b = ps.all (tightP ps) := ⟨_, rfl⟩
 rw [← hb1, ← hb2] at HA
 rw [← hb1] at HBO
 rw [← hb2] at HBL
 clear hb1 hb2
 by_cases h0 : 0 < ps.length
 · have h1 : (0 : Int) < (ps.length : Int) := by omega
   rw [decide_eq_true h0, Bool.true_and] at HA
   cases b1
   · have HF := Lib.hid (show askOkB ps = false from HA.out)
     clear HA
     go_enter Tryz.func44, Tryz.ntmps44
     go_wp2_with (first | (go_at_call 81; refine (HBO.out _ (Ext.refl _)).mono ?_; rintro e w1 ⟨rfl, hx1⟩) | fail)
     go_ret
     exact ⟨by rw [HF.out]; rfl, hx1⟩
   · cases b2
     · have HF := Lib.hid (show askOkB ps = false from HA.out)
       clear HA
       go_enter Tryz.func44, Tryz.ntmps44
       go_wp2_with (first | (go_at_call 81; refine (HBO.out _ (Ext.refl _)).mono ?_; rintro e w1 ⟨rfl, hx1⟩; have HX1 := Lib.hid hx1; clear hx1) | (go_at_call 82; refine (HBL.out _ HX1.out).mono ?_; rintro e w2 ⟨rfl, hx2⟩) | fail)
       go_ret
       exact ⟨by rw [HF.out]; rfl, HX1.out.trans' hx2⟩
     · have HF := Lib.hid (show askOkB ps = true from HA.out)
       clear HA
       go_enter Tryz.func44, Tryz.ntmps44
       go_wp2_with (first | (go_at_call 81; refine (HBO.out _ (Ext.refl _)).mono ?_; rintro e w1 ⟨rfl, hx1⟩; have HX1 := Lib.hid hx1; clear hx1) | (go_at_call 82; refine (HBL.out _ HX1.out).mono ?_; rintro e w2 ⟨rfl, hx2⟩) | fail)
       go_ret
       exact ⟨by rw [HF.out]; rfl, HX1.out.trans' hx2⟩
 · have h1 : ¬ (0 : Int) < (ps.length : Int) := by omega
   have HF := Lib.hid (show askOkB ps = false from by rw [HA.out, decide_eq_false h0]; rfl)
   clear HA
   go_enter Tryz.func44, Tryz.ntmps44
   go_wp2
   go_ret
   exact ⟨by rw [HF.out]; rfl, Ext.refl _⟩

set_option maxRecDepth 100000 in
set_option maxHeartbeats 2000000 in
theorem implAsk_any (xs : List GA) (ps : List GP) (v u : Value) (w : World) {S T : Nat → Prop} (hv : AtomsR S w v xs) (hu : PartsR T w u ps) :
 Calls Tryz.prog 14 #[v, u] w fun e w' => (∃ b, e = .returned b ∧ RowsO (From w.heap.size) w' b (askW xs ps)) ∧ Ext w w' := by
 obtain ⟨A, c, rfl, hc1, hc2⟩ := SliceR.form hv
 obtain ⟨A', c', rfl, hc1', hc2'⟩ := SliceR.form hu
 have HFO := Lib.hid (fun (W : World) (hW : Ext w W) => factsOk_any _ xs W (hv.ext hW))
 have HAO := Lib.hid (fun (W : World) (hW : Ext w W) => askOk_any ps _ W (hu.ext hW))
 have HV := Lib.hid hv
 have HU := Lib.hid hu
 clear hv hu
 rcases Bool.eq_false_or_eq_true (factsB xs 300) with hf | hf
 · rw [hf] at HFO
   rcases Bool.eq_false_or_eq_true (askOkB ps) with ha | ha
   · rw [ha] at HAO
     have HAS := Lib.hid (fun (W : World) (hW : Ext w W) => ask_any xs ps _ _ W (HV.out.ext hW) (HU.out.ext hW) hf ha)
     have HR := Lib.hid (show askW xs ps = askN xs ps (varsN ps) from by unfold askW; rw [hf, ha]; rfl)
     clear hf ha
     go_enter Tryz.func14, Tryz.ntmps14
     go_wp2_with (first
      | (go_at_call 37; refine (HFO.out _ (Ext.refl _)).mono ?_; rintro e w1 ⟨rfl, hx1⟩; have HX1 := Lib.hid hx1; clear hx1)
      | (go_at_call 44; refine (HAO.out _ HX1.out).mono ?_; rintro e w2 ⟨rfl, hx2⟩; have HX2 := Lib.hid (HX1.out.trans' hx2); clear hx2)
      | (go_at_call 45; refine (HAS.out _ HX2.out).mono ?_; rintro e w3 ⟨⟨b3, rfl, hb3⟩, hx3⟩; obtain ⟨B3, d3, rfl, hd3, hd4⟩ := SliceO.form hb3; have HB3 := Lib.hid hb3; have HX3 := Lib.hid (HX2.out.trans' hx3); clear hb3 hx3) | fail)
     go_ret
     refine ⟨⟨_, rfl, ?_⟩, HX3.out⟩
     rw [HR.out]
     exact SliceO.sub HB3.out (fun b hb => Nat.le_trans HX2.out.size hb)
   · rw [ha] at HAO
     have HR := Lib.hid (show askW xs ps = [] from by unfold askW; rw [hf, ha]; rfl)
     clear hf ha
     go_enter Tryz.func14, Tryz.ntmps14
     go_wp2_with (first
      | (go_at_call 37; refine (HFO.out _ (Ext.refl _)).mono ?_; rintro e w1 ⟨rfl, hx1⟩; have HX1 := Lib.hid hx1; clear hx1)
      | (go_at_call 44; refine (HAO.out _ HX1.out).mono ?_; rintro e w2 ⟨rfl, hx2⟩; have HX2 := Lib.hid (HX1.out.trans' hx2); clear hx2) | fail)
     go_ret
     exact ⟨⟨_, rfl, by rw [HR.out]; exact SliceO.nil 0 (Nat.zero_le _) none⟩, HX2.out⟩
 · rw [hf] at HFO
   have HR := Lib.hid (show askW xs ps = [] from by unfold askW; rw [hf]; rfl)
   clear hf
   go_enter Tryz.func14, Tryz.ntmps14
   go_wp2_with (first | (go_at_call 37; refine (HFO.out _ (Ext.refl _)).mono ?_; rintro e w1 ⟨rfl, hx1⟩; have HX1 := Lib.hid hx1; clear hx1) | fail)
   go_ret
   exact ⟨⟨_, rfl, by rw [HR.out]; exact SliceO.nil 0 (Nat.zero_le _) none⟩, HX1.out⟩

end Go.Proofs.YtfjdijakgjhieaaGreat

namespace Go.Proofs.YtfjdijakgjhieaaGreat
set_option linter.unusedSimpArgs false
set_option linter.unusedVariables false
open Go.RowKit

/-- All that must be is, and nothing else. -/
def Sat (list : List GA) (body : List GP) (σ : ByteArray → ByteArray) : Prop := ∀ p ∈ body, (HoldsS list p.atom σ ↔ p.no = false)
theorem all_sat {list : List GA} {body : List GP} (ha : Asc list) {b : LB} (hb : b ∈ allN list body) : Sat list body (sig b) := by
 have hst : ∀ c ∈ [(⟨[], []⟩ : LB)], c.ok := fun c hc => by
  have : c = ⟨[], []⟩ := by simpa using hc
  subst this; rfl
 obtain ⟨hbm, hheld⟩ := List.mem_filter.1 hb
 obtain ⟨k1, _, k3⟩ := fold_sound hst hbm
 intro p hp
 cases hno : p.no with
 | false =>
   refine ⟨fun _ => rfl, fun _ => ?_⟩
   obtain ⟨f, hfm, hfn, hargs⟩ := k3 p hp hno
   refine ⟨f, hfm, hfn, ?_⟩
   have e : (f.args.map (·.n)).map some = (p.atom.args.map (valS (sig b))).map some := by
    rw [List.map_map, show (some ∘ fun x : GT => x.n) = fun f : GT => some f.n from rfl, ← hargs, List.map_map]
    refine List.map_congr_left fun t ht => ?_
    show valB b t = some (valS (sig b) t)
    unfold valB valS
    by_cases hv : t.v = true
    · rw [if_pos hv, if_pos hv]
      have : valB b t ∈ f.args.map (fun f => some f.n) := by rw [← hargs]; exact List.mem_map_of_mem ht
      obtain ⟨g, _, hg⟩ := List.mem_map.1 this
      unfold valB at hg
      rw [if_pos hv] at hg
      unfold sig
      rw [← hg]; rfl
    · rw [if_neg hv, if_neg hv]
   exact (List.map_inj_right (f := some) (fun x y h => Option.some.inj h)).1 e
 | true =>
   refine ⟨fun h => ?_, fun h => by cases h⟩
   have h1 := (hasA_holds ha (b := b) (fun t _ _ => rfl)).2 h
   unfold heldB at hheld
   have := List.all_eq_true.1 hheld p hp
   rw [hno, h1] at this
   cases this
theorem sat_all {list : List GA} {body : List GP} {vs : List ByteArray} (hb : Askable body vs) (ha : Asc list) {σ : ByteArray → ByteArray} (hs : Sat list body σ) : ∃ b ∈ allN list body, ∀ x ∈ vs, sig b x = σ x := by
 have hst : ∀ c ∈ [(⟨[], []⟩ : LB)], c.ok := fun c hc => by
  have : c = ⟨[], []⟩ := by simpa using hc
  subst this; rfl
 obtain ⟨b, hbm, hbu⟩ := fold_meets (list := list) (out := [⟨[], []⟩]) (c := ⟨[], []⟩) hst (by simp) (fun x u h => by cases h) (fun p hp hn => (hs p hp).2 hn)
 obtain ⟨k1, _, k3⟩ := fold_sound hst hbm
 have hsig : ∀ x ∈ vs, sig b x = σ x := fun x hx => by
  obtain ⟨p, hp, hno, t, ht, htv, htn⟩ := hb.tight x hx
  obtain ⟨f, _, _, hfm⟩ := k3 p hp hno
  have : valB b t ∈ f.args.map (fun f => some f.n) := by rw [← hfm]; exact List.mem_map_of_mem ht
  obtain ⟨g, _, hg⟩ := List.mem_map.1 this
  unfold valB at hg
  rw [if_pos htv, htn] at hg
  unfold sig
  rw [← hg]
  exact hbu x g.n hg.symm
 refine ⟨b, List.mem_filter.2 ⟨hbm, ?_⟩, hsig⟩
 unfold heldB
 rw [List.all_eq_true]
 intro p hp
 cases hno : p.no with
 | false => rfl
 | true =>
   cases hh : hasA list (fillN p.atom b) with
   | false => rfl
   | true =>
     have := (hs p hp).1 ((hasA_holds ha (fun t ht htv => hsig t.n (hb.mem p hp t ht htv))).1 hh)
     rw [hno] at this; cases this
theorem ask_iff {list : List GA} {body : List GP} {vs : List ByteArray} (hb : Askable body vs) (ha : Asc list) {r : List ByteArray} : r ∈ askN list body vs ↔ ∃ σ, vs.map σ = r ∧ Sat list body σ := by
 rw [askN_mem]
 constructor
 · rintro ⟨b, hbm, rfl⟩
   exact ⟨sig b, rfl, all_sat ha hbm⟩
 · rintro ⟨σ, rfl, hs⟩
   obtain ⟨b, hbm, hsig⟩ := sat_all hb ha hs
   exact ⟨b, hbm, List.map_congr_left hsig⟩
theorem ascC_of {l : List ByteArray} (h : AscS l) : AscC cmpS l := List.Pairwise.imp (fun h => by
 have := of_decide_eq_true h
 unfold cmpS; exact this) h
theorem vars_ext {b b' : List GP} (h : ∀ p, p ∈ b ↔ p ∈ b') : varsN b = varsN b' := asc_ext cmpS_total (ascC_of (varsN_asc b)) (ascC_of (varsN_asc b')) fun x => by
 rw [varsN_mem, varsN_mem]
 exact ⟨fun ⟨p, hp, hx⟩ => ⟨p, (h p).1 hp, hx⟩, fun ⟨p, hp, hx⟩ => ⟨p, (h p).2 hp, hx⟩⟩
theorem askOk_ext {b b' : List GP} (hl : 1 ≤ b'.length ∧ b'.length ≤ 4) (h : ∀ p, p ∈ b ↔ p ∈ b') (hb : askOkB b = true) : askOkB b' = true := by
 obtain ⟨h1, h2, h3, h4⟩ := askOk_parts hb
 have hbi : ∀ x, boundIn b' x = boundIn b x := fun x => by
  unfold boundIn
  apply Bool.eq_iff_iff.2
  rw [List.any_eq_true, List.any_eq_true]
  exact ⟨fun ⟨p, hp, hx⟩ => ⟨p, (h p).2 hp, hx⟩, fun ⟨p, hp, hx⟩ => ⟨p, (h p).1 hp, hx⟩⟩
 unfold askOkB
 simp only [Bool.and_eq_true, decide_eq_true_eq, List.all_eq_true]
 refine ⟨⟨hl, fun p hp => h3 p ((h p).2 hp)⟩, ?_⟩
 unfold bodyTight
 rw [List.all_eq_true]
 intro p hp
 rw [List.all_eq_true]
 intro x hx
 rw [hbi]
 unfold bodyTight at h4
 exact List.all_eq_true.1 (List.all_eq_true.1 h4 p ((h p).2 hp)) x hx
theorem askN_ext {list : List GA} {b b' : List GP} (ha : Asc list) (hb : askOkB b = true) (hb' : askOkB b' = true) (h : ∀ p, p ∈ b ↔ p ∈ b') : askN list b (varsN b) = askN list b' (varsN b') := by
 refine asc_ext cmpR_total (askN_asc _ _ _) (askN_asc _ _ _) fun r => ?_
 rw [ask_iff (askable hb) ha, ask_iff (askable hb') ha, vars_ext h]
 have hs : ∀ σ, Sat list b σ ↔ Sat list b' σ := fun σ => ⟨fun k p hp => k p ((h p).2 hp), fun k p hp => k p ((h p).1 hp)⟩
 exact ⟨fun ⟨σ, e, k⟩ => ⟨σ, e, (hs σ).1 k⟩, fun ⟨σ, e, k⟩ => ⟨σ, e, (hs σ).2 k⟩⟩
theorem askW_ext {xs : List GA} {b b' : List GP} (hl : askOkB b = askOkB b') (h : ∀ p, p ∈ b ↔ p ∈ b') : askW xs b = askW xs b' := by
 unfold askW
 rw [hl]
 split
 · rename_i hc
   simp only [Bool.and_eq_true] at hc
   exact askN_ext (factsB_asc hc.1) (hl ▸ hc.2) hc.2 h
 · rfl
end Go.Proofs.YtfjdijakgjhieaaGreat

namespace Go.Proofs.YtfjdijakgjhieaaGreat
set_option linter.unusedSimpArgs false
set_option linter.unusedVariables false
open Go.RowKit

set_option maxRecDepth 100000 in
set_option maxHeartbeats 1000000 in
theorem fsRow_same (v u : Value) (xs : List ByteArray) (w : World) {S T : Nat → Prop} (hv : StrsR S w v xs) (hu : StrsR T w u xs) :
 Calls Tryz.prog 32 #[v, u] w fun e w' => e = .returned (.bool true) ∧ Ext w w' := by
 obtain ⟨A, c, rfl, hc1, hc2⟩ := SliceR.form hv
 obtain ⟨B, d, rfl, hd1, hd2⟩ := SliceR.form hu
 have HV := Lib.hid hv
 have HU := Lib.hid hu
 clear hv hu
 go_enter Tryz.func32, Tryz.ntmps32
 go_wp2
 go_loopw [5] (fun i wr => ∃ k : Nat, k ≤ xs.length ∧ i = .int .i64 k ∧ Ext w wr) (fun i _ => xs.length - (intOf i).toNat)
 case atStart => exact ⟨0, Nat.zero_le _, rfl, Ext.refl _⟩
 case round =>
  obtain ⟨k, hk, rfl, hx⟩ := hrel
  by_cases hlt : k < xs.length
  · obtain ⟨b, off, x, rfl, hb, hxk, hxs, c0⟩ := StrsR.at_ (HV.out.ext hx) hlt
    obtain ⟨b2, off2, y, rfl, hb2, hyk, hys, d0⟩ := StrsR.at_ (HU.out.ext hx) hlt
    rw [hxk] at hyk; injection hyk with hyk; subst hyk
    have hk0 : (0 : Int) ≤ (k : Int) := Int.natCast_nonneg _
    have hk1 : (k : Int) < (xs.length : Int) := by omega
    have he : (!x.toList == x.toList) = false := by simp
    clear hxk
    go_wp2_with fail
    go_still_tail 8, (by kernel_rfl)
    change wpList _ _ _ _ _ wr.drew
    clear hb hb2 c0 d0
    go_wp2
    go_roundw
    case rel => exact ⟨k + 1, by omega, by go_num, hx.drew⟩
    case measure => simp [intOf]; omega
  · go_wp2
    go_ret
    exact ⟨rfl, hx⟩

set_option maxRecDepth 100000 in
set_option maxHeartbeats 1000000 in
theorem fsRows_same (v u : Value) (xs : List (List ByteArray)) (w : World) {S T : Nat → Prop} (hv : RowsR S w v xs) (hu : RowsR T w u xs) :
 Calls Tryz.prog 28 #[v, u] w fun e w' => e = .returned (.bool true) ∧ Ext w w' := by
 obtain ⟨A, c, rfl, hc1, hc2⟩ := SliceR.form hv
 obtain ⟨B, d, rfl, hd1, hd2⟩ := SliceR.form hu
 have HV := Lib.hid hv
 have HU := Lib.hid hu
 clear hv hu
 go_enter Tryz.func28, Tryz.ntmps28
 go_wp2
 go_loopw [5] (fun i wr => ∃ k : Nat, k ≤ xs.length ∧ i = .int .i64 k ∧ Ext w wr) (fun i _ => xs.length - (intOf i).toNat)
 case atStart => exact ⟨0, Nat.zero_le _, rfl, Ext.refl _⟩
 case round =>
  obtain ⟨k, hk, rfl, hx⟩ := hrel
  by_cases hlt : k < xs.length
  · obtain ⟨b, off, x, v1, rfl, hb, hxk, ht, c0⟩ := RowsR.at_ (HV.out.ext hx) hlt
    obtain ⟨b2, off2, y, v2, rfl, hb2, hyk, ht2, d0⟩ := RowsR.at_ (HU.out.ext hx) hlt
    rw [hxk] at hyk; injection hyk with hyk; subst hyk
    obtain ⟨E1, e1, rfl, he1, he2⟩ := SliceR.form ht
    obtain ⟨F1, f1, rfl, hf1, hf2⟩ := SliceR.form ht2
    have HT := Lib.hid (ht.ext (Ext.refl _).drew)
    have HT2 := Lib.hid (ht2.ext (Ext.refl _).drew)
    have hk0 : (0 : Int) ≤ (k : Int) := Int.natCast_nonneg _
    have hk1 : (k : Int) < (xs.length : Int) := by omega
    clear hxk ht ht2
    go_wp2_with fail
    go_still_tail 8, (by kernel_rfl)
    change wpList _ _ _ _ _ wr.drew
    clear hb hb2 c0 d0
    go_wp2_with (go_at_call 32; refine (fsRow_same _ _ x _ HT.out HT2.out).mono ?_; rintro e w1 ⟨rfl, hx1⟩; have HX1 := Lib.hid hx1; clear hx1)
    go_roundw
    case rel => exact ⟨k + 1, by omega, by go_num, hx.drew.trans' HX1.out⟩
    case measure => simp [intOf]; omega
  · go_wp2
    go_ret
    exact ⟨rfl, hx⟩

end Go.Proofs.YtfjdijakgjhieaaGreat

namespace Go.Proofs.YtfjdijakgjhieaaGreat
set_option linter.unusedSimpArgs false
set_option linter.unusedVariables false
open Go.RowKit

section
variable {α : Type} {k : Kind α} {g : Nat} {S S' : Nat → Prop} {w w' : World} {cs cs' : Array Value} {xs : List α} {n : Nat}
end
theorem part_info : (Tryz.prog.info? 37).map (fun i => (i.zero, i.size, i.bytes)) = some (some (.agg #[.bool false, .string ByteArray.empty, .slice none 0 0]), 3, 48) := by kernel_rfl
theorem rule_info : (Tryz.prog.info? 93).map (fun i => (i.zero, i.size, i.bytes)) = some (some (.agg #[.string ByteArray.empty, .slice none 0 0, .slice none 0 0]), 3, 64) := by kernel_rfl

end Go.Proofs.YtfjdijakgjhieaaGreat

namespace Go.Proofs.YtfjdijakgjhieaaGreat
open Go.RowKit Go.ChangeShapes Go.WideShapes

theorem law_own : ownKnob Tryz.prog.godebug = none := by kernel_rfl
theorem law_laidOut : laidOutB Tryz.prog = true := by kernel_rfl

section
variable {H : Type} {enc : TypeId × Value → H} {P : Program}

theorem trodAll_stays (hl : laidOutB P = true) {W W' : World} (hb : Below W.heap.size W W') : ∀ (ts : List TypeId) (vs : List Value) (ds : List (DataW H)) (ps : List MemPlace), (∀ t ∈ ts, P.readableRec t = true ∧ t < P.types.size) →
 DataW.TrodAll enc P W 0 (fun _ => true) true ts vs ds ps → (∀ x ∈ ps, x.block < W.heap.size) → ∀ sp : Nat → Bool, (∀ x ∈ ps, sp x.block = true) → DataW.TrodAll enc P W' 0 sp true ts vs ds ps
 | [], [], [], ps, _, h, _, _, _ => h
 | t :: ts, v :: vs, d :: ds, ps, ht, h, hlt, sp, hsp => by
   obtain ⟨p, q, h1, h2, rfl⟩ := h
   refine ⟨p, q, ?_, trodAll_stays hl hb ts vs ds q (fun t ht' => ht t (List.mem_cons_of_mem _ ht')) h2 (fun x hx => hlt x (List.mem_append.2 (.inr hx))) sp (fun x hx => hsp x (List.mem_append.2 (.inr hx))), rfl⟩
   exact WideElems.Trod_stays hl (ht t (by simp)).1 (ht t (by simp)).2 h1 (fun x hx => hb.same (hlt x (List.mem_append.2 (.inl hx)))) (fun x hx => hsp x (List.mem_append.2 (.inl hx)))
 | [], _ :: _, _, _, _, h, _, _, _ => by simp [DataW.TrodAll] at h
 | [], [], _ :: _, _, _, h, _, _, _ => by simp [DataW.TrodAll] at h
 | _ :: _, [], _, _, _, h, _, _, _ => by simp [DataW.TrodAll] at h
 | _ :: _, _ :: _, [], _, _, h, _, _, _ => by simp [DataW.TrodAll] at h

/-- A law whose call returns true and leaves what was there: its row's post. -/
theorem law_post {f : Func} {s : ChangeSpec} {apart fresh handsOn again : Bool} {W W' : World} {args : Array Value} {ds : List (DataW H)} {before : List MemPlace} {t : TypeId}
 (hvars : s.vars = []) (hres : f.resultTypes = #[t]) (hbool : P.underlying t = some .bool) (hspec : s.fn H (ds ++ []) = { results := [.lit (.bool true)], args := ds })
 (hl : laidOutB P = true) (hts : ∀ t ∈ f.params.toList, P.readableRec t = true ∧ t < P.types.size)
 (hW : DataW.Whole enc P f.params.toList s.vars apart W args.toList ds [] before) (hb : Below W.heap.size W W') :
 s.post enc P f apart fresh handsOn again W args (.bool true) W' := by
 obtain ⟨p, q, hA, hV, hpq, hz, hn⟩ := id hW
 have hq : q = [] := by
  rw [hvars] at hV
  obtain ⟨_, h2⟩ := trodVars_none hV
  exact h2
 subst hq
 rw [List.append_nil] at hpq
 subst hpq
 have hlt : ∀ x ∈ before, x.block < W.heap.size := fun x hx => hW.lt x hx
 have hstay := trodAll_stays hl hb _ _ _ _ hts hA hlt
 have hold : ∀ x ∈ before, (fun b => decide (b < W.heap.size)) x.block = true := fun x hx => by simpa using hlt x hx
 have hr : ∀ (b : Nat) (sp : Nat → Bool) (hd : Bool), DataW.TrodAll enc P W' b sp hd f.resultTypes.toList ((Value.bool true).resultList f.resultTypes.size) (s.fn H (ds ++ [])).results [] := by
  intro b sp hd
  rw [hres, hspec]
  exact trodAll_mk1 (shut_bool hbool true)
 have hvr : ∀ sp : Nat → Bool, DataW.TrodVars enc P W' sp s.vars (s.fn H (ds ++ [])).vars [] := by
  intro sp
  rw [hvars, hspec]
  rfl
 have hargs : ∀ sp : Nat → Bool, (∀ x ∈ before, sp x.block = true) → DataW.TrodAll enc P W' 0 sp true f.params.toList args.toList (s.fn H (ds ++ [])).args before := by
  intro sp hsp
  rw [hspec]
  exact hstay sp hsp
 refine ⟨ds, [], before, [], before, [], hW, hr _ _ _, hargs _ hold, hvr _, World.keptBut_mono (fun x hx => ⟨hx, .inr (by simpa using hx)⟩) (hb.frame (· ∈ before)), fun _ => ?_⟩
 refine ⟨ok_one hres rfl (okWide_bool_mk hbool true), _, _, ([] ++ before) ++ [], ⟨[] ++ before, [], trodAll_append (hargs _ (fun _ _ => rfl)) (hr _ _ _), hvr _, rfl, ?_, ?_⟩, ?_⟩
 · intro b off hp
   have hin : MemPlace.cell b off ∈ before := by simpa using hp
   rw [hb.frozen (hlt _ hin)]
   exact hz b off hin
 · intro ha
   have := hn ha
   simpa using this
 · intro x hx _
   simpa using hx
end
end Go.Proofs.YtfjdijakgjhieaaGreat

namespace Go.Proofs.YtfjdijakgjhieaaGreat
open Go.RowKit

/-- The bytes of a code. -/
def ByteE (_ : World) (cs : List Value) (c : UInt8) : Prop := cs = [.int .u8 c.toNat]
def BytesR (S : Nat → Prop) : World → Value → List UInt8 → Prop := SliceR S 1 ByteE

theorem BytesR.imp {S S' : Nat → Prop} {w w' : World} {v : Value} {xs : List UInt8} (h : BytesR S w v xs) (hS : ∀ b, S b → S' b) (he : Agree S w w') (hsz : w.heap.size ≤ w'.heap.size) : BytesR S' w' v xs :=
 SliceR.imp (E := ByteE) (w := w) (fun _ _ _ h => h) hS h he hsz
theorem BytesR.ext {S : Nat → Prop} {w w' : World} {v : Value} {xs : List UInt8} (h : BytesR S w v xs) (he : Ext w w') : BytesR S w' v xs := h.imp (fun _ h => h) (.of_ext he) he.size
theorem BytesR.at_ {S : Nat → Prop} {w : World} {A : Option Addr} {n c : Nat} {xs : List UInt8} (h : BytesR S w (.slice A n c) xs) {k : Nat} (hk : k < n) :
 ∃ (b off : Nat) (x : UInt8), A = some ⟨b, off, none⟩ ∧ b < w.heap.size ∧ xs[k]? = some x ∧ w.cell? ⟨b, off + k, none⟩ = some (.int .u8 x.toNat) := by
 obtain ⟨b, off, x, cs, hA, hb, hx, _, hc, rfl⟩ := SliceR.at_ h hk
 exact ⟨b, off, x, hA, hb, hx, by simpa using hc 0 _ rfl⟩

theorem SliceR.take {α : Type} {S : Nat → Prop} {size : Nat} {E : World → List Value → α → Prop} {w : World} {A : Option Addr} {n c : Nat} {xs : List α} (h : SliceR S size E w (.slice A n c) xs) (k : Nat) (hk : k ≤ n) : SliceR S size E w (.slice A k c) (xs.take k) := by
 obtain ⟨A', c', hv, h1, h2, h3⟩ := h
 injection hv with hA hn hc
 subst hA; subst hn; subst hc
 have hl : (xs.take k).length = k := by rw [List.length_take]; omega
 refine ⟨A, c, by rw [hl], by omega, h2, fun h0 => ?_⟩
 obtain ⟨b, off, ha, hb, hs, hcell⟩ := h3 (by omega)
 exact ⟨b, off, ha, hb, hs, fun i x hx => hcell i x (by
  rw [List.getElem?_take] at hx
  split at hx
  · exact hx
  · cases hx)⟩
theorem SliceR.low {α : Type} {S : Nat → Prop} {size : Nat} {E : World → List Value → α → Prop} {w : World} {v : Value} {xs : List α} (h : SliceR S size E w v xs) : SliceR (fun b => b < w.heap.size) size E w v xs := by
 obtain ⟨A, c, hv, h1, h2, h3⟩ := h
 refine ⟨A, c, hv, h1, h2, fun h0 => ?_⟩
 obtain ⟨b, off, ha, hb, _, hcell⟩ := h3 h0
 exact ⟨b, off, ha, hb, hb, hcell⟩
theorem BytesR.aside {S : Nat → Prop} {w : World} {v : Value} {xs : List UInt8} (h : BytesR S w v xs) (o : Obj) : BytesR (fun b => b < w.heap.size) (w.alloc o) v xs :=
 BytesR.imp (w := w) (SliceR.low h) (fun b hb => hb) (.of_ext ((Ext.refl w).alloc o)) (by go_size)

/-- A reader in block rb: its bytes lie elsewhere; p bytes have been asked for. -/
def Reader (w : World) (rb : Nat) (p : Nat) : Prop :=
 ∃ A n c xs, BytesR (fun b => b < rb) w (.slice A n c) xs ∧ n ≤ 2000 ∧ p ≤ 1000000 ∧ Blk w rb 119 #[.slice A n c, .int .i64 p]

/-- All but the reader's block stands. -/
def Else (rb : Nat) (w w' : World) : Prop := w.grownBy w' (some rb)

theorem reader_post {w W : World} {rb p n c : Nat} {A : Option Addr} {xs : List UInt8} (hb : BytesR (fun b => b < rb) w (.slice A n c) xs) (hn : n ≤ 2000) (hk : Blk w rb 119 #[.slice A n c, .int .i64 p]) (hp : p + 1 ≤ 1000000)
 (h : Ext (w.setCell ⟨rb, 1, none⟩ (.int .i64 ((p : Int) + 1))) W) : Reader W rb (p + 1) ∧ Else rb w W := by
 have h1 : Agree (fun b => b < rb) w (w.setCell ⟨rb, 1, none⟩ (.int .i64 ((p : Int) + 1))) := (Agree.refl _ _).setCell (by simp) _
 refine ⟨⟨A, n, c, xs, (hb.imp (fun _ h => h) h1 (by go_size)).ext h, hn, hp, ?_⟩, ?_⟩
 · have := (hk.set_ 1 (.int .i64 ((p : Int) + 1))).ext h
   simpa using this
 · exact ⟨h.os, h.tape, h.output, by have := h.size; simpa [World.setCell] using this, fun k hk hne => (h.block k (by simpa [World.setCell] using hk)).trans (Below.heap_setCell _ _ _ _ (fun e => hne (by rw [e])))⟩

theorem ofInt_small (a : Nat) (ha : a < 4611686018427387904) : (BitVec.ofInt 64 (a : Int)).toNat = a := by
 rw [BitVec.ofInt_natCast, BitVec.toNat_ofNat]; exact Nat.mod_eq_of_lt (by omega)
theorem xor_nat (a b : Nat) (ha : a < 4611686018427387904) (hb : b < 4611686018427387904) : bits .xor .i64 (a : Int) (b : Int) = ((a ^^^ b : Nat) : Int) := by
 have hx : a ^^^ b < 2 ^ 62 := Nat.xor_lt_two_pow (by omega) (by omega)
 show IntKind.i64.wrap ((BitVec.ofInt 64 (a : Int) ^^^ BitVec.ofInt 64 (b : Int)).toNat : Int) = _
 rw [BitVec.toNat_xor, ofInt_small a ha, ofInt_small b hb, IntKind.wrap_i64]
 omega

set_option maxRecDepth 100000 in
set_option maxHeartbeats 4000000 in
theorem pick_any (rb p n : Nat) (w : World) (hn : 1 ≤ n ∧ n ≤ 1000000) (hr : Reader w rb p) (hp : p + 1 ≤ 1000000) :
 Calls Tryz.prog 60 #[.pointer (some ⟨rb, 0, none⟩), .int .i64 n] w fun e w' => (∃ z : Nat, z < n ∧ e = .returned (.int .i64 z)) ∧ Reader w' rb (p + 1) ∧ Else rb w w' := by
 obtain ⟨A, m, c, xs, hb, hm, hpp, hk⟩ := hr
 obtain ⟨hn1, hn2⟩ := hn
 have q0 := hk.cell 0
 have q1 := hk.cell 1
 have f0 := hk.frozen 0
 have f1 := hk.frozen 1
 have HB := Lib.hid hb
 have HK := Lib.hid hk
 have HP := Lib.hid hp
 have HM := Lib.hid hm
 clear hb hk
 have g1 : decide ((n : Int) < 1) = false := decide_eq_false (by omega)
 by_cases h0 : m = 0
 · subst h0
   go_enter Tryz.func60, Tryz.ntmps60
   go_wp2
   go_ret
   exact ⟨⟨0, by omega, rfl⟩, reader_post HB.out HM.out HK.out HP.out (Ext.refl _)⟩
 · have g2 : (((m : Nat) : Int) == 0) = false := by rw [beq_eq_false_iff_ne]; omega
   have hm1 : 1 ≤ m := by omega
   by_cases hlt : p < m
   · obtain ⟨b, off, x, rfl, hbb, hxk, hc0⟩ := BytesR.at_ HB.out hlt
     have hbne : b ≠ rb := by
      intro e
      obtain ⟨A', c', hv, _, _, h3⟩ := HB.out
      injection hv with hA hn' _
      obtain ⟨b', off', ha, _, hs, _⟩ := h3 (by omega)
      rw [ha] at hA
      injection hA with hA
      injection hA with hA _
      subst e; rw [hA] at hs; omega
     have hx8 : x.toNat < 256 := x.toNat_lt
     clear hxk h0
     go_enter Tryz.func60, Tryz.ntmps60
     go_wp2
     go_ret
     exact ⟨⟨x.toNat % n, Nat.mod_lt _ (by omega), ret_int (by simp)⟩, reader_post HB.out HM.out HK.out HP.out (Ext.refl _)⟩
   · obtain ⟨b, off, x, rfl, hbb, hxk, hc0⟩ := BytesR.at_ HB.out (k := p % m) (Nat.mod_lt _ (by omega))
     obtain ⟨b', off', y, hbe, hbb', hyk, hd0⟩ := BytesR.at_ HB.out (k := (p * 7 + 3) % m) (Nat.mod_lt _ (by omega))
     injection hbe with hbe
     injection hbe with e1 e2
     subst e1; subst e2
     have hbne : b ≠ rb := by
      intro e
      obtain ⟨A', c', hv, _, _, h3⟩ := HB.out
      injection hv with hA hn' _
      obtain ⟨b', off', ha, _, hs, _⟩ := h3 (by omega)
      rw [ha] at hA
      injection hA with hA
      injection hA with hA _
      subst e; rw [hA] at hs; omega
     have hx8 : x.toNat < 256 := x.toNat_lt
     have hy8 : y.toNat < 256 := y.toNat_lt
     have i10 : (0 : Int) ≤ (p : Int) % (m : Int) := Int.emod_nonneg _ (by omega)
     have i11 : (p : Int) % (m : Int) < (m : Int) := Int.emod_lt_of_pos _ (by omega)
     have i20 : (0 : Int) ≤ ((p : Int) * 7 + 3) % (m : Int) := Int.emod_nonneg _ (by omega)
     have i21 : ((p : Int) * 7 + 3) % (m : Int) < (m : Int) := Int.emod_lt_of_pos _ (by omega)
     have j1 : ((p : Int) % (m : Int)).toNat = p % m := by rw [← Int.natCast_emod, Int.toNat_natCast]
     have j2 : (((p : Int) * 7 + 3) % (m : Int)).toNat = (p * 7 + 3) % m := by
      rw [show ((p : Int) * 7 + 3) = ((p * 7 + 3 : Nat) : Int) from by push_cast; rfl, ← Int.natCast_emod, Int.toNat_natCast]
     have hrl := HK.out.lt
     have g3 : decide (p < m) = false := decide_eq_false hlt
     have hdiv : p / m ≤ p := Nat.div_le_self _ _
     have d0 : (0 : Int) ≤ (p : Int) / (m : Int) := Int.ediv_nonneg (by omega) (by omega)
     have d1 : (p : Int) / (m : Int) ≤ 1000000 := by rw [← Int.natCast_ediv]; omega
     obtain ⟨t, ht, ht2⟩ : ∃ t : Nat, (x.toNat : Int) * 131 + (y.toNat : Int) * 1117 + (p : Int) * 29 + (p : Int) / (m : Int) * 53 = (t : Int) ∧ t < 1000000000 :=
      ⟨x.toNat * 131 + y.toNat * 1117 + p * 29 + p / m * 53, by push_cast; rfl, by omega⟩
     obtain ⟨z, hz, hz2⟩ : ∃ z : Nat, bits .xor .i64 (t : Int) ((t : Int) / 64) = (z : Int) ∧ z < 4611686018427387904 := by
      refine ⟨t ^^^ (t / 64), ?_, ?_⟩
      · rw [show ((t : Int) / 64) = ((t / 64 : Nat) : Int) from by push_cast; rfl]
        exact xor_nat t (t / 64) (by omega) (by omega)
      · have : t ^^^ (t / 64) < 2 ^ 62 := Nat.xor_lt_two_pow (by omega) (by omega)
        omega
     clear hxk hyk h0 hdiv
     go_enter Tryz.func60, Tryz.ntmps60
     go_wp2
     refine calm_region (by kernel_rfl) (by kernel_rfl) ?_
     repeat (go_big_quiet_step (fail))
     refine wpQuiet_nil ?_
     rintro w1 ⟨⟨_, hx1⟩, rfl⟩
     clear hc0 hd0 i10 i11 i20 i21 j1 j2 d0 d1 q0 q1 f0 f1
     go_wp2
     go_ret
     exact ⟨⟨z % n, Nat.mod_lt _ (by omega), ret_int (by simp)⟩, reader_post HB.out HM.out HK.out HP.out hx1⟩

set_option maxRecDepth 100000 in
set_option maxHeartbeats 1000000 in
theorem l1Open_any (v : Value) (xs : List UInt8) (w : World) {S : Nat → Prop} (hv : BytesR S w v xs) :
 Calls Tryz.prog 58 #[v] w fun e w' => ∃ rb, e = .returned (.pointer (some ⟨rb, 0, none⟩)) ∧ Reader w' rb 0 ∧ Ext w w' ∧ w.heap.size ≤ rb := by
 obtain ⟨A, c, rfl, hc1, hc2⟩ := SliceR.form hv
 have HV := Lib.hid hv
 clear hv
 by_cases h : xs.length ≤ 2000
 · go_enter Tryz.func58, Tryz.ntmps58
   go_wp2
   go_ret
   refine ⟨w.heap.size, rfl, ⟨A, xs.length, c, xs, ?_, h, by omega, Blk.new _ _ _⟩, (Ext.refl _).alloc _, Nat.le_refl _⟩
   exact HV.out.aside _
 · go_enter Tryz.func58, Tryz.ntmps58
   go_wp2
   go_ret
   refine ⟨w.heap.size, rfl, ⟨A, 2000, c, xs.take 2000, ?_, Nat.le_refl _, by omega, Blk.new _ _ _⟩, (Ext.refl _).alloc _, Nat.le_refl _⟩
   exact BytesR.aside (S := S) (w := w) (SliceR.take HV.out 2000 (by omega)) _

end Go.Proofs.YtfjdijakgjhieaaGreat

namespace Go.Proofs.YtfjdijakgjhieaaGreat
open Go.RowKit Go.ChangeShapes Go.WideShapes

theorem byte_wf {z : Int} (h : (Lit.int .u8 z).wf = true) : 0 ≤ z ∧ z < 256 := by
 have e1 : IntKind.u8.min = 0 := rfl
 have e2 : IntKind.u8.max = 255 := rfl
 simp [Lit.wf, e1, e2] at h
 omega

section
variable {H : Type} {enc : TypeId × Value → H} {w : World} {base : Nat} {spare : Nat → Bool} {held : Bool} {fuel : Nat} {v : Value} {x : DataW H × List MemPlace}
theorem read_bytes (h : DataW.trod enc Tryz.prog w base spare held fuel 22 [v] = some x) : ∃ xs : List UInt8, BytesR Any w v xs := by
 rcases open_ints Tryz.underlying22 Tryz.underlying5 (by kernel_rfl) h with ⟨hcs, _⟩ | ⟨a, len, cap, zs, hcs, hb, hl, hm, hzl, hx, hc, hwf⟩
 · injection hcs with hv _
   subst hv
   exact ⟨[], SliceR.nil_ 0 (Nat.zero_le _) none⟩
 · injection hcs with hv _
   subst hv
   have hlz : len ≤ zs.length := by rw [hzl]; split <;> omega
   by_cases h0 : 0 < len
   · have h00 := hc 0 (by omega)
     have ha0 : a.add 0 = a := by simp [Addr.add]
     rw [ha0] at h00
     have haa := cell_addr h00
     have hadd : ∀ n, a.add n = ⟨a.block, a.off + n, none⟩ := by
      intro n
      unfold Addr.add
      split
      · rename_i h; subst h; rw [Nat.add_zero]; exact haa
      · rfl
     rw [haa] at h00
     have hln : ((zs.take len).map (fun z => UInt8.ofNat z.toNat)).length = len := by rw [List.length_map, List.length_take]; omega
     refine ⟨(zs.take len).map (fun z => UInt8.ofNat z.toNat), some a, cap, by rw [hln], by rw [hln]; exact hl, hm, fun _ => ⟨a.block, a.off, by rw [← haa], cell_lt h00, trivial, fun i c hi => ?_⟩⟩
     refine ⟨[.int .u8 c.toNat], rfl, fun j u hu => ?_, rfl⟩
     match j, hu with
     | 0, hu =>
       simp at hu; subst hu
       rw [List.getElem?_map, List.getElem?_take] at hi
       split at hi
       · have hiz : i < zs.length := by omega
         rw [List.getElem?_eq_getElem hiz] at hi
         simp at hi
         have hz := byte_wf (hwf _ (List.getElem_mem hiz))
         have h1 := hc i hiz
         rw [hadd, List.getD_eq_getElem?_getD, List.getElem?_eq_getElem hiz] at h1
         rw [← hi, Nat.mul_one, Nat.add_zero, h1, UInt8.toNat_ofNat']
         simp
         omega
       · simp at hi
   · obtain rfl : len = 0 := by omega
     exact ⟨[], SliceR.nil_ cap hm _⟩
end
end Go.Proofs.YtfjdijakgjhieaaGreat

namespace Go.Proofs.YtfjdijakgjhieaaGreat
set_option linter.unusedSimpArgs false
set_option linter.unusedVariables false
open Go.RowKit

/-- What DrawAsk yields: some facts and a short body. -/
def DrawAskC : Prop := ∀ (v : Value) (bs : List UInt8) (w : World) (S : Nat → Prop), BytesR S w v bs →
 Calls Tryz.prog 27 #[v] w fun e w' => (∃ (xs : List GA) (ps : List GP) (v u : Value), e = .returned (.tuple #[v, u]) ∧ AtomsR (From w.heap.size) w' v xs ∧ PartsR (From w.heap.size) w' u ps ∧ ps.length ≤ 6) ∧ Ext w w'

theorem RowsR.ext_ {S : Nat → Prop} {w w' : World} {v : Value} {xs : List (List ByteArray)} (h : RowsR S w v xs) (he : Ext w w') : RowsR S w' v xs := ListK.ext (k := kRow) h he

end Go.Proofs.YtfjdijakgjhieaaGreat

namespace Go.Proofs.YtfjdijakgjhieaaGreat
open Go.RowKit

section
variable {rb : Nat} {a b c : World}
theorem Else.refl (rb : Nat) (w : World) : Else rb w w := ⟨rfl, rfl, rfl, Nat.le_refl _, fun _ _ _ => rfl⟩
theorem Else.of_ext (h : Ext a b) : Else rb a b := ⟨h.os, h.tape, h.output, h.size, fun k hk _ => h.block k hk⟩
theorem Else.trans' (h : Else rb a b) (k : Else rb b c) : Else rb a c :=
 ⟨k.os.trans h.os, k.tape.trans h.tape, k.output.trans h.output, Nat.le_trans h.size k.size, fun i hi hne => (k.block i (Nat.lt_of_lt_of_le hi h.size) hne).trans (h.block i hi hne)⟩
theorem Else.agree (h : Else rb a b) : Agree (fun i => i ≠ rb) a b := fun i hi hb => h.block i hb (fun e => hi (by injection e))
theorem Else.toExt (h : Ext a b) (k : Else rb b c) (hr : a.heap.size ≤ rb) : Ext a c :=
 ⟨k.os.trans h.os, k.tape.trans h.tape, k.output.trans h.output, Nat.le_trans h.size k.size, fun i hi => (k.block i (Nat.lt_of_lt_of_le hi h.size) (fun e => by injection e; omega)).trans (h.block i hi)⟩
theorem Else.cell {g o : Nat} (h : Else rb a b) (hg : g ≠ rb) (hlt : g < a.heap.size) : b.cell? ⟨g, o, none⟩ = a.cell? ⟨g, o, none⟩ := World.cell?_of_block (h.agree g hg hlt)
theorem Else.frozen {g o : Nat} (h : Else rb a b) (hg : g ≠ rb) (hlt : g < a.heap.size) : b.frozen? ⟨g, o, none⟩ = a.frozen? ⟨g, o, none⟩ := World.frozen?_of_block (h.agree g hg hlt)
end
theorem Reader.ext {w w' : World} {rb p : Nat} (h : Reader w rb p) (he : Ext w w') : Reader w' rb p := by
 obtain ⟨A, n, c, xs, h1, h2, h3, h4⟩ := h
 exact ⟨A, n, c, xs, h1.ext he, h2, h3, h4.ext he⟩

theorem Reader.keep {w w' : World} {rb p : Nat} (h : Reader w rb p) (he : Agree (fun b => b ≤ rb) w w') (hsz : w.heap.size ≤ w'.heap.size) : Reader w' rb p := by
 obtain ⟨A, n, c, xs, h1, h2, h3, h4⟩ := h
 exact ⟨A, n, c, xs, h1.imp (fun _ h => h) (fun b hb => he b (Nat.le_of_lt hb)) hsz, h2, h3, (he rb (Nat.le_refl _) h4.lt).trans h4⟩

/-- A reader of which at most m bytes have been asked for. -/
def Rd (w : World) (rb m : Nat) : Prop := ∃ p, p ≤ m ∧ Reader w rb p
theorem Rd.ext {w w' : World} {rb m : Nat} (h : Rd w rb m) (he : Ext w w') : Rd w' rb m := let ⟨p, h1, h2⟩ := h; ⟨p, h1, h2.ext he⟩
theorem Rd.keep {w w' : World} {rb m : Nat} (h : Rd w rb m) (he : Agree (fun b => b ≤ rb) w w') (hsz : w.heap.size ≤ w'.heap.size) : Rd w' rb m := let ⟨p, h1, h2⟩ := h; ⟨p, h1, h2.keep he hsz⟩
theorem Rd.le {w : World} {rb m n : Nat} (h : Rd w rb m) (he : m ≤ n) : Rd w rb n := let ⟨p, h1, h2⟩ := h; ⟨p, Nat.le_trans h1 he, h2⟩
theorem Rd.lt {w : World} {rb m : Nat} (h : Rd w rb m) : rb < w.heap.size := let ⟨_, _, _, _, _, _, _, _, _, h4⟩ := h; h4.lt

theorem rdPick_any (rb m n : Nat) (w : World) (hn : 1 ≤ n ∧ n ≤ 1000000) (hr : Rd w rb m) (hp : m + 1 ≤ 1000000) :
 Calls Tryz.prog 60 #[.pointer (some ⟨rb, 0, none⟩), .int .i64 n] w fun e w' => (∃ z : Nat, z < n ∧ e = .returned (.int .i64 z)) ∧ Rd w' rb (m + 1) ∧ Else rb w w' := by
 obtain ⟨p, h1, h2⟩ := hr
 exact (pick_any rb p n w hn h2 (by omega)).mono fun _ _ ⟨h3, h4, h5⟩ => ⟨h3, ⟨_, by omega, h4⟩, h5⟩

set_option maxHeartbeats 1000000 in
theorem of_any (rb m : Nat) (v : Value) (xs : List ByteArray) (w : World) (hv : StrsR (fun b => b ≠ rb) w v xs) (hn : 1 ≤ xs.length ∧ xs.length ≤ 1000000) (hr : Rd w rb m) (hp : m + 1 ≤ 1000000) :
 Calls Tryz.prog 98 #[.pointer (some ⟨rb, 0, none⟩), v] w fun e w' => (∃ s, s ∈ xs ∧ s.size ≤ maxLen ∧ e = .returned (.string s)) ∧ Rd w' rb (m + 1) ∧ Else rb w w' := by
 obtain ⟨A, c, rfl, hc1, hc2⟩ := SliceR.form hv
 have HV := Lib.hid hv
 have HR := Lib.hid hr
 obtain ⟨hn1, hn2⟩ := hn
 clear hv hr
 go_enter Tryz.func98, Tryz.ntmps98
 go_wp2_with (go_at_call 60; refine (rdPick_any rb m xs.length _ ⟨hn1, hn2⟩ HR.out hp).mono ?_; rintro e w1 ⟨⟨z, hz, rfl⟩, hr1, he1⟩; obtain ⟨b, off, x, rfl, hb, hxk, hxs, hc0⟩ := StrsR.at_ (HV.out.imp (fun _ h => h) he1.agree he1.size) hz; have HX := Lib.hid (List.mem_of_getElem? hxk); have HR1 := Lib.hid hr1; have HE1 := Lib.hid he1; clear hxk hr1 he1)
 go_ret
 exact ⟨⟨x, HX.out, hxs, rfl⟩, HR1.out, HE1.out⟩

/-- Texts laid down one by one. -/
theorem strs_block {w : World} {g : Nat} {t : TypeId} {rb : Nat} (ss : List ByteArray) (hb : Blk w g t (ss.map Value.string).toArray) (hne : g ≠ rb) (hs : ∀ s ∈ ss, s.size ≤ 1000) (hl : ss.length ≤ 1000) :
 StrsR (fun b => b ≠ rb) w (.slice (some ⟨g, 0, none⟩) ss.length ss.length) ss := by
 refine ⟨_, ss.length, rfl, Nat.le_refl _, by unfold maxLen; omega, fun _ => ⟨g, 0, rfl, hb.lt, hne, fun i x hx => ⟨[.string x], rfl, fun j u hu => ?_, rfl, ?_⟩⟩⟩
 · match j, hu with
   | 0, hu =>
     simp at hu; subst hu
     rw [hb.cell]
     simp [hx]
 · have := hs x (List.mem_of_getElem? hx); unfold maxLen; omega

end Go.Proofs.YtfjdijakgjhieaaGreat

namespace Go.Proofs.YtfjdijakgjhieaaGreat
open Go.RowKit

def words : List ByteArray := [⟨#[97]⟩, ⟨#[98]⟩, ⟨#[99]⟩, ⟨#[100]⟩, ⟨#[97]⟩, ⟨#[98]⟩]
def vars5 : List ByteArray := [⟨#[88]⟩, ⟨#[89]⟩, ⟨#[90]⟩, ⟨#[88]⟩, ⟨#[89]⟩]

theorem strs_new {w : World} {rb m : Nat} {t : TypeId} (cs : Array Value) (ss : List ByteArray) (hcs : cs = (ss.map Value.string).toArray) (hr : Rd w rb m) (hs : ∀ s ∈ ss, s.size ≤ 1000) (hl : ss.length ≤ 1000) (n : Nat) (hn : n = ss.length) :
 StrsR (fun b => b ≠ rb) (w.alloc (.cells cs t)) (.slice (some ⟨w.heap.size, 0, none⟩) n n) ss := by
 subst hcs; subst hn
 exact strs_block ss (Blk.new w t _) (by have := hr.lt; omega) hs hl

set_option maxRecDepth 100000 in
set_option maxHeartbeats 1000000 in
theorem l10Word_any (rb m : Nat) (w : World) (hr : Rd w rb m) (hp : m + 1 ≤ 1000000) :
 Calls Tryz.prog 131 #[.pointer (some ⟨rb, 0, none⟩)] w fun e w' => (∃ s : ByteArray, s.size ≤ 8 ∧ e = .returned (.string s)) ∧ Rd w' rb (m + 1) ∧ Else rb w w' := by
 have HR := Lib.hid hr
 clear hr
 go_enter Tryz.func131, Tryz.ntmps131
 go_wp2_with (go_at_call 98; refine (of_any rb m _ words _ (strs_new _ words rfl HR.out (by decide) (by decide) _ rfl) (by decide) (HR.out.ext ((Ext.refl _).alloc _)) hp).mono ?_; rintro e w1 ⟨⟨s, hs, hs2, rfl⟩, hr1, he1⟩)
 go_ret
 exact ⟨⟨s, (show ∀ s ∈ words, s.size ≤ 8 from by decide) s hs, rfl⟩, hr1, (Else.of_ext ((Ext.refl _).alloc _)).trans' he1⟩

set_option maxRecDepth 100000 in
set_option maxHeartbeats 1000000 in
theorem l10Var_any (rb m : Nat) (w : World) (hr : Rd w rb m) (hp : m + 1 ≤ 1000000) :
 Calls Tryz.prog 130 #[.pointer (some ⟨rb, 0, none⟩)] w fun e w' => (∃ s : ByteArray, s.size ≤ 8 ∧ e = .returned (.string s)) ∧ Rd w' rb (m + 1) ∧ Else rb w w' := by
 have HR := Lib.hid hr
 clear hr
 go_enter Tryz.func130, Tryz.ntmps130
 go_wp2_with (go_at_call 98; refine (of_any rb m _ vars5 _ (strs_new _ vars5 rfl HR.out (by decide) (by decide) _ rfl) (by decide) (HR.out.ext ((Ext.refl _).alloc _)) hp).mono ?_; rintro e w1 ⟨⟨s, hs, hs2, rfl⟩, hr1, he1⟩)
 go_ret
 exact ⟨⟨s, (show ∀ s ∈ vars5, s.size ≤ 8 from by decide) s hs, rfl⟩, hr1, (Else.of_ext ((Ext.refl _).alloc _)).trans' he1⟩

set_option maxHeartbeats 1000000 in
theorem l10Args_any (s : ByteArray) (w : World) :
 Calls Tryz.prog 129 #[.string s] w fun e w' => (∃ z : Nat, z ≤ 3 ∧ e = .returned (.int .i64 z)) ∧ w' = w := by
 go_enter Tryz.func129, Tryz.ntmps129
 go_wp2
 all_goals (go_ret; first | exact ⟨⟨2, by omega, rfl⟩, rfl⟩ | exact ⟨⟨0, by omega, rfl⟩, rfl⟩ | exact ⟨⟨3, by omega, rfl⟩, rfl⟩ | exact ⟨⟨1, by omega, rfl⟩, rfl⟩)

end Go.Proofs.YtfjdijakgjhieaaGreat
