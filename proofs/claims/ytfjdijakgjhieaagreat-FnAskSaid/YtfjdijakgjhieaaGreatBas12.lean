/- Part of the texts of a proof: own texts joined in the order of their building; what they say stands at each theorem. -/
import Derived.Test.YtfjdijakgjhieaaGreatBas11
import Derived.Deep.RegionHeld3
import Derived.Test.YtfjdijakgjhieaaGreatBas05
namespace Go.Proofs.YtfjdijakgjhieaaGreat
set_option linter.unusedSimpArgs false
set_option linter.unusedVariables false
open Go.RowKit

theorem heldB_take {xs : List GA} {ps : List GP} {b : LB} {k : Nat} {p : GP} (h : ps[k]? = some p) : heldB xs (ps.take (k + 1)) b = (heldB xs (ps.take k) b && (!p.no || !hasA xs (fillN p.atom b))) := by
 unfold heldB
 rw [all_snoc _ _ k p h]

set_option maxRecDepth 100000 in
set_option maxHeartbeats 2000000 in
theorem l4Without_any (xs : List GA) (ps : List GP) (bs : List LB) (v u z : Value) (w : World) {S T V : Nat → Prop} (hv : AtomsR S w v xs) (hu : PartsR T w u ps) (hz : BindsR V w z bs) (hps : ∀ p ∈ ps, p.atom.args.length ≤ 1000000) (hbl : bs.length ≤ 1000000000000) :
 Calls Tryz.prog 120 #[v, u, z] w fun e w' => (∃ v', e = .returned v' ∧ OwnK kBind w.heap.size 113 (fun b => V b ∧ b < w.heap.size) w' v' (bs.filter (heldB xs ps))) ∧ Ext w w' := by
 obtain ⟨A, c, rfl, hc1, hc2⟩ := SliceR.form hv
 obtain ⟨B, d, rfl, hd1, hd2⟩ := SliceR.form hu
 obtain ⟨D, f, rfl, hf1, hf2⟩ := SliceR.form hz
 have hz' : BindsR (fun b => V b ∧ b < w.heap.size) w (.slice D bs.length f) bs := ListK.low (k := kBind) hz
 obtain ⟨i0, hi0, hz0, hz1, hz2, hz3⟩ : ∃ i0, Tryz.prog.info? 113 = some i0 ∧ i0.zero = some (.agg #[.slice none 0 0, .slice none 0 0]) ∧ i0.size = 2 ∧ (Value.agg #[.slice none 0 0, .slice none 0 0]).cells.size = 2 ∧ i0.bytes = 48 := ⟨_, rfl, rfl, rfl, rfl, rfl⟩
 have HV := Lib.hid hv
 have HU := Lib.hid hu
 have HZ := Lib.hid hz'
 have HPS := Lib.hid hps
 clear hv hu hz hz' hps
 go_enter Tryz.func120, Tryz.ntmps120
 go_wp2
 go_loopw [7, 8] (fun o i wr => ∃ k : Nat, k ≤ bs.length ∧ i = .int .i64 k ∧ Hid (OwnK kBind w.heap.size 113 (fun b => V b ∧ b < w.heap.size) wr o ((bs.take k).filter (heldB xs ps))) ∧ Ext w wr) (fun _ i _ => bs.length - (intOf i).toNat)
 case atStart => exact ⟨0, Nat.zero_le _, rfl, Lib.hid (OwnK.empty rfl (Nat.le_refl _)), (Ext.refl _).alloc _⟩
 case round =>
  obtain ⟨k, hk, rfl, ho, hx⟩ := hrel
  have hk0 : (0 : Int) ≤ (k : Int) := by omega
  by_cases hlt : k < bs.length
  · have hk1 : (k : Int) < (bs.length : Int) := by omega
    obtain ⟨bb, off, bd, x, y, rfl, hbb, hbk, hxs, hys, hok, hq0, hq1⟩ := BindsR.at_ HZ.out hlt
    obtain ⟨X, cx, rfl, hcx1, hcx2⟩ := SliceR.form hxs
    obtain ⟨Y, cy, rfl, hcy1, hcy2⟩ := SliceR.form hys
    have HXS := Lib.hid hxs
    have HYS := Lib.hid hys
    have HOK := Lib.hid hok
    have HBK := Lib.hid hbk
    have HQ0 := Lib.hid hq0
    have HQ1 := Lib.hid hq1
    clear hxs hys hok hbk hq0 hq1
    go_wp2
    go_loopw [9, 10] (fun h j wq => ∃ q : Nat, q ≤ ps.length ∧ j = .int .i64 q ∧ Hid (h = .bool (heldB xs (ps.take q) bd)) ∧ Ext wr wq) (fun _ j _ => ps.length - (intOf j).toNat)
    case atStart => exact ⟨0, Nat.zero_le _, rfl, Lib.hid rfl, Ext.refl _⟩
    case round =>
     obtain ⟨q, hq, rfl, hh, hxq⟩ := hrel
     have hq0 : (0 : Int) ≤ (q : Int) := by omega
     by_cases hlq : q < ps.length
     · have hq1 : (q : Int) < (ps.length : Int) := by omega
       obtain ⟨bp, op, p, vp, rfl, hbp, hpk, hpn, hpt, hp0, hp1, hp2⟩ := PartsR.at_ HU.out hlq
       obtain ⟨G, cg, rfl, hcg1, hcg2⟩ := SliceR.form hpt
       have hxw := Ext.trans' hx hxq
       have r0 := (hxw.cells.1 bp (op + q * 3) hbp).trans hp0
       have r1 := (hxw.cells.1 bp (op + q * 3 + 1) hbp).trans hp1
       have r2 := (hxw.cells.1 bp (op + q * 3 + 2) hbp).trans hp2
       have s0 := (hxw.cells.1 bb (off + k * 2) hbb).trans HQ0.out
       have s1 := (hxw.cells.1 bb (off + k * 2 + 1) hbb).trans HQ1.out
       have HT := Lib.hid (heldB_take (xs := xs) (b := bd) hpk)
       have HPT := Lib.hid hpt
       have HPL := Lib.hid (HPS.out p (List.mem_of_getElem? hpk))
       clear hp0 hp1 hp2 hpk hpt
       cases hhe : heldB xs (ps.take q) bd
       · have hhv := hh.out
         rw [hhe] at hhv
         subst hhv
         have HN := Lib.hid (show heldB xs (ps.take (q + 1)) bd = false from by rw [HT.out, hhe]; rfl)
         clear hhe
         go_wp2_with fail
         go_quiet (fail)
         go_wp2
         go_roundw
         case rel => exact ⟨q + 1, by omega, by go_num, Lib.hid (by rw [HN.out]), hxq.drewN _⟩
         case measure => simp [intOf]; omega
       · have hhv := hh.out
         rw [hhe] at hhv
         subst hhv
         have HT2 := Lib.hid (show heldB xs (ps.take (q + 1)) bd = (!p.no || !hasA xs (fillN p.atom bd)) from by rw [HT.out, hhe]; rfl)
         clear hhe HT
         cases hno : p.no
         · rw [hno] at r0
           have HN := Lib.hid (show heldB xs (ps.take (q + 1)) bd = true from by rw [HT2.out, hno]; rfl)
           clear hno
           go_wp2_with fail
           go_quiet (fail)
           go_wp2
           go_roundw
           case rel => exact ⟨q + 1, by omega, by go_num, Lib.hid (by rw [HN.out]), hxq.drewN _⟩
           case measure => simp [intOf]; omega
         · rw [hno] at r0
           have HN := Lib.hid (show heldB xs (ps.take (q + 1)) bd = !hasA xs (fillN p.atom bd) from by rw [HT2.out, hno]; rfl)
           clear hno
           have HF := Lib.hid (fun (W : World) (hW : Ext wr W) => l4Fill_any p.atom bd _ _ _ W (HPT.out.ext (hxw.trans' hW)) (HXS.out.ext (hxw.trans' hW)) (HYS.out.ext (hxw.trans' hW)) HOK.out HPL.out)
           have HH := Lib.hid (fun (W : World) (hW : Ext wr W) => HV.out.ext (hxw.trans' hW))
           have HSW := Lib.hid (fun (W : World) (hW : Ext wr W) => (show W.cell? ⟨bp, op + q * 3, none⟩ = some (.bool true) ∧ W.cell? ⟨bp, op + q * 3 + 1, none⟩ = some (.string p.atom.n) ∧ W.cell? ⟨bp, op + q * 3 + 2, none⟩ = some (.slice G p.atom.args.length cg) ∧ W.cell? ⟨bb, off + k * 2, none⟩ = some (.slice X bd.ns.length cx) ∧ W.cell? ⟨bb, off + k * 2 + 1, none⟩ = some (.slice Y bd.vs.length cy) from
            ⟨(hW.cells.1 bp _ (Nat.lt_of_lt_of_le hbp hxw.size)).trans r0, (hW.cells.1 bp _ (Nat.lt_of_lt_of_le hbp hxw.size)).trans r1, (hW.cells.1 bp _ (Nat.lt_of_lt_of_le hbp hxw.size)).trans r2, (hW.cells.1 bb _ (Nat.lt_of_lt_of_le hbb hxw.size)).trans s0, (hW.cells.1 bb _ (Nat.lt_of_lt_of_le hbb hxw.size)).trans s1⟩))
           obtain ⟨w4, hw4⟩ : ∃ w4, w4 = wr := ⟨_, rfl⟩
           go_wp2_with fail
           refine wp_region_noPanic ?_
           refine wp_region_held_drew (S := (fun w' => w'.cell? ⟨bp, op + q * 3, none⟩ = some (.bool true) ∧ w'.cell? ⟨bp, op + q * 3 + 1, none⟩ = some (.string p.atom.n) ∧ w'.cell? ⟨bp, op + q * 3 + 2, none⟩ = some (.slice G p.atom.args.length cg) ∧ w'.cell? ⟨bb, off + k * 2, none⟩ = some (.slice X bd.ns.length cx) ∧ w'.cell? ⟨bb, off + k * 2 + 1, none⟩ = some (.slice Y bd.vs.length cy))) (by kernel_rfl) ?_ (fun hHeld => ?_)
           · (try dsimp only); (first | exact HSW.out _ (Ext.refl wr).drew | exact HSW.out _ HX5.out | exact HSW.out _ HX6.out)
           refine tk 0 (v := ?_) rfl ?_ ?_
           rotate_left
           · (intro w hSw; (try dsimp only at hSw); go_simp) <;> with_reducible rfl
           try simp only [Act.put, stz]
           refine tk 1 (v := ?_) rfl ?_ ?_
           rotate_left
           · (intro w hSw; (try dsimp only at hSw); go_simp) <;> with_reducible rfl
           try simp only [Act.put, stz]
           refine tk 2 (v := ?_) rfl ?_ ?_
           rotate_left
           · (intro w hSw; (try dsimp only at hSw); go_simp) <;> with_reducible rfl
           try simp only [Act.put, stz]
           refine tk 3 (v := ?_) rfl ?_ ?_
           rotate_left
           · (intro w hSw; (try dsimp only at hSw); go_simp) <;> with_reducible rfl
           try simp only [Act.put, stz]
           refine tk 4 (v := ?_) rfl ?_ ?_
           rotate_left
           · (intro w hSw; (try dsimp only at hSw); go_simp) <;> with_reducible rfl
           try simp only [Act.put, stz]
           refine tk 5 (v := ?_) rfl ?_ ?_
           rotate_left
           · (intro w hSw; (try dsimp only at hSw); go_simp) <;> with_reducible rfl
           try simp only [Act.put, stz]
           refine tk 6 (v := ?_) rfl ?_ ?_
           rotate_left
           · (intro w hSw; (try dsimp only at hSw); go_simp) <;> with_reducible rfl
           try simp only [Act.put, stz]
           refine tk 7 (v := ?_) rfl ?_ ?_
           rotate_left
           · (intro w hSw; (try dsimp only at hSw); go_simp) <;> with_reducible rfl
           try simp only [Act.put, stz]
           refine tk 8 (v := ?_) rfl ?_ ?_
           rotate_left
           · (intro w hSw; (try dsimp only at hSw); go_simp) <;> with_reducible rfl
           try simp only [Act.put, stz]
           refine tk 9 (v := ?_) rfl ?_ ?_
           rotate_left
           · (intro w hSw; (try dsimp only at hSw); go_simp) <;> with_reducible rfl
           try simp only [Act.put, stz]
           refine tk 10 (v := ?_) rfl ?_ ?_
           rotate_left
           · (intro w hSw; (try dsimp only at hSw); go_simp) <;> with_reducible rfl
           try simp only [Act.put, stz]
           refine tk 11 (v := ?_) rfl ?_ ?_
           rotate_left
           · (intro w hSw; (try dsimp only at hSw); go_simp) <;> with_reducible rfl
           try simp only [Act.put, stz]
           refine tk 12 (v := ?_) rfl ?_ ?_
           rotate_left
           · (intro w hSw; (try dsimp only at hSw); go_simp) <;> with_reducible rfl
           try simp only [Act.put, stz]
           refine tk 13 (v := ?_) rfl ?_ ?_
           rotate_left
           · (intro w hSw; (try dsimp only at hSw); go_simp) <;> with_reducible rfl
           try simp only [Act.put, stz]
           refine tk 14 (v := ?_) rfl ?_ ?_
           rotate_left
           · (intro w hSw; (try dsimp only at hSw); go_simp) <;> with_reducible rfl
           try simp only [Act.put, stz]
           refine tk 15 (v := ?_) rfl ?_ ?_
           rotate_left
           · (intro w hSw; (try dsimp only at hSw); go_simp) <;> with_reducible rfl
           try simp only [Act.put, stz]
           refine tk 16 (v := ?_) rfl ?_ ?_
           rotate_left
           · (intro w hSw; (try dsimp only at hSw); go_simp) <;> with_reducible rfl
           try simp only [Act.put, stz]
           refine tk 17 (v := ?_) rfl ?_ ?_
           rotate_left
           · (intro w hSw; (try dsimp only at hSw); go_simp) <;> with_reducible rfl
           try simp only [Act.put, stz]
           refine tk 18 (v := ?_) rfl ?_ ?_
           rotate_left
           · (intro w hSw; (try dsimp only at hSw); go_simp) <;> with_reducible rfl
           try simp only [Act.put, stz]
           refine wpAnyH_ready (rs := [19]) (by kernel_rfl) (by simp) ?_
           refine AllReadyH.cons (o := _) rfl (fun K hK => ?_) ?_
           · go_simp
             go_at_call 161; refine (HF.out _ (Ext.refl wr).drew).mono ?_; rintro e w5 ⟨⟨v5, rfl, ht5⟩, hx5⟩
             have HX5 := Lib.hid (show Ext wr w5 from (Ext.refl wr).drew.trans' hx5)
             have HT5 := Lib.hid ht5
             obtain ⟨G5, c5, rfl, hg51, hg52⟩ := SliceR.form ht5
             clear ht5
             refine hK.out _ _ ?_ (fun hNew => ?_)
             · (try dsimp only); (first | exact HSW.out _ (Ext.refl wr).drew | exact HSW.out _ HX5.out | exact HSW.out _ HX6.out)
             clear hK K hHeld
             have hHeld := hNew
             clear hNew
             try simp only [Act.put, stz]
             refine wpAnyH_ready (rs := [20]) (by kernel_rfl) (by simp) ?_
             refine AllReadyH.cons (o := _) rfl (fun K hK => ?_) ?_
             · go_simp
               go_at_call 40; refine (l3Has_any _ _ xs (fillN p.atom bd) _ (HH.out _ HX5.out) HT5.out).mono ?_; rintro e w6 ⟨rfl, hx6⟩
               have HX6 := Lib.hid (show Ext wr w6 from HX5.out.trans' hx6)
               refine hK.out _ _ ?_ (fun hNew => ?_)
               · (try dsimp only); (first | exact HSW.out _ (Ext.refl wr).drew | exact HSW.out _ HX5.out | exact HSW.out _ HX6.out)
               clear hK K hHeld
               have hHeld := hNew
               clear hNew
               try simp only [Act.put, stz]
               refine tk 21 (v := ?_) rfl ?_ ?_
               rotate_left
               · (intro w hSw; (try dsimp only at hSw); go_simp) <;> with_reducible rfl
               try simp only [Act.put, stz]
               refine tk 22 (v := ?_) rfl ?_ ?_
               rotate_left
               · (intro w hSw; (try dsimp only at hSw); go_simp) <;> with_reducible rfl
               try simp only [Act.put, stz]
               refine tk 23 (v := ?_) rfl ?_ ?_
               rotate_left
               · (intro w hSw; (try dsimp only at hSw); go_simp) <;> with_reducible rfl
               try simp only [Act.put, stz]
               refine tk 24 (v := ?_) rfl ?_ ?_
               rotate_left
               · (intro w hSw; (try dsimp only at hSw); go_simp) <;> with_reducible rfl
               try simp only [Act.put, stz]
               refine wpAnyH_done (by kernel_rfl) ?_ _
               refine NoPanic.normal ?_
               go_wp2
               go_roundw
               case rel => exact ⟨q + 1, by omega, by go_num, Lib.hid (by rw [HN.out]), hxq.trans' HX6.out⟩
               case measure => simp [intOf]; omega
             exact AllReadyH.nil
           exact AllReadyH.nil
     · have HE := Lib.hid (show ps.take q = ps from List.take_of_length_le (by omega))
       have hhv := hh.out
       rw [HE.out] at hhv
       have hxw := Ext.trans' hx hxq
       have s0 := (hxw.cells.1 bb (off + k * 2) hbb).trans HQ0.out
       have s1 := (hxw.cells.1 bb (off + k * 2 + 1) hbb).trans HQ1.out
       cases hhe : heldB xs ps bd
       · rw [hhe] at hhv; subst hhv
         have HN := Lib.hid (show (bs.take (k + 1)).filter (heldB xs ps) = (bs.take k).filter (heldB xs ps) from by rw [List.take_add_one, HBK.out, List.filter_append]; simp [hhe])
         clear hhe
         go_wp2
         go_roundw
         case rel => exact ⟨k + 1, by omega, by go_num, Lib.hid (by rw [HN.out]; exact ho.out.ext hxq), hxw⟩
         case measure => simp [intOf]; omega
       · rw [hhe] at hhv; subst hhv
         have HN := Lib.hid (show (bs.take (k + 1)).filter (heldB xs ps) = (bs.take k).filter (heldB xs ps) ++ [bd] from by rw [List.take_add_one, HBK.out, List.filter_append]; simp [hhe])
         have hln : ((bs.take k).filter (heldB xs ps)).length ≤ k := Nat.le_trans (List.length_filter_le _ _) (by rw [List.length_take]; omega)
         have hom := ho.out.ext hxq
         obtain ⟨A0, n0, c0, rfl, hn0, ha0, hb0⟩ := hom.form2
         have HO := Lib.hid hom
         clear hhe hom
         go_wp2_with (at_builtin; go_loud (refine wpList_appK (k := kBind) (S := fun b => V b ∧ b < w.heap.size) (T := fun b => V b ∧ b < w.heap.size) (base := w.heap.size) rfl (.tmp 49) (.tmp 54) 109 (by rfl) i0 _ 48 Tryz.underlying109 hi0 hz0 hz1 hz3 hz2 (by rfl) (HO.out.alloc _) _ 1 1 (by rfl) (ElemsK.one (k := kBind) (x := bd) (Blk.new _ _ _) ⟨_, _, rfl, HXS.out.ext (hxw.alloc _), HYS.out.ext (hxw.alloc _), HOK.out⟩) (fun _ hb _ => hb) (fun g hg hT => absurd (HO.out.at_ g hg).1 (Nat.not_le.2 hT.2)) (by unfold maxLen; omega) (by omega) (Nat.le_trans hxw.size (by go_size)) ?_; intro v1 w3 hap))
         go_roundw
         case rel => exact ⟨k + 1, by omega, by go_num, Lib.hid (by rw [HN.out]; exact hap.own), hap.toExt (hxw.alloc _) (Nat.le_refl _)⟩
         case measure => simp [intOf]; omega
  · have HE := Lib.hid (show bs.take k = bs from List.take_of_length_le (by omega))
    have h1 := ho.out
    rw [HE.out] at h1
    go_wp2
    go_ret
    exact ⟨⟨_, rfl, h1⟩, hx⟩

end Go.Proofs.YtfjdijakgjhieaaGreat

namespace Go.Proofs.YtfjdijakgjhieaaGreat
set_option linter.unusedSimpArgs false

theorem foldl_take {α β : Type} (f : β → α → β) (z : β) {l : List α} {k : Nat} {x : α} (h : l[k]? = some x) : (l.take (k + 1)).foldl f z = f ((l.take k).foldl f z) x := by
 rw [List.take_add_one, h, List.foldl_append]; rfl
theorem flat_take {α β : Type} (f : α → List β) {l : List α} {k : Nat} {x : α} (h : l[k]? = some x) : (l.take (k + 1)).flatMap f = (l.take k).flatMap f ++ f x := by
 rw [List.take_add_one, h, List.flatMap_append]; simp
theorem moreOf_take (a : GA) {l : List GA} {b : LB} {k : Nat} {x : GA} (h : l[k]? = some x) : moreOf a (l.take (k + 1)) b = moreOf a (l.take k) b ++ (if (matchN a x b).2 then [(matchN a x b).1] else []) := by
 unfold moreOf
 rw [List.take_add_one, h, List.filterMap_append]
 cases hm : (matchN a x b).2 <;> simp [hm]
theorem matchT_grow (t f : GT) (b : LB) : (matchT t f b).1.ns.length ≤ b.ns.length + 1 := by
 unfold matchT
 split
 · split
   · simp [LB.plus]
   · simp
 · simp
theorem matchL_grow : ∀ (ts fs : List GT) (b : LB), (matchL ts fs b).1.ns.length ≤ b.ns.length + ts.length
 | [], _, b => by simp [matchL]
 | t :: ts, [], b => by simp [matchL]
 | t :: ts, f :: fs, b => by
   have h1 := matchT_grow t f b
   unfold matchL
   split
   · have h2 := matchL_grow ts fs (matchT t f b).1
     simp only [List.length_cons]; omega
   · simp only [List.length_cons]; omega
theorem matchN_grow (a f : GA) (b : LB) : (matchN a f b).1.ns.length ≤ b.ns.length + a.args.length := by
 unfold matchN
 split
 · exact matchL_grow _ _ _
 · simp
theorem allStep_ns (l : List GA) (out : List LB) (p : GP) {n m : Nat} (h : ∀ b ∈ out, b.ns.length ≤ n) (hp : p.atom.args.length ≤ m) : ∀ b ∈ allStep l out p, b.ns.length ≤ n + m := by
 intro b hb
 unfold allStep at hb
 split at hb
 · have := h b hb; omega
 · obtain ⟨b0, h0, h1⟩ := List.mem_flatMap.1 hb
   unfold moreOf at h1
   obtain ⟨f, _, h2⟩ := List.mem_filterMap.1 h1
   split at h2
   · cases h2
     have h3 := matchN_grow p.atom f b0
     have h4 := h b0 h0
     omega
   · cases h2
theorem allFold_ns (l : List GA) {m : Nat} : ∀ (ps : List GP) (out : List LB) (n : Nat), (∀ b ∈ out, b.ns.length ≤ n) → (∀ p ∈ ps, p.atom.args.length ≤ m) → ∀ b ∈ ps.foldl (allStep l) out, b.ns.length ≤ n + ps.length * m
 | [], out, n, h, _ => by simpa using h
 | p :: ps, out, n, h, hp => by
   have h1 := allFold_ns l ps (allStep l out p) (n + m) (allStep_ns l out p h (hp p List.mem_cons_self)) (fun q hq => hp q (List.mem_cons_of_mem _ hq))
   intro b hb
   have h2 := h1 b hb
   have h3 : (ps.length + 1) * m = ps.length * m + m := by rw [Nat.add_mul, Nat.one_mul]
   rw [List.length_cons, h3]; omega
theorem allFold_most (l : List GA) (ps : List GP) (hl : l.length ≤ 900) (hp : ps.length ≤ 4) : (ps.foldl (allStep l) [⟨[], []⟩]).length ≤ 1000000000000 := by
 refine Nat.le_trans (allFold_len l ps [⟨[], []⟩]) ?_
 have h1 : (l.length + 1) ^ ps.length ≤ 901 ^ 4 := Nat.le_trans (Nat.pow_le_pow_left (by omega) _) (Nat.pow_le_pow_right (by omega) hp)
 have h2 : (901 : Nat) ^ 4 ≤ 1000000000000 := by decide
 simp only [List.length_cons, List.length_nil, Nat.zero_add, Nat.one_mul]
 omega

end Go.Proofs.YtfjdijakgjhieaaGreat

namespace Go.Proofs.YtfjdijakgjhieaaGreat
set_option linter.unusedSimpArgs false
set_option linter.unusedVariables false
open Go.RowKit

theorem flat_take_le {α β : Type} (f : α → List β) (l : List α) (k : Nat) : ((l.take k).flatMap f).length ≤ (l.flatMap f).length := by
 conv => rhs; rw [← List.take_append_drop k l, List.flatMap_append, List.length_append]
 exact Nat.le_add_right _ _
theorem more_take_le (a : GA) (l : List GA) (b : LB) (k : Nat) : (moreOf a (l.take k) b).length ≤ (moreOf a l b).length := by
 unfold moreOf
 conv => rhs; rw [← List.take_append_drop k l, List.filterMap_append, List.length_append]
 exact Nat.le_add_right _ _
theorem part_len {a f : GA} {xs : List GA} {out : List LB} {bd : LB} {q r : Nat} (hq : out[q]? = some bd) (hr : xs[r]? = some f) (hm : (matchN a f bd).2 = true) :
 ((out.take q).flatMap (moreOf a xs) ++ moreOf a (xs.take r) bd).length + 1 ≤ (out.flatMap (moreOf a xs)).length := by
 have h1 := flat_take_le (moreOf a xs) out (q + 1)
 rw [flat_take _ hq, List.length_append] at h1
 have h2 := more_take_le a xs bd (r + 1)
 rw [moreOf_take a hr, hm, List.length_append] at h2
 simp only [if_true, List.length_cons, List.length_nil] at h2
 rw [List.length_append]
 omega
/-- A binding that is boxed. -/
structure Boxed (N M : Nat) (wr wf : World) (bx : Nat) (x y : Value) (b : LB) : Prop where
 blk : Blk wf bx 113 #[x, y]
 ext : Ext wr wf
 ns : StrsR (fun i => (N ≤ i ∧ i < M) ∨ wr.heap.size ≤ i) wf x b.ns
 vs : StrsR (fun i => (N ≤ i ∧ i < M) ∨ wr.heap.size ≤ i) wf y b.vs
 ok : b.ok
theorem boxed_one {N M L : Nat} {wr w5 : World} {x y : Value} {b : LB} (hx : Ext wr w5) (hL : L = wr.heap.size) (h1 : StrsR (fun i => (N ≤ i ∧ i < M) ∧ i < L ∨ L ≤ i) w5 x b.ns) (h2 : StrsR (fun i => (N ≤ i ∧ i < M) ∧ i < L ∨ L ≤ i) w5 y b.vs) (h3 : b.ok) :
 Boxed N M wr (w5.alloc (.cells #[x, y] 113)) w5.heap.size x y b :=
 ⟨Blk.new _ _ _, hx.alloc _, (h1.sub (fun i hi => hi.elim (fun h => .inl h.1) (fun h => .inr (hL ▸ h)))).ext ((Ext.refl _).alloc _), (h2.sub (fun i hi => hi.elim (fun h => .inl h.1) (fun h => .inr (hL ▸ h)))).ext ((Ext.refl _).alloc _), h3⟩
theorem boxed_two {N M L : Nat} {wr w5 : World} {x y z0 z1 : Value} {b : LB} (hb : Blk w5 wr.heap.size 113 #[z0, z1]) (hx : Ext wr w5) (hL : L = wr.heap.size + 1) (hM : M ≤ wr.heap.size) (h1 : StrsR (fun i => (N ≤ i ∧ i < M) ∧ i < L ∨ L ≤ i) w5 x b.ns) (h2 : StrsR (fun i => (N ≤ i ∧ i < M) ∧ i < L ∨ L ≤ i) w5 y b.vs) (h3 : b.ok) :
 Boxed N M wr ((w5.setCell ⟨wr.heap.size, 0, none⟩ x).setCell ⟨wr.heap.size, 1, none⟩ y) wr.heap.size x y b := by
 have hA : Agree (fun i => (N ≤ i ∧ i < M) ∧ i < L ∨ L ≤ i) w5 ((w5.setCell ⟨wr.heap.size, 0, none⟩ x).setCell ⟨wr.heap.size, 1, none⟩ y) :=
  ((Agree.refl _ _).setCell (fun h => by rcases h with h | h <;> simp only at h <;> omega) x).setCell (fun h => by rcases h with h | h <;> simp only at h <;> omega) y
 refine ⟨by simpa using (hb.set_ 0 x).set_ 1 y, (hx.setNew (Nat.le_refl _) x).setNew (Nat.le_refl _) y, h1.impL (fun i hi _ => hi.elim (fun h => .inl h.1) (fun h => .inr (by omega))) hA (by go_size), h2.impL (fun i hi _ => hi.elim (fun h => .inl h.1) (fun h => .inr (by omega))) hA (by go_size), h3⟩

set_option maxRecDepth 100000 in
set_option maxHeartbeats 8000000 in
theorem l4All_any (xs : List GA) (ps : List GP) (v u : Value) (w : World) {S T : Nat → Prop} (hv : AtomsR S w v xs) (hu : PartsR T w u ps) (hps : ∀ p ∈ ps, p.atom.args.length ≤ 1000) (hpl : ps.length ≤ 4) (hxl : xs.length ≤ 900) :
 Calls Tryz.prog 88 #[v, u] w fun e w' => (∃ v', e = .returned v' ∧ BindsR (From w.heap.size) w' v' (allN xs ps)) ∧ Ext w w' := by
 obtain ⟨A, c, rfl, hc1, hc2⟩ := SliceR.form hv
 obtain ⟨B, d, rfl, hd1, hd2⟩ := SliceR.form hu
 obtain ⟨i0, hi0, hz0, hz1, hz2, hz3⟩ : ∃ i0, Tryz.prog.info? 113 = some i0 ∧ i0.zero = some (.agg #[.slice none 0 0, .slice none 0 0]) ∧ i0.size = 2 ∧ (Value.agg #[.slice none 0 0, .slice none 0 0]).cells.size = 2 ∧ i0.bytes = 48 := ⟨_, rfl, rfl, rfl, rfl, rfl⟩
 have HV := Lib.hid hv
 have HU := Lib.hid hu
 have HPS := Lib.hid hps
 clear hv hu hps
 go_enter Tryz.func88, Tryz.ntmps88
 go_wp2
 go_loopw [5, 6] (fun o i wr => ∃ k : Nat, k ≤ ps.length ∧ i = .int .i64 k ∧ Hid (OwnK kBind w.heap.size 113 (From w.heap.size) wr o ((ps.take k).foldl (allStep xs) [⟨[], []⟩])) ∧ Ext w wr) (fun _ i _ => ps.length - (intOf i).toNat)
 case atStart => exact ⟨0, Nat.zero_le _, rfl, Lib.hid ⟨[.slice none 0 0, .slice none 0 0], fun _ => False, ⟨rfl, .inr ⟨w.heap.size, 1, #[.slice none 0 0, .slice none 0 0], rfl, Nat.le_refl _, Blk.new w _ _, Nat.le_refl _, by unfold maxLen; omega, rfl, rfl⟩⟩, RowsE.one rfl ⟨_, _, rfl, ListK.nil (k := kStr) 0 (Nat.zero_le _) none, ListK.nil (k := kStr) 0 (Nat.zero_le _) none, rfl⟩, fun _ h => h.elim, fun _ _ h => h⟩, (Ext.refl _).alloc _⟩
 case round =>
  obtain ⟨k, hk, rfl, ho, hx⟩ := hrel
  have hk0 : (0 : Int) ≤ (k : Int) := by omega
  obtain ⟨A0, n0, c0, rfl, hn0, ha0, hb0⟩ := ho.out.form2
  by_cases hlt : k < ps.length
  · have hk1 : (k : Int) < (ps.length : Int) := by omega
    obtain ⟨bp, op, p, vp, rfl, hbp, hpk, hpn, hpt, hp0, hp1, hp2⟩ := PartsR.at_ HU.out hlt
    obtain ⟨G, cg, rfl, hcg1, hcg2⟩ := SliceR.form hpt
    have r0 := (hx.cells.1 bp (op + k * 3) hbp).trans hp0
    have r1 := (hx.cells.1 bp (op + k * 3 + 1) hbp).trans hp1
    have r2 := (hx.cells.1 bp (op + k * 3 + 2) hbp).trans hp2
    have HPT := Lib.hid hpt
    have HPL := Lib.hid (HPS.out p (List.mem_of_getElem? hpk))
    have HPK := Lib.hid hpk
    clear hp0 hp1 hp2 hpk hpt
    cases hno : p.no
    · rw [hno] at r0
      have HN := Lib.hid (show (ps.take (k + 1)).foldl (allStep xs) [⟨[], []⟩] = ((ps.take k).foldl (allStep xs) [⟨[], []⟩]).flatMap (moreOf p.atom xs) from by rw [foldl_take _ _ HPK.out]; unfold allStep; simp [hno])
      have HMO := Lib.hid (show (((ps.take (k + 1)).foldl (allStep xs) [⟨[], []⟩]).length) ≤ 1000000000000 from allFold_most xs _ hxl (by rw [List.length_take]; omega))
      have HNS := Lib.hid (show ∀ b ∈ (ps.take k).foldl (allStep xs) [⟨[], []⟩], b.ns.length ≤ 4000 from fun b hb => Nat.le_trans (allFold_ns xs (m := 1000) _ _ 0 (fun b hb => by simp at hb; subst hb; simp) (fun q hq => HPS.out q (List.mem_of_mem_take hq)) b hb) (by rw [List.length_take]; omega))
      obtain ⟨out, hout⟩ : ∃ out, out = (ps.take k).foldl (allStep xs) [⟨[], []⟩] := ⟨_, rfl⟩
      rw [← hout] at ho hn0 HN HNS
      have HB := Lib.hid (show BindsR (fun b => w.heap.size ≤ b ∧ b < wr.heap.size) wr (.slice A0 n0 c0) out from by rw [hn0.out] at *; exact ListK.low (k := kBind) (ho.out.list (S' := From w.heap.size) (fun _ h => h) (fun _ h => h)))
      have HO0 := Lib.hid hout
      clear hout hno
      obtain rfl := hn0.out
      obtain ⟨N0, hN0⟩ : ∃ N0, N0 = wr.heap.size := ⟨_, rfl⟩
      have hN1 : w.heap.size ≤ N0 := by rw [hN0]; exact hx.size
      rw [← hN0] at HB
      have HN0 := Lib.hid hN0
      clear hN0
      rename World => w0
      go_wp2
      go_loopw [7, 8] (fun o j wq => ∃ q : Nat, q ≤ out.length ∧ j = .int .i64 q ∧ Hid (OwnK kBind N0 113 (From w.heap.size) wq o ((out.take q).flatMap (moreOf p.atom xs))) ∧ Ext w0 wq) (fun _ j _ => out.length - (intOf j).toNat)
      case atStart => exact ⟨0, Nat.zero_le _, rfl, Lib.hid (OwnK.empty rfl (Nat.le_of_eq HN0.out)), (Ext.refl _).alloc _⟩
      case round =>
       obtain ⟨q, hq, rfl, hoq, hxq⟩ := hrel
       obtain ⟨A1, n1, c1, rfl, hn1, ha1, hb1⟩ := hoq.out.form2
       have hq0 : (0 : Int) ≤ (q : Int) := by omega
       by_cases hlq : q < out.length
       · have hlq1 : (q : Int) < (out.length : Int) := by omega
         obtain ⟨bb, off, bd, x, y, rfl, hbb, hbk, hxs, hys, hok, hc0, hc1⟩ := BindsR.at_ HB.out hlq
         obtain ⟨X, cx, rfl, hcx1, hcx2⟩ := SliceR.form hxs
         obtain ⟨Y, cy, rfl, hcy1, hcy2⟩ := SliceR.form hys
         have HXS := Lib.hid hxs
         have HYS := Lib.hid hys
         have HOK := Lib.hid hok
         have HBK := Lib.hid hbk
         have HC0 := Lib.hid hc0
         have HC1 := Lib.hid hc1
         have HNB := Lib.hid (HNS.out bd (List.mem_of_getElem? hbk))
         clear hxs hys hok hbk hc0 hc1
         go_wp2
         go_loopw [7, 9] (fun o j wz => ∃ r : Nat, r ≤ xs.length ∧ j = .int .i64 r ∧ Hid (OwnK kBind N0 113 (From w.heap.size) wz o ((out.take q).flatMap (moreOf p.atom xs) ++ moreOf p.atom (xs.take r) bd)) ∧ Ext w0 wz) (fun _ j _ => xs.length - (intOf j).toNat)
         case atStart => exact ⟨0, Nat.zero_le _, rfl, Lib.hid (by simpa [moreOf] using hoq.out), hxq⟩
         case round =>
          obtain ⟨r, hr, rfl, hor, hxr⟩ := hrel
          obtain ⟨A2, n2, c2, rfl, hn2, ha2, hb2⟩ := hor.out.form2
          have hr0 : (0 : Int) ≤ (r : Int) := by omega
          by_cases hlr : r < xs.length
          · have hlr1 : (r : Int) < (xs.length : Int) := by omega
            obtain ⟨ba, oa, f, vf, rfl, hba, hfk, hfn, hft, hf0, hf1⟩ := AtomsR.at_ HV.out hlr
            obtain ⟨F, cf, rfl, hcf1, hcf2⟩ := SliceR.form hft
            have hxo := hxr
            have hxw := Ext.trans' hx hxo
            have p1 := (hxo.cells.1 bp (op + k * 3 + 1) (Nat.lt_of_lt_of_le hbp hx.size)).trans r1
            have p2 := (hxo.cells.1 bp (op + k * 3 + 2) (Nat.lt_of_lt_of_le hbp hx.size)).trans r2
            have s0 := (hxo.cells.1 bb (off + q * 2) hbb).trans HC0.out
            have s1 := (hxo.cells.1 bb (off + q * 2 + 1) hbb).trans HC1.out
            have t0 := (hxw.cells.1 ba (oa + r * 2) hba).trans hf0
            have t1 := (hxw.cells.1 ba (oa + r * 2 + 1) hba).trans hf1
            have HMA := Lib.hid (fun (W : World) (hW : Ext wr W) => l4Match_any p.atom f bd _ _ _ _ W (HPT.out.ext (hxw.trans' hW)) (hft.ext (hxw.trans' hW)) (HXS.out.ext (hxo.trans' hW)) (HYS.out.ext (hxo.trans' hW)) HOK.out (by have := HNB.out; have := HPL.out; omega))
            have HSW := Lib.hid (fun (W : World) (hW : Ext wr W) => (show W.cell? ⟨bp, op + k * 3 + 1, none⟩ = some (.string p.atom.n) ∧ W.cell? ⟨bp, op + k * 3 + 2, none⟩ = some (.slice G p.atom.args.length cg) ∧ W.cell? ⟨bb, off + q * 2, none⟩ = some (.slice X bd.ns.length cx) ∧ W.cell? ⟨bb, off + q * 2 + 1, none⟩ = some (.slice Y bd.vs.length cy) ∧ W.cell? ⟨ba, oa + r * 2, none⟩ = some (.string f.n) ∧ W.cell? ⟨ba, oa + r * 2 + 1, none⟩ = some (.slice F f.args.length cf) from
             ⟨(hW.cells.1 bp _ (Nat.lt_of_lt_of_le hbp hxw.size)).trans p1, (hW.cells.1 bp _ (Nat.lt_of_lt_of_le hbp hxw.size)).trans p2, (hW.cells.1 bb _ (Nat.lt_of_lt_of_le hbb hxo.size)).trans s0, (hW.cells.1 bb _ (Nat.lt_of_lt_of_le hbb hxo.size)).trans s1, (hW.cells.1 ba _ (Nat.lt_of_lt_of_le hba hxw.size)).trans t0, (hW.cells.1 ba _ (Nat.lt_of_lt_of_le hba hxw.size)).trans t1⟩))
            have HFT := Lib.hid hft
            have HFK := Lib.hid hfk
            clear hft hfk hf0 hf1
            go_wp2_with fail
            go_region_held3 (fun w' => w'.cell? ⟨bp, op + k * 3 + 1, none⟩ = some (.string p.atom.n) ∧ w'.cell? ⟨bp, op + k * 3 + 2, none⟩ = some (.slice G p.atom.args.length cg) ∧ w'.cell? ⟨bb, off + q * 2, none⟩ = some (.slice X bd.ns.length cx) ∧ w'.cell? ⟨bb, off + q * 2 + 1, none⟩ = some (.slice Y bd.vs.length cy) ∧ w'.cell? ⟨ba, oa + r * 2, none⟩ = some (.string f.n) ∧ w'.cell? ⟨ba, oa + r * 2 + 1, none⟩ = some (.slice F f.args.length cf))
             (first | exact HSW.out _ (Ext.refl wr).drew | exact HSW.out _ ((Ext.refl wr).drew.alloc _) | exact HSW.out _ HX5.out | exact HSW.out _ (HX5.out.alloc _) | exact HSW.out _ ((HX5.out.setNew (Nat.le_refl _) _).setNew (Nat.le_refl _) _))
             ((go_at_call 119; refine (HMA.out _ (by first | exact (Ext.refl wr).drew | exact (Ext.refl wr).drew.alloc _)).mono ?_; rintro e w5 ⟨⟨v5, u5, rfl, hv5, hu5, hok5⟩, hx5⟩
               have HX5 := Lib.hid (show Ext wr w5 from (by first | exact (Ext.refl wr).drew.trans' hx5 | exact ((Ext.refl wr).drew.alloc _).trans' hx5))
               obtain ⟨X5, e5, rfl, hx51, hx52⟩ := SliceR.form hv5
               obtain ⟨Y5, g5, rfl, hy51, hy52⟩ := SliceR.form hu5
               have HV5 := Lib.hid hv5
               have HU5 := Lib.hid hu5
               clear hv5 hu5
               try (have hbx := (Blk.new wr 113 #[.slice none 0 0, .slice none 0 0]).drew.ext hx5
                    have j0 := hbx.cell 0
                    have j1 := hbx.cell 1
                    have j2 := hbx.frozen 0
                    have j3 := hbx.frozen 1
                    have hl52 := hbx.lt
                    simp at j0 j1)))
            all_goals
             first
             | have HBO := Lib.hid (boxed_one HX5.out (L := wr.drew.heap.size) rfl HV5.out HU5.out hok5)
             | have HBO := Lib.hid (boxed_two hbx HX5.out (by simp) (by rw [HN0.out]; exact hxo.size) HV5.out HU5.out hok5)
             have u0 := HBO.out.blk.cell 0
             have u1 := HBO.out.blk.cell 1
             have hul := HBO.out.blk.lt
             cases hm : (matchN p.atom f bd).2
             · have HMT := Lib.hid (show moreOf p.atom (xs.take (r + 1)) bd = moreOf p.atom (xs.take r) bd from by rw [moreOf_take p.atom HFK.out, hm]; simp)
               clear hm
               go_wp2
               go_roundw
               case rel => exact ⟨r + 1, by omega, by go_num, Lib.hid (by rw [HMT.out]; exact hor.out.ext HBO.out.ext), hxr.trans' HBO.out.ext⟩
               case measure => simp [intOf]; omega
             · have HMT := Lib.hid (show moreOf p.atom (xs.take (r + 1)) bd = moreOf p.atom (xs.take r) bd ++ [(matchN p.atom f bd).1] from by rw [moreOf_take p.atom HFK.out, hm]; simp)
               have hlen : ((out.take q).flatMap (moreOf p.atom xs) ++ moreOf p.atom (xs.take r) bd).length + 1 ≤ 1000000000000 := Nat.le_trans (part_len HBK.out HFK.out hm) (by rw [← HN.out]; exact HMO.out)
               have HNB0 : N0 ≤ wr.heap.size := by rw [HN0.out]; exact hxo.size
               clear hm
               have HP1 := Lib.hid (show ∀ o, OwnK kBind N0 113 (From w.heap.size) (World.alloc _ o) (.slice A2 n2 c2) ((out.take q).flatMap (moreOf p.atom xs) ++ moreOf p.atom (xs.take r) bd) from fun o => (hor.out.ext HBO.out.ext).alloc o)
               have HP2 := Lib.hid (fun (g : Nat) (hg : g = _) => ElemsK.one (k := kBind) (x := (matchN p.atom f bd).1) (S := fun i => (w.heap.size ≤ i ∧ i < N0) ∨ wr.heap.size ≤ i) (Blk.at_new (t := 113) hg) ⟨_, _, rfl, HBO.out.ns.ext ((Ext.refl _).alloc _), HBO.out.vs.ext ((Ext.refl _).alloc _), HBO.out.ok⟩)
               have HP3 := Lib.hid (show ∀ g, (Value.slice A2 n2 c2).ownBlock = some g → ¬ ((w.heap.size ≤ g ∧ g < N0) ∨ wr.heap.size ≤ g) from fun g hg hT => by have := hor.out.at_ g hg; rcases hT with h | h <;> omega)
               have HP4 := Lib.hid (show ∀ b, ((w.heap.size ≤ b ∧ b < N0) ∨ wr.heap.size ≤ b) → From w.heap.size b from fun b hb => hb.elim (fun h => h.1) (fun h => Nat.le_trans hxw.size h))
               have HP5 := Lib.hid (Nat.le_trans HNB0 HBO.out.ext.size)
               go_wp2_with (at_builtin; go_loud (refine wpList_appK (k := kBind) (S := From w.heap.size) (T := fun i => (w.heap.size ≤ i ∧ i < N0) ∨ wr.heap.size ≤ i) (base := N0) rfl (.tmp 56) (.tmp 58) 109 (by rfl) i0 _ 48 Tryz.underlying109 hi0 hz0 hz1 hz3 hz2 (by rfl) (HP1.out _) _ 1 1 (by rfl) (HP2.out _ (by simp)) (fun b hb _ => HP4.out b hb) HP3.out (by unfold maxLen; omega) (by omega) (Nat.le_trans HP5.out (by go_size)) ?_; intro v1 w3 hap))
               go_roundw
               case rel => exact ⟨r + 1, by omega, by go_num, Lib.hid (by rw [HMT.out, ← List.append_assoc]; exact hap.own), hap.toExt (hxr.trans' (HBO.out.ext.alloc _)) (Nat.le_of_eq HN0.out.symm)⟩
               case measure => simp [intOf]; omega
          · have HE := Lib.hid (show xs.take r = xs from List.take_of_length_le (by omega))
            have HQ := Lib.hid (flat_take (moreOf p.atom xs) HBK.out)
            go_wp2
            go_roundw
            case rel => exact ⟨q + 1, by omega, by go_num, Lib.hid (by rw [HQ.out]; have h := hor.out; rw [HE.out] at h; exact h), hxr⟩
            case measure => simp [intOf]; omega
       · have HE := Lib.hid (show out.take q = out from List.take_of_length_le (by omega))
         have hol := hoq.out
         rw [HE.out, ← HN.out] at hol
         go_wp2
         go_roundw
         case rel => exact ⟨k + 1, by omega, by go_num, Lib.hid (hol.sub hN1 (fun _ h => h)), hx.trans' hxq⟩
         case measure => simp [intOf]; omega
    · rw [hno] at r0
      have HN := Lib.hid (show (ps.take (k + 1)).foldl (allStep xs) [⟨[], []⟩] = (ps.take k).foldl (allStep xs) [⟨[], []⟩] from by rw [foldl_take _ _ HPK.out]; unfold allStep; simp [hno])
      clear hno
      go_wp2
      go_roundw
      case rel => exact ⟨k + 1, by omega, by go_num, Lib.hid (by rw [HN.out]; exact ho.out), hx⟩
      case measure => simp [intOf]; omega
  · have HE := Lib.hid (show ps.take k = ps from List.take_of_length_le (by omega))
    have hol := ho.out
    rw [HE.out] at hol
    have HL := Lib.hid (hol.list (S' := From w.heap.size) (fun _ h => h) (fun _ h => h))
    have HMO := Lib.hid (allFold_most xs ps hxl hpl)
    rw [HE.out] at hn0
    obtain rfl := hn0.out
    clear hol
    go_wp2_with (go_at_call 120; refine (l4Without_any xs ps _ _ _ _ _ (HV.out.ext hx) (HU.out.ext hx) HL.out (fun p hp => Nat.le_trans (HPS.out p hp) (by omega)) HMO.out).mono ?_; rintro e w1 ⟨⟨v1, rfl, ho1⟩, hx1⟩)
    go_ret
    exact ⟨⟨_, rfl, ho1.list (S' := From w.heap.size) (fun _ h => h.1) (fun g hg => Nat.le_trans hx.size hg)⟩, hx.trans' hx1⟩

end Go.Proofs.YtfjdijakgjhieaaGreat
