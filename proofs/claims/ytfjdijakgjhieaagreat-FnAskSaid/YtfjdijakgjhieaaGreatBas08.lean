/- Part of the texts of a proof: own texts joined in the order of their building; what they say stands at each theorem. -/
import Derived.Test.YtfjdijakgjhieaaGreatBas07
import Derived.Test.YtfjdijakgjhieaaGreatBas05
import Derived.Test.YtfjdijakgjhieaaGreatBas03
import Derived.BigQuiet
import Derived.Deep.RegionHeld3
import Derived.Test.YtfjdijakgjhieaaGreatBas02
import Derived.Lib.RowBridge
import Derived.Test.YtfjdijakgjhieaaGreatBas04
import Derived.Laws.StructEq
namespace Go.Proofs.YtfjdijakgjhieaaGreat
set_option linter.unusedSimpArgs false
set_option linter.unusedVariables false
open Go.RowKit

theorem idx_first : ∀ {ns : List ByteArray} {k : Nat} {x : ByteArray}, ns[k]? = some x → (∀ i y, i < k → ns[i]? = some y → y ≠ x) → idxB ns x = some k
 | y :: l, 0, x, h, _ => by
   have : y = x := by simpa using h
   unfold idxB; rw [if_pos this]
 | y :: l, k + 1, x, h, hl => by
   have hx : l[k]? = some x := by simpa using h
   have hne : ¬ y = x := hl 0 y (Nat.succ_pos _) rfl
   unfold idxB
   rw [if_neg hne, idx_first hx (fun i z hi hz => hl (i + 1) z (by omega) (by simpa using hz))]; rfl
theorem idx_never {ns : List ByteArray} {x : ByteArray} (h : ∀ i y, i < ns.length → ns[i]? = some y → y ≠ x) : idxB ns x = none := by
 cases hi : idxB ns x with
 | none => rfl
 | some i => exact absurd rfl (h i x (idxB_lt hi) (idxB_some hi))

set_option maxRecDepth 100000 in
set_option maxHeartbeats 1000000 in
theorem bindGet_any (b : LB) (v u : Value) (x : ByteArray) (w : World) {S T : Nat → Prop} (hv : StrsR S w v b.ns) (hu : StrsR T w u b.vs) (hok : b.ok) :
 Calls Tryz.prog 89 #[.agg #[v, u], .string x] w fun e w' => e = .returned (.tuple #[.string ((b.get x).getD emptyB), .bool (b.get x).isSome]) ∧ Ext w w' := by
 obtain ⟨A, c, rfl, hc1, hc2⟩ := SliceR.form hv
 obtain ⟨B, d, rfl, hd1, hd2⟩ := SliceR.form hu
 have hx0 := (Ext.refl w).alloc (.cells #[.slice A b.ns.length c, .slice B b.vs.length d] 113)
 have HV := Lib.hid (hv.ext hx0)
 have HU := Lib.hid (hu.ext hx0)
 have HB := Lib.hid (Blk.new w 113 #[.slice A b.ns.length c, .slice B b.vs.length d])
 have HX0 := Lib.hid hx0
 have HOK := Lib.hid hok
 clear hv hu hx0 hok
 go_enter Tryz.func89, Tryz.ntmps89
 go_wp2
 go_loopw [6] (fun i wr => ∃ k : Nat, k ≤ b.ns.length ∧ i = .int .i64 k ∧ Hid (∀ i y, i < k → b.ns[i]? = some y → y ≠ x) ∧ Ext (w.alloc (.cells #[.slice A b.ns.length c, .slice B b.vs.length d] 113)) wr) (fun i _ => b.ns.length - (intOf i).toNat)
 case atStart => exact ⟨0, Nat.zero_le _, rfl, Lib.hid (fun i y h => absurd h (Nat.not_lt_zero _)), Ext.refl _⟩
 case round =>
  obtain ⟨k, hk, rfl, hp, hx⟩ := hrel
  have hk0 : (0 : Int) ≤ (k : Int) := by omega
  have hb1 := HB.out.ext hx
  have q0 := hb1.cell 0
  have q1 := hb1.cell 1
  have hl := hb1.lt
  clear hb1
  by_cases hlt : k < b.ns.length
  · have hk1 : (k : Int) < (b.ns.length : Int) := by omega
    have hk3 : k < b.vs.length := by have h := HOK.out; unfold LB.ok at h; omega
    have hk2 : (k : Int) < (b.vs.length : Int) := by omega
    obtain ⟨bb, off, y, rfl, hbb, hyk, hys, hc⟩ := StrsR.at_ (HV.out.ext hx) hlt
    obtain ⟨bc, off2, z, rfl, hbc, hzk, hzs, hc2'⟩ := StrsR.at_ (HU.out.ext hx) (k := k) hk3
    by_cases hyx : y = x
    · subst hyx
      have h3 : (y.toList == y.toList) = true := beq_self_eq_true _
      have HG := Lib.hid (show b.get y = some z from by unfold LB.get; rw [idx_first hyk hp.out]; exact hzk)
      clear hyk hzk hp
      go_wp2
      go_ret2
      rw [HG.out]
      exact ⟨rfl, HX0.out.trans' hx⟩
    · have h3 : (y.toList == x.toList) = false := str_ne' hyx
      have HP := Lib.hid (show ∀ i u, i < k + 1 → b.ns[i]? = some u → u ≠ x from fun i u hi hu => by
       rcases Nat.lt_or_ge i k with h | h
       · exact hp.out i u h hu
       · have e : i = k := by omega
         subst e
         rw [hyk] at hu; injection hu with hu
         exact fun e => hyx (hu.trans e))
      clear hyk hzk hp hyx
      go_wp2
      go_roundw
      case rel => exact ⟨k + 1, by omega, by go_num, HP, hx⟩
      case measure => simp [intOf]; omega
  · have HG := Lib.hid (show b.get x = none from by
      unfold LB.get
      rw [idx_never (fun i y hi hy => hp.out i y (by omega) hy)])
    clear hp
    go_wp2
    go_ret2
    rw [HG.out]
    exact ⟨rfl, HX0.out.trans' hx⟩

end Go.Proofs.YtfjdijakgjhieaaGreat

namespace Go.Proofs.YtfjdijakgjhieaaGreat
set_option linter.unusedSimpArgs false
set_option linter.unusedVariables false
open Go.RowKit

theorem strs_small {S : Nat → Prop} {w : World} {v : Value} {xs : List ByteArray} (h : StrsR S w v xs) : ∀ s ∈ xs, s.size ≤ maxLen := fun s hs => by
 obtain ⟨A, c, rfl, _⟩ := SliceR.form h
 obtain ⟨i, hi⟩ := List.getElem?_of_mem hs
 obtain ⟨b, off, x, _, _, hx, hsz, _⟩ := StrsR.at_ h (k := i) (List.getElem?_eq_some_iff.1 hi).1
 rw [hi] at hx; injection hx with hx
 rw [hx]; exact hsz
theorem get_small {b : LB} (h : ∀ s ∈ b.vs, s.size ≤ maxLen) (x : ByteArray) : ((b.get x).getD emptyB).size ≤ maxLen := by
 cases hg : b.get x with
 | none => exact Nat.zero_le _
 | some u =>
   unfold LB.get at hg
   split at hg
   · exact h u (List.mem_of_getElem? hg)
   · cases hg
theorem fill_small {b : LB} (h : ∀ s ∈ b.vs, s.size ≤ maxLen) {t : GT} (ht : t.n.size ≤ maxLen) : (fillT b t).n.size ≤ maxLen := by
 unfold fillT
 simp only
 split
 · exact get_small h _
 · exact ht

set_option maxRecDepth 100000 in
set_option maxHeartbeats 4000000 in
theorem l4Fill_any (a : GA) (b : LB) (v x y : Value) (w : World) {S V U : Nat → Prop} (hv : TermsR S w v a.args) (hx : StrsR V w x b.ns) (hy : StrsR U w y b.vs) (hok : b.ok) (hn : a.args.length ≤ 1000000) :
 Calls Tryz.prog 161 #[.agg #[.string a.n, v], .agg #[x, y]] w fun e w' => (∃ v', e = .returned (.agg #[.string a.n, v']) ∧ TermsR (From w.heap.size) w' v' (fillN a b).args) ∧ Ext w w' := by
 obtain ⟨A, c, rfl, hc1, hc2⟩ := SliceR.form hv
 obtain ⟨B, d, rfl, hd1, hd2⟩ := SliceR.form hx
 obtain ⟨D, f, rfl, hf1, hf2⟩ := SliceR.form hy
 obtain ⟨i0, hi0, hz0, hz1, hz2⟩ := info_parts term_info
 have HV := Lib.hid hv
 have HG := Lib.hid (fun (s : ByteArray) (W : World) (hW : Ext w W) => bindGet_any b _ _ s W (hx.ext hW) (hy.ext hW) hok)
 have HS := Lib.hid (strs_small hy)
 obtain ⟨n0, hn0⟩ : ∃ n0, n0 = w.heap.size := ⟨_, rfl⟩
 obtain ⟨W0, hW0⟩ : ∃ W0, W0 = (((w.alloc (.cells #[.string a.n, .slice A a.args.length c] 26)).alloc (.cells #[.slice B b.ns.length d, .slice D b.vs.length f] 113)).alloc (.cells #[.string ⟨#[]⟩, .slice none 0 0] 26)).alloc (.cells #[.string a.n, .slice none 0 0] 26) := ⟨_, rfl⟩
 have HB0 := Lib.hid (show Blk W0 w.heap.size 26 #[.string a.n, .slice A a.args.length c] from by rw [hW0]; exact (((Blk.new _ _ _).alloc _).alloc _).alloc _)
 have HB1 := Lib.hid (show Blk W0 (w.heap.size + 1) 113 #[.slice B b.ns.length d, .slice D b.vs.length f] from by rw [hW0]; exact ((Blk.at_new (by simp)).alloc _).alloc _)
 have HB2 := Lib.hid (show Blk W0 (w.heap.size + 1 + 1) 26 #[.string ⟨#[]⟩, .slice none 0 0] from by rw [hW0]; exact (Blk.at_new (by simp)).alloc _)
 have HB3 := Lib.hid (show Blk W0 (w.heap.size + 1 + 1 + 1) 26 #[.string a.n, .slice none 0 0] from by rw [hW0]; exact Blk.at_new (by simp))
 have HE0 := Lib.hid (show Ext w W0 from by rw [hW0]; exact ((((Ext.refl _).alloc _).alloc _).alloc _).alloc _)
 have hz : W0.heap.size = w.heap.size + 1 + 1 + 1 + 1 := by rw [hW0]; simp
 have HW0 := Lib.hid hW0
 have HZ := Lib.hid hz
 clear hv hx hy hok hn0
 go_enter Tryz.func161, Tryz.ntmps161
 go_wp2
 rw [← HW0.out]
 clear hW0 hz
 go_loopw [6] (fun i wr => ∃ (k : Nat) (u : Value), k ≤ a.args.length ∧ i = .int .i64 k ∧ Hid (Blk wr (w.heap.size + 1 + 1 + 1) 26 #[.string a.n, u]) ∧ Hid (OwnK kTerm (w.heap.size + 1 + 1 + 1 + 1) 33 None wr u ((a.args.take k).map (fillT b))) ∧ Hid (Below (w.heap.size + 1 + 1 + 1) W0 wr)) (fun i _ => a.args.length - (intOf i).toNat)
 case atStart => exact ⟨0, _, Nat.zero_le _, rfl, HB3, Lib.hid OwnK.nil, Lib.hid (Below.refl _ _)⟩
 case round =>
  obtain ⟨k, u, hk, rfl, hob, hown, hbel⟩ := hrel
  have hk0 : (0 : Int) ≤ (k : Int) := by omega
  have hbsz := hbel.out.size
  rw [HZ.out] at hbsz
  have hxw : Ext w wr := Below.trans HE0.out (hbel.out.mono (by omega))
  obtain ⟨OA, on, oc, rfl, hon, ho1, ho2⟩ := hown.out.form2
  have hb0 := HB0.out.below hbel.out (by omega)
  have hb1 := HB1.out.below hbel.out (by omega)
  have hb2 := HB2.out.below hbel.out (by omega)
  have q0 := hb0.cell 0
  have q1 := hb0.cell 1
  have o0 := hob.out.cell 0
  have o1 := hob.out.cell 1
  have of1 := hob.out.frozen 1
  have hs0 := hb0.lt
  have hs1 := hb1.lt
  have hs2 := hb2.lt
  have hs3 := hob.out.lt
  have hlk : ((a.args.take k).map (fillT b)).length = k := by rw [List.length_map, List.length_take]; omega
  have HLK := Lib.hid hlk
  clear hlk
  by_cases hlt : k < a.args.length
  · have hk1 : (k : Int) < (a.args.length : Int) := by omega
    obtain ⟨bb, off, t, rfl, hbb, htk, hts, hc0, hc1'⟩ := TermsR.at_ HV.out hlt
    have r0 := (hxw.cells.1 bb (off + k * 2) hbb).trans hc0
    have r1 := (hxw.cells.1 bb (off + k * 2 + 1) hbb).trans hc1'
    have HT := Lib.hid (show (a.args.take (k + 1)).map (fillT b) = (a.args.take k).map (fillT b) ++ [fillT b t] from by
     obtain ⟨hk', rfl⟩ := List.getElem?_eq_some_iff.1 htk
     rw [List.take_succ_eq_append_getElem hk', List.map_append]; rfl)
    have hlb : bb < wr.heap.size := Nat.lt_of_lt_of_le hbb hxw.size
    have HXW := Lib.hid hxw
    have HBA := Lib.hid hb0
    have HBB := Lib.hid hb1
    have HFS := Lib.hid (fill_small HS.out hts)
    clear htk hc0 hc1' hb0 hb1 hb2 hxw
    cases htv : t.v
    · have HFT := Lib.hid (show fillT b t = ⟨false, t.n⟩ from by unfold fillT; rw [htv]; rfl)
      rw [htv] at r0
      clear htv
      go_wp2_with (first
       | (at_builtin; (refine wpList_appL (k := kTerm) (S := None) (T := None) (base := w.heap.size + 1 + 1 + 1 + 1) (xs := (a.args.take k).map (fillT b)) (ys := [fillT b t]) rfl (.tmp 44) (.tmp 46) 24 (by rfl) i0 _ 24 Tryz.underlying24 hi0 hz0 hz1 hz2 (by rfl) (by rfl) (hown.out.ext (by first | exact ((Ext.refl _).alloc _).alloc _ | exact (Ext.refl _).alloc _)) _ 1 1 (by rfl) (ElemsK.one (k := kTerm) (g := wr.heap.size + 1) (x := fillT b t) (l := [.bool false, .string t.n]) (Blk.at_new (by simp)) (by rw [HFT.out]; exact ⟨rfl, hts⟩)) (fun _ h => h.elim) (maxOf (by rw [HLK.out]; omega)) (by rw [HLK.out]; omega) (by go_size) ?_)
          intro v2 w2 hap
          obtain ⟨B2, n2, d2, rfl, hn2, hd21, hd22⟩ := hap.own.form2
          have HAP := Lib.hid hap
          have hob2 := ((hob.out.alloc _).alloc _).below hap.below (by omega)
          have z0 := hob2.cell 0
          have z1 := hob2.cell 1
          have zf := hob2.frozen 1
          have zl := hob2.lt
          have HOB := Lib.hid hob2
          clear hap hob2))
      go_roundw
      case rel =>
       refine ⟨k + 1, _, by omega, by go_num, Lib.hid (by simpa using HOB.out.set_ 1 (.slice B2 n2 d2)), Lib.hid (by rw [HT.out]; exact HAP.out.own.set (p := ⟨_, 1, none⟩) (Nat.lt_succ_self _) (fun h => h) _), Lib.hid ?_⟩
       refine Below.setCell (Below.trans ?_ (HAP.out.below.mono (show w.heap.size + 1 + 1 + 1 ≤ w.heap.size + 1 + 1 + 1 + 1 by omega))) (Nat.le_refl _) _
       exact Below.trans hbel.out (Below.mono (((Ext.refl wr).alloc _).alloc _) (by omega))
      case measure => simp [intOf]; omega
    · obtain ⟨z, hz⟩ : ∃ z, z = (b.get t.n).getD emptyB := ⟨_, rfl⟩
      have HFT := Lib.hid (show fillT b t = ⟨false, z⟩ from by unfold fillT; rw [htv, hz]; rfl)
      have hzs : z.size ≤ maxLen := by have h := HFS.out; rw [HFT.out] at h; exact h
      obtain ⟨zb, hzb⟩ : ∃ q, q = (b.get t.n).isSome := ⟨_, rfl⟩
      have HGT := Lib.hid (fun (W : World) (hW : Ext w W) => show Calls Tryz.prog 89 #[.agg #[.slice B b.ns.length d, .slice D b.vs.length f], .string t.n] W fun e w' => e = .returned (.tuple #[.string z, .bool zb]) ∧ Ext W w' from by rw [hz, hzb]; exact HG.out t.n W hW)
      rw [htv] at r0
      have s10 := HBB.out.cell 0
      have s11 := HBB.out.cell 1
      have H7 := Lib.hid (Blk.new wr 33 #[.bool false, .string t.n])
      clear htv hz hzb
      go_wp2_with (fail)
      have HSW := Lib.hid (fun (W : World) (hW : Ext wr W) => And.intro ((hW.cells.1 (w.heap.size + 1) 0 hs1).trans s10) (And.intro ((hW.cells.1 (w.heap.size + 1) 1 hs1).trans s11) (And.intro ((hW.cells.1 w.heap.size 1 hs0).trans q1) ((hW.cells.1 bb (off + k * 2 + 1) hlb).trans r1))))
      go_region_held3 (fun w' => w'.cell? ⟨w.heap.size + 1, 0, none⟩ = some (.slice B b.ns.length d) ∧ w'.cell? ⟨w.heap.size + 1, 1, none⟩ = some (.slice D b.vs.length f) ∧ w'.cell? ⟨w.heap.size, 1, none⟩ = some (.slice (some ⟨bb, off, none⟩) a.args.length c) ∧ w'.cell? ⟨bb, off + k * 2 + 1, none⟩ = some (.string t.n))
       (first | exact HS5.out | exact HS4.out | exact HSW.out _ (((Ext.refl wr).alloc _).drew))
       ((go_at_call 89; refine (HGT.out _ (HXW.out.trans' (((Ext.refl wr).alloc _).drew))).mono ?_; rintro e w4 ⟨rfl, hx4⟩
         have HX4 := Lib.hid (show Ext wr w4 from (((Ext.refl wr).alloc _).drew).trans' hx4)
         have hb7 := H7.out.drew.ext hx4
         have t0 := hb7.cell 0
         have t1 := hb7.cell 1
         have tf := hb7.frozen 1
         have tl := hb7.lt
         have HB7 := Lib.hid hb7
         have HS4 := Lib.hid (HSW.out w4 HX4.out)
         have HS5 := Lib.hid (And.intro ((World.cell?_setCell_far w4 ⟨wr.heap.size, 1, none⟩ ⟨w.heap.size + 1, 0, none⟩ (.string z) (Nat.ne_of_gt hs1)).trans HS4.out.1) (And.intro ((World.cell?_setCell_far w4 ⟨wr.heap.size, 1, none⟩ ⟨w.heap.size + 1, 1, none⟩ (.string z) (Nat.ne_of_gt hs1)).trans HS4.out.2.1) (And.intro ((World.cell?_setCell_far w4 ⟨wr.heap.size, 1, none⟩ ⟨w.heap.size, 1, none⟩ (.string z) (Nat.ne_of_gt hs0)).trans HS4.out.2.2.1) ((World.cell?_setCell_far w4 ⟨wr.heap.size, 1, none⟩ ⟨bb, off + k * 2 + 1, none⟩ (.string z) (Nat.ne_of_gt hlb)).trans HS4.out.2.2.2))))
         clear hx4 hb7))
      have hob4 := (hob.out.ext HX4.out).far (p := ⟨wr.heap.size, 1, none⟩) (Nat.ne_of_lt hs3) (.string z)
      have y0 := hob4.cell 0
      have y1 := hob4.cell 1
      have yf := hob4.frozen 1
      have yl := hob4.lt
      have hb75 := HB7.out.set_ 1 (.string z)
      have x0 := hb75.cell 0
      have x1 := hb75.cell 1
      have HOW5 := Lib.hid (show OwnK kTerm (w.heap.size + 1 + 1 + 1 + 1) 33 None (w4.setCell ⟨wr.heap.size, 1, none⟩ (.string z)) (.slice OA on oc) ((a.args.take k).map (fillT b)) from
       (hown.out.ext HX4.out).agree ((Agree.refl _ _).setCell (fun h => h) _) (fun g hg => Below.heap_setCell w4 ⟨wr.heap.size, 1, none⟩ _ g (Nat.ne_of_lt (hown.out.at_ g hg).2)) (by go_size))
      clear hob4 hb75 t0 t1 tf o0 o1 of1
      go_wp2_with (first
       | (at_builtin; (refine wpList_appL (k := kTerm) (S := None) (T := None) (base := w.heap.size + 1 + 1 + 1 + 1) (xs := (a.args.take k).map (fillT b)) (ys := [fillT b t]) rfl (.tmp 44) (.tmp 46) 24 (by rfl) i0 _ 24 Tryz.underlying24 hi0 hz0 hz1 hz2 (by rfl) (by rfl) (HOW5.out.alloc _) _ 1 1 (by rfl) (ElemsK.one (k := kTerm) (g := w4.heap.size) (x := fillT b t) (l := [.bool false, .string z]) (Blk.at_new (by simp)) (by rw [HFT.out]; exact ⟨rfl, hzs⟩)) (fun _ h => h.elim) (maxOf (by rw [HLK.out]; omega)) (by rw [HLK.out]; omega) (by go_size) ?_)
          intro v2 w2 hap
          obtain ⟨B2, n2, d2, rfl, hn2, hd21, hd22⟩ := hap.own.form2
          have HAP := Lib.hid hap
          have hob2 := (((hob.out.ext HX4.out).far (p := ⟨wr.heap.size, 1, none⟩) (Nat.ne_of_lt hs3) _).alloc _).below hap.below (by omega)
          have z0 := hob2.cell 0
          have z1 := hob2.cell 1
          have zf := hob2.frozen 1
          have zl := hob2.lt
          have HOB := Lib.hid hob2
          clear hap hob2))
      go_roundw
      case rel =>
       refine ⟨k + 1, _, by omega, by go_num, Lib.hid (by simpa using HOB.out.set_ 1 (.slice B2 n2 d2)), Lib.hid (by rw [HT.out]; exact HAP.out.own.set (p := ⟨_, 1, none⟩) (Nat.lt_succ_self _) (fun h => h) _), Lib.hid ?_⟩
       refine Below.setCell (Below.trans ?_ (HAP.out.below.mono (show w.heap.size + 1 + 1 + 1 ≤ w.heap.size + 1 + 1 + 1 + 1 by omega))) (Nat.le_refl _) _
       exact (((Below.trans hbel.out (Below.mono HX4.out (by omega))).setCell (by show _ ≤ wr.heap.size; omega) _).alloc (by go_size) _)
      case measure => simp [intOf]; omega
  · have HT := Lib.hid (show (a.args.take k).map (fillT b) = (fillN a b).args from by rw [List.take_of_length_le (show a.args.length ≤ k by omega)]; rfl)
    have r0 := hb2.cell 0
    have r1 := hb2.cell 1
    have rf0 := hb2.frozen 0
    have rf1 := hb2.frozen 1
    go_wp2
    refine bodyPost_ret (v := .agg #[.string a.n, .slice OA on oc]) (by simp [results, Tryz.results161, go_sem, r0, r1]) rfl ⟨⟨_, rfl, ?_⟩, ?_⟩
    · have h1 := hown.out.list (S' := From (w.heap.size + 1 + 1 + 1 + 1)) (fun _ h => h.elim) (fun _ h => h)
      rw [HT.out] at h1
      exact TermsR.imp h1 (fromLe (by omega)) (((Agree.refl _ _).setCell (notFrom (by show w.heap.size + 1 + 1 < _; omega)) _).setCell (notFrom (by show w.heap.size + 1 + 1 < _; omega)) _) (by go_size)
    · exact Ext.setNew (a := w) (Ext.setNew hxw (by show _ ≤ w.heap.size + 1 + 1; omega) _) (by show _ ≤ w.heap.size + 1 + 1; omega) _

end Go.Proofs.YtfjdijakgjhieaaGreat

namespace Go.Proofs.YtfjdijakgjhieaaGreat
set_option linter.unusedSimpArgs false
set_option linter.unusedVariables false
open Go.RowKit

theorem termVars_take {ts : List GT} {k : Nat} {t : GT} (h : ts[k]? = some t) : termVars (ts.take (k + 1)) = termVars (ts.take k) ++ (if t.v = true then [t.n] else []) := by
 unfold termVars
 rw [List.take_add_one, h, List.filter_append, List.map_append]
 cases hv : t.v <;> simp [hv]
theorem flatVars_take {ps : List GP} {k : Nat} {p : GP} (h : ps[k]? = some p) : flatVars (ps.take (k + 1)) = flatVars (ps.take k) ++ termVars p.atom.args := by
 unfold flatVars
 rw [List.take_add_one, h, List.flatMap_append]
 simp
theorem termVars_most (ts : List GT) : (termVars ts).length ≤ ts.length := by
 unfold termVars; rw [List.length_map]; exact List.length_filter_le _ _
theorem flatVars_most : ∀ (ps : List GP), (∀ p ∈ ps, p.atom.args.length ≤ 1000) → (flatVars ps).length ≤ 1000 * ps.length
 | [], _ => by simp [flatVars]
 | p :: ps, h => by
   have h1 := flatVars_most ps (fun q hq => h q (List.mem_cons_of_mem _ hq))
   have h2 := termVars_most p.atom.args
   have h3 := h p List.mem_cons_self
   have e : flatVars (p :: ps) = termVars p.atom.args ++ flatVars ps := by simp [flatVars]
   rw [e, List.length_append, List.length_cons]; omega

theorem OwnK.row {base : Nat} {e : TypeId} {S : Nat → Prop} {w : World} {v : Value} {xs : List ByteArray} (h : OwnK kStr base e S w v xs) (hne : xs ≠ []) :
 ∃ g cap, v = .slice (some ⟨g, 0, none⟩) xs.length cap ∧ base ≤ g ∧ g < w.heap.size ∧ xs.length ≤ cap ∧ cap ≤ maxLen ∧ Sort.Holds encStr w g 0 (xs.map fun s => s.data.toList).toArray := by
 have hl : StrsR Any w v xs := h.list (S' := Any) (fun _ _ => trivial) (fun _ _ => trivial)
 obtain ⟨rows, T, h1, h2, _⟩ := h
 rcases h1.2 with ⟨rfl, h0⟩ | ⟨g, cap, cur, rfl, hb, hg, hc1, hc2, hsz, htk⟩
 · exact absurd (List.length_eq_zero_iff.1 h0) hne
 · have hlt : g < w.heap.size := (Array.getElem?_eq_some_iff.1 hg).1
   refine ⟨g, cap, rfl, hb, hlt, hc1, hc2, fun j hj => ⟨?_, by simp [World.frozen?, hg]⟩⟩
   have hj' : j < xs.length := by simpa using hj
   obtain ⟨b, off, x, hA, _, hx, _, hc⟩ := StrsR.at_ hl hj'
   cases hA
   obtain ⟨hj2, rfl⟩ := List.getElem?_eq_some_iff.1 hx
   rw [hc]
   simp [getElem!_pos, hj']
theorem strs_of_holds {B g cap : Nat} {w : World} {cs more : List (List UInt8)} (hH : Sort.Holds encStr w g 0 (cs ++ more).toArray) (hg : B ≤ g ∧ g < w.heap.size) (hc : cs.length ≤ cap ∧ cap ≤ maxLen) (hs : ∀ x ∈ cs.map strOf, x.size ≤ maxLen) :
 StrsR (From B) w (.slice (some ⟨g, 0, none⟩) cs.length cap) (cs.map strOf) := by
 refine ⟨some ⟨g, 0, none⟩, cap, by rw [List.length_map], by rw [List.length_map]; exact hc.1, hc.2, fun _ => ⟨g, 0, rfl, hg.2, hg.1, fun i x hx => ⟨[.string x], rfl, fun j u hu => ?_, rfl, hs x (List.mem_of_getElem? hx)⟩⟩⟩
 have hj : j = 0 := by
  cases j with
  | zero => rfl
  | succ j => simp at hu
 subst hj
 simp only [List.getElem?_cons_zero, Option.some.injEq] at hu
 subst hu
 obtain ⟨hi, rfl⟩ := List.getElem?_eq_some_iff.1 hx
 have hi' : i < cs.length := by simpa using hi
 have h1 := (hH i (by simp; omega)).1
 have e : (cs ++ more).toArray[i]! = cs[i] := by simp [getElem!_pos, List.getElem_append_left hi', show i < cs.length + more.length by omega]
 rw [e] at h1
 rw [show 0 + (i * 1 + 0) = 0 + i by omega, h1, List.getElem_map]
 rfl
theorem ext_putRow {w wr : World} (hx : Ext w wr) {g n : Nat} (hg : w.heap.size ≤ g) (d : Array (List UInt8)) (os : Array Obj) : Ext w (Sort.grow (Sort.putRow encStr (Sort.ahead wr n) g 0 d) os) := by
 refine ⟨hx.os, hx.tape, hx.output, ?_, fun k hk => ?_⟩
 · have := hx.size
   rw [Sort.size_grow, Sort.size_putRow]
   show _ ≤ wr.heap.size + _
   omega
 · have h1 := hx.size
   rw [Sort.heap_grow_old _ _ (by rw [Sort.size_putRow]; show k < wr.heap.size; omega), ← hx.block k hk]
   show ((Sort.ahead wr n).heap.modify g _)[k]? = _
   rw [Array.getElem?_modify, if_neg (by omega)]
   rfl

set_option maxRecDepth 100000 in
set_option maxHeartbeats 4000000 in
theorem bodyVars_any (ps : List GP) (u : Value) (w : World) {S : Nat → Prop} (hu : PartsR S w u ps) (hps : ∀ p ∈ ps, p.atom.args.length ≤ 1000) (hpl : ps.length ≤ 4) :
 Calls Tryz.prog 69 #[u] w fun e w' => (∃ v', e = .returned v' ∧ StrsR (From w.heap.size) w' v' (varsN ps)) ∧ Ext w w' := by
 obtain ⟨B, d, rfl, hd1, hd2⟩ := SliceR.form hu
 obtain ⟨i0, hi0⟩ : ∃ i, Tryz.prog.info? 9 = some i := ⟨_, by rfl⟩
 have hz0 : i0.zero = some (.string ⟨#[]⟩) := by have := hi0; revert this; intro h; cases h; rfl
 have hz1 : i0.size = 1 := by have := hi0; revert this; intro h; cases h; rfl
 have hz2 : i0.bytes = 16 := by have := hi0; revert this; intro h; cases h; rfl
 have HU := Lib.hid hu
 have HPS := Lib.hid hps
 clear hu hps
 go_enter Tryz.func69, Tryz.ntmps69
 go_wp2
 go_loopw [3, 10] (fun o i wr => ∃ k : Nat, k ≤ ps.length ∧ i = .int .i64 k ∧ Hid (OwnK kStr w.heap.size 9 None wr o (flatVars (ps.take k))) ∧ Ext w wr) (fun _ i _ => ps.length - (intOf i).toNat)
 case atStart => exact ⟨0, Nat.zero_le _, rfl, Lib.hid OwnK.nil, Ext.refl _⟩
 case round =>
  obtain ⟨k, hk, rfl, ho, hx⟩ := hrel
  have hk0 : (0 : Int) ≤ (k : Int) := by omega
  by_cases hlt : k < ps.length
  · have hk1 : (k : Int) < (ps.length : Int) := by omega
    obtain ⟨bp, op, p, vp, rfl, hbp, hpk, hpn, hpt, hp0, hp1, hp2⟩ := PartsR.at_ HU.out hlt
    obtain ⟨G, cg, rfl, hcg1, hcg2⟩ := SliceR.form hpt
    have r0 := (hx.cells.1 bp (op + k * 3) hbp).trans hp0
    have r1 := (hx.cells.1 bp (op + k * 3 + 1) hbp).trans hp1
    have r2 := (hx.cells.1 bp (op + k * 3 + 2) hbp).trans hp2
    have HST := Lib.hid (flatVars_take hpk)
    have HPT := Lib.hid hpt
    have HAR := Lib.hid (HPS.out p (List.mem_of_getElem? hpk))
    have HFL := Lib.hid (show (flatVars (ps.take k)).length ≤ 4000 from by
     have h1 := flatVars_most (ps.take k) (fun q hq => HPS.out q (List.mem_of_mem_take hq))
     rw [List.length_take] at h1; omega)
    clear hp0 hp1 hp2 hpk hpt
    go_wp2
    rename World => w0
    go_loopw [3, 18] (fun o i wz => ∃ r : Nat, r ≤ p.atom.args.length ∧ i = .int .i64 r ∧ Hid (OwnK kStr w.heap.size 9 None wz o (flatVars (ps.take k) ++ termVars (p.atom.args.take r))) ∧ Ext w wz) (fun _ i _ => p.atom.args.length - (intOf i).toNat)
    case atStart => exact ⟨0, Nat.zero_le _, rfl, Lib.hid (by rw [show termVars (p.atom.args.take 0) = [] from rfl, List.append_nil]; exact ho.out.alloc _), hx.alloc _⟩
    case round =>
     obtain ⟨r, hr, rfl, hor, hxr⟩ := hrel
     have hr0 : (0 : Int) ≤ (r : Int) := by omega
     by_cases hlr : r < p.atom.args.length
     · have hr1 : (r : Int) < (p.atom.args.length : Int) := by omega
       obtain ⟨bt, ot, t, rfl, hbt, htk, htn, ht0, ht1⟩ := TermsR.at_ (HPT.out.ext hxr) hlr
       have HTV := Lib.hid (termVars_take htk)
       have HLR := Lib.hid (show (flatVars (ps.take k) ++ termVars (p.atom.args.take r)).length ≤ 5000 from by
        have h1 := termVars_most (p.atom.args.take r)
        have h2 := HFL.out
        have h3 := HAR.out
        rw [List.length_take] at h1
        rw [List.length_append]; omega)
       clear htk
       rcases Bool.eq_false_or_eq_true t.v with hv | hv
       · rw [hv] at ht0
         have HT := Lib.hid (show flatVars (ps.take k) ++ termVars (p.atom.args.take (r + 1)) = (flatVars (ps.take k) ++ termVars (p.atom.args.take r)) ++ [t.n] from by rw [HTV.out, if_pos hv, List.append_assoc])
         have HOW := Lib.hid (show ∀ o1 o2, OwnK kStr w.heap.size 9 None ((wr.alloc o1).alloc o2) _ (flatVars (ps.take k) ++ termVars (p.atom.args.take r)) from fun o1 o2 => (hor.out.alloc o1).alloc o2)
         have hw0 : w.heap.size ≤ wr.heap.size := hxr.size
         clear hv HTV
         go_wp2_with (at_builtin; go_loud (refine wpList_appL (k := kStr) (S := None) (T := None) (base := w.heap.size) (xs := flatVars (ps.take k) ++ termVars (p.atom.args.take r)) (ys := [t.n]) rfl (.tmp 24) (.tmp 27) 56 (by rfl) i0 _ 16 Tryz.underlying56 hi0 hz0 hz1 hz2 (by rfl) (by rfl) (HOW.out _ _) _ 1 1 (by rfl) (ElemsK.one (k := kStr) (x := t.n) (l := [.string t.n]) (Blk.at_new (by simp)) ⟨rfl, htn⟩) (fun _ h => h.elim) (maxOf (by have := HLR.out; simp only [List.length_append, List.length_cons, List.length_nil] at this ⊢; omega)) (by have := HLR.out; omega) (by go_size) ?_; intro v6 w6 hap))
         go_roundw
         case rel => exact ⟨r + 1, by omega, by go_num, Lib.hid (by rw [HT.out]; exact hap.own), hap.toExt ((hxr.alloc _).alloc _) (Nat.le_refl _)⟩
         case measure => simp [intOf]; omega
       · rw [hv] at ht0
         have HT := Lib.hid (show flatVars (ps.take k) ++ termVars (p.atom.args.take (r + 1)) = flatVars (ps.take k) ++ termVars (p.atom.args.take r) from by rw [HTV.out, hv]; simp)
         clear hv HTV
         go_wp2
         go_roundw
         case rel => exact ⟨r + 1, by omega, by go_num, Lib.hid (by rw [HT.out]; exact hor.out.alloc _), hxr.alloc _⟩
         case measure => simp [intOf]; omega
     · have HE := Lib.hid (show flatVars (ps.take (k + 1)) = flatVars (ps.take k) ++ termVars (p.atom.args.take r) from by rw [HST.out, List.take_of_length_le (l := p.atom.args) (i := r) (by omega)])
       go_wp2
       go_roundw
       case rel => exact ⟨k + 1, by omega, by go_num, Lib.hid (by rw [HE.out]; exact hor.out), hxr⟩
       case measure => simp [intOf]; omega
  · have HE := Lib.hid (show ps.take k = ps from List.take_of_length_le (by omega))
    have h1 := ho.out
    rw [HE.out] at h1
    have hsm : ∀ x ∈ varsN ps, x.size ≤ maxLen := fun x hx' => strs_small (h1.list (S' := Any) (fun _ _ => trivial) (fun _ _ => trivial)) x (flatVars_mem.2 hx')
    have hlen : (flatVars ps).length ≤ 4000 := by
     have := flatVars_most ps HPS.out; omega
    by_cases hne : flatVars ps = []
    · have hv : varsN ps = [] := by
        apply List.eq_nil_iff_forall_not_mem.2
        intro x hx'
        have := flatVars_mem.2 hx'
        rw [hne] at this; cases this
      rw [hne] at h1
      obtain ⟨A, c, rfl, hc1, hc2⟩ := h1.form
      have HV := Lib.hid hv
      clear h1 hne hv hsm
      go_wp2_with (first | (go_at_call 102; refine (Tryz.slices_Sort_string_none _ _ _).mono ?_; rintro e w1 ⟨rfl, e1⟩; obtain rfl : wr = w1 := e1.symm) | (go_at_call 103; refine (Tryz.slices_Compact_string_empty _ _ _).mono ?_; rintro e w2 ⟨rfl, e2⟩; obtain rfl : wr = w2 := e2.symm) | fail)
      go_ret
      exact ⟨⟨_, rfl, by rw [HV.out]; exact ⟨A, c, rfl, Nat.zero_le _, hc2, fun h => absurd h (Nat.lt_irrefl 0)⟩⟩, hx⟩
    · obtain ⟨g, cap, rfl, hg1, hg2, hc1, hc2, hH⟩ := OwnK.row h1 hne
      obtain ⟨zs, hzs⟩ : ∃ zs, zs = (flatVars ps).map fun s => s.data.toList := ⟨_, rfl⟩
      have hzl : zs.length = (flatVars ps).length := by rw [hzs, List.length_map]
      have hsl : (sortW zs).length = zs.length := List.length_mergeSort zs
      rw [← hzs] at hH
      have HSO := Lib.hid (Tryz.slices_Sort_string g 0 cap zs wr hH hg2 (by omega))
      have HW1 := Lib.hid (fun (q : Nat) (os : Array Obj) => show Sort.Holds encStr (Sort.grow (Sort.putRow encStr (Sort.ahead wr q) g 0 (sortW zs).toArray) os) g 0 (sortW zs).toArray from
       Sort.holds_grow _ _ _ _ _ _ (by rw [Sort.size_putRow]; exact hg2) (Sort.holds_putRow _ _ _ _ zs.toArray _ (Sort.holds_ahead _ _ _ _ _ _ hH) (by simp [hsl])))
      have HCO := Lib.hid (fun (W : World) (hW : Sort.Holds encStr W g 0 (sortW zs).toArray) => Tryz.slices_Compact_string g 0 cap (sortW zs) W hW (by omega) (by omega))
      have HX1 := Lib.hid (fun (q : Nat) (os : Array Obj) => ext_putRow (n := q) hx hg1 (sortW zs).toArray os)
      rw [hsl, hzl] at HCO
      rw [hzl] at HSO
      have HCV := Lib.hid (show (Lib.compact (sortW zs)).map strOf = varsN ps from by rw [hzs]; exact compact_vars ps)
      have HCL := Lib.hid (Lib.compact_length_le (sortW zs))
      have HZ := Lib.hid (show (sortW zs).length ≤ cap ∧ (sortW zs).length = (flatVars ps).length from ⟨by omega, by omega⟩)
      have HSM := Lib.hid hsm
      have HG := Lib.hid hg2
      clear h1 hne hsm hH hzs hzl hsl
      go_wp2_with (first | (go_at_call 102; refine HSO.out.mono ?_; rintro e w1 ⟨rfl, q1, os1, e1⟩; have HE1 := Lib.hid e1; clear e1; have HH1 := Lib.hid (HE1.out ▸ HW1.out q1 os1)) | (go_at_call 103; refine (HCO.out _ HH1.out).mono ?_; rintro e w2 ⟨rfl, q2, e2⟩; have HE2 := Lib.hid e2; clear e2) | fail)
      go_ret
      have hx1 : Ext w w1 := by rw [HE1.out]; exact HX1.out q1 os1
      have hx2 : Ext w w2 := by
       have := ext_putRow (n := q2) hx1 hg1 (Lib.compact (sortW zs) ++ List.replicate ((flatVars ps).length - (Lib.compact (sortW zs)).length) []).toArray #[]
       rw [Sort.grow_empty] at this
       rw [HE2.out]; exact this
      have hgw : g < w2.heap.size := by
       rw [HE2.out, Sort.size_putRow]
       show g < w1.heap.size
       rw [HE1.out, Sort.size_grow, Sort.size_putRow]
       have := HG.out
       show g < wr.heap.size + _
       omega
      have hh2 : Sort.Holds encStr w2 g 0 (Lib.compact (sortW zs) ++ List.replicate ((flatVars ps).length - (Lib.compact (sortW zs)).length) []).toArray := by
       rw [HE2.out]
       refine Sort.holds_putRow _ _ _ _ (sortW zs).toArray _ (Sort.holds_ahead _ _ _ _ _ _ HH1.out) ?_
       have h1 := HCL.out
       have h2 := HZ.out.2
       simp; omega
      refine ⟨⟨_, rfl, ?_⟩, hx2⟩
      rw [← HCV.out]
      exact strs_of_holds hh2 ⟨hg1, hgw⟩ ⟨Nat.le_trans HCL.out HZ.out.1, hc2⟩ (by rw [HCV.out]; exact HSM.out)

end Go.Proofs.YtfjdijakgjhieaaGreat

namespace Go.Proofs.YtfjdijakgjhieaaGreat
open Go.RowKit

def isT (x y : GT) : Bool := decide (y.v = x.v ∧ y.n = x.n)
def hasT (xs : List GT) (x : GT) : Bool := xs.any (isT x)
def notT (x y : GT) : Bool := !isT x y
theorem hasT_not (xs : List GT) (x : GT) : hasT xs x = !xs.all (notT x) := by
 unfold hasT notT
 induction xs with
 | nil => rfl
 | cons y xs ih => rw [List.any_cons, List.all_cons, ih]; cases isT x y <;> rfl

theorem isT_eq (x y : GT) : isT x y = ((x.v == y.v) && (x.n.toList == y.n.toList)) := by
 unfold isT
 cases h : x.v == y.v
 · have : ¬ y.v = x.v := fun e => by rw [e] at h; simp at h
   simp [this]
 · have e : y.v = x.v := (eq_of_beq h).symm
   by_cases h2 : y.n = x.n
   · simp [e, h2]
   · have : (x.n.toList == y.n.toList) = false := str_ne' (fun e => h2 e.symm)
     simp [this, h2]
theorem eq_term (x y : GT) (w : World) : (binOp .eql 33 (.agg #[.bool x.v, .string x.n]) (.agg #[.bool y.v, .string y.n])).run Tryz.prog w = .ok (.bool (isT x y)) w := by
 rw [isT_eq]
 have hu : Tryz.prog.underlying 33 = some (.struct (Tryz.prog.fieldsOf 33)) := by kernel_rfl
 rw [run_eql_struct, run_equalIn_struct _ 9999 _ _ _ hu (by kernel_rfl)]
 simp [Program.fieldsOf, Tryz.underlying33, Op.eqFields, go_sem]
 by_cases h1 : x.v = y.v <;> by_cases h2 : x.n.toList = y.n.toList <;> simp [h1, h2]
theorem guard_term (x y : GT) (p q : Operand) (w : World) : (eqGuard .eql 33 p q (.agg #[.bool x.v, .string x.n]) (.agg #[.bool y.v, .string y.n])).run Tryz.prog w = .ok () w := run_eqGuard_agg _ _ _ _ _ _ _ (by kernel_rfl)

set_option maxRecDepth 100000 in
set_option maxHeartbeats 1000000 in
theorem indexTerm_any (v : Value) (xs : List GT) (x : GT) (w : World) {S : Nat → Prop} (hv : TermsR S w v xs) :
 Calls Tryz.prog 195 #[v, .agg #[.bool x.v, .string x.n]] w fun e w' => (∃ z : Int, e = .returned (.int .i64 z) ∧ (xs.all (notT x) = true → z < 0) ∧ (xs.all (notT x) = false → 0 ≤ z)) ∧ Ext w w' := by
 obtain ⟨A, c, rfl, hc1, hc2⟩ := SliceR.form hv
 have HV := Lib.hid (hv.ext ((Ext.refl w).alloc (.cells #[.bool x.v, .string x.n] 33)))
 have HB := Lib.hid (Blk.new w 33 #[.bool x.v, .string x.n])
 clear hv
 go_enter Tryz.func195, Tryz.ntmps195
 go_wp2
 go_loopw [8] (fun i wr => ∃ k : Nat, k ≤ xs.length ∧ i = .int .i64 k ∧ Hid ((xs.take k).all (notT x) = true) ∧ Ext (w.alloc (.cells #[.bool x.v, .string x.n] 33)) wr) (fun i _ => xs.length - (intOf i).toNat)
 case atStart => exact ⟨0, Nat.zero_le _, rfl, rfl, Ext.refl _⟩
 case round =>
  obtain ⟨k, hk, rfl, hp, hx⟩ := hrel
  by_cases hlt : k < xs.length
  · obtain ⟨b, off, y, rfl, hb, hxk, hxs, hc0, hc1⟩ := TermsR.at_ (HV.out.ext hx) hlt
    have hb1 := HB.out.ext hx
    have q0 := hb1.cell 0
    have q1 := hb1.cell 1
    have hk0 : (0 : Int) ≤ (k : Int) := Int.natCast_nonneg _
    have hk1 : (k : Int) < (xs.length : Int) := by omega
    clear hb1
    have he := eq_term x y
    have hg := guard_term x y
    have HK := Lib.hid hxk
    clear hxk
    cases ht : isT x y
    · have HP := Lib.hid (show (xs.take (k + 1)).all (notT x) = true from by rw [all_snoc _ _ k y HK.out, hp.out]; unfold notT; rw [ht]; rfl)
      rw [ht] at he
      clear ht
      go_wp2_with fail
      go_quiet (fail)
      go_wp2
      go_roundw
      case rel => exact ⟨k + 1, by omega, by go_num, HP, hx.drewN _⟩
      case measure => simp [intOf]; omega
    · have HZ := Lib.hid (all_false (notT x) _ k y HK.out (by unfold notT; rw [ht]; rfl))
      rw [ht] at he
      clear ht
      go_wp2_with fail
      go_quiet (fail)
      go_wp2
      go_ret
      exact ⟨⟨k, rfl, fun h => (by rw [HZ.out] at h; cases h), fun _ => Int.natCast_nonneg _⟩, ((Ext.refl _).alloc _).trans' (hx.drewN _)⟩
  · have HZ := Lib.hid (all_whole _ _ k hlt hp.out)
    go_wp2
    go_ret
    exact ⟨⟨-1, rfl, fun _ => by decide, fun h => (by rw [HZ.out] at h; cases h)⟩, ((Ext.refl _).alloc _).trans' hx⟩

set_option maxHeartbeats 1000000 in
theorem containsTerm_any (v : Value) (xs : List GT) (x : GT) (w : World) {S : Nat → Prop} (hv : TermsR S w v xs) :
 Calls Tryz.prog 177 #[v, .agg #[.bool x.v, .string x.n]] w fun e w' => e = .returned (.bool (hasT xs x)) ∧ Ext w w' := by
 obtain ⟨A, c, rfl, hc1, hc2⟩ := SliceR.form hv
 have HV := Lib.hid (hv.ext ((Ext.refl w).alloc (.cells #[.bool x.v, .string x.n] 33)))
 rw [hasT_not]
 clear hv
 cases ha : xs.all (notT x)
 · have HA := Lib.hid ha
   clear ha
   go_enter Tryz.func177, Tryz.ntmps177
   go_wp2_with (go_at_call 195; refine (indexTerm_any _ xs x _ HV.out).mono ?_; rintro e w1 ⟨⟨z, rfl, h1, h2⟩, hx1⟩; have hz := h2 HA.out; clear h1 h2)
   go_ret
   exact ⟨ret_bool (by first | (simp; done) | (simp; omega)), ((Ext.refl _).alloc _).trans' hx1⟩
 · have HA := Lib.hid ha
   clear ha
   go_enter Tryz.func177, Tryz.ntmps177
   go_wp2_with (go_at_call 195; refine (indexTerm_any _ xs x _ HV.out).mono ?_; rintro e w1 ⟨⟨z, rfl, h1, h2⟩, hx1⟩; have hz := h1 HA.out; clear h1 h2)
   go_ret
   exact ⟨ret_bool (by first | (simp; done) | (simp; omega)), ((Ext.refl _).alloc _).trans' hx1⟩

theorem has_var (xs : List GT) (x : ByteArray) : hasT xs ⟨true, x⟩ = memS x ((xs.filter (·.v)).map (·.n)) := by
 unfold hasT memS
 induction xs with
 | nil => rfl
 | cons y xs ih =>
   rw [List.any_cons, ih, List.filter_cons]
   obtain ⟨b, n⟩ := y
   cases b
   · simp [isT]
   · simp [isT]

def boundP (x : ByteArray) (p : GP) : Bool := !p.no && memS x (varsOf p.atom)
def freeP (x : ByteArray) (p : GP) : Bool := !boundP x p
theorem bound_free (body : List GP) (x : ByteArray) : boundIn body x = !body.all (freeP x) := by
 unfold boundIn freeP
 induction body with
 | nil => rfl
 | cons y xs ih => rw [List.any_cons, List.all_cons, ih, show (!y.no && memS x (varsOf y.atom)) = boundP x y from rfl]; cases boundP x y <;> rfl

set_option maxRecDepth 100000 in
set_option maxHeartbeats 1000000 in
theorem isBound_any (v : Value) (body : List GP) (x : ByteArray) (w : World) {S : Nat → Prop} (hv : PartsR S w v body) :
 Calls Tryz.prog 144 #[v, .string x] w fun e w' => e = .returned (.bool (boundIn body x)) ∧ Ext w w' := by
 obtain ⟨A, c, rfl, hc1, hc2⟩ := SliceR.form hv
 have HV := Lib.hid hv
 clear hv
 rw [bound_free]
 go_enter Tryz.func144, Tryz.ntmps144
 go_wp2
 go_loopw [9] (fun i wr => ∃ k : Nat, k ≤ body.length ∧ i = .int .i64 k ∧ Hid ((body.take k).all (freeP x) = true) ∧ Ext w wr) (fun i _ => body.length - (intOf i).toNat)
 case atStart => exact ⟨0, Nat.zero_le _, rfl, rfl, Ext.refl _⟩
 case round =>
  obtain ⟨k, hk, rfl, hp, hx⟩ := hrel
  by_cases hlt : k < body.length
  · obtain ⟨b, off, y, z, rfl, hb, hxk, hxs, htx, p0, p1, p2⟩ := PartsR.at_ (HV.out.ext hx) hlt
    obtain ⟨C, e, rfl, he1, he2⟩ := SliceR.form htx
    have HK := Lib.hid hxk
    have HW := Lib.hid (containsTerm_any _ y.atom.args ⟨true, x⟩ _ (htx.ext ((Ext.refl wr).alloc (.cells #[.bool y.no, .string y.atom.n, .slice C y.atom.args.length e] 37))))
    clear hxk htx
    cases hno : y.no
    · cases hm : memS x (varsOf y.atom)
      · have hw := (bool_ways HW.out).2 (by rw [has_var]; exact hm)
        have HP := Lib.hid (show (body.take (k + 1)).all (freeP x) = true from by rw [all_snoc _ _ k y HK.out, hp.out]; unfold freeP boundP; rw [hno, hm]; rfl)
        rw [hno] at p0 hw
        have HW1 := Lib.hid hw
        clear hw HW
        go_wp2_with (go_at_call 177; refine HW1.out.mono ?_; rintro e w1 ⟨rfl, hx1⟩)
        go_roundw
        case rel => exact ⟨k + 1, by omega, by go_num, HP, (hx.alloc _).trans' hx1⟩
        case measure => simp [intOf]; omega
      · have hw := (bool_ways HW.out).1 (by rw [has_var]; exact hm)
        have HZ := Lib.hid (all_false (freeP x) _ k y HK.out (by unfold freeP boundP; rw [hno, hm]; rfl))
        rw [hno] at p0 hw
        have HW1 := Lib.hid hw
        clear hw HW
        go_wp2_with (go_at_call 177; refine HW1.out.mono ?_; rintro e w1 ⟨rfl, hx1⟩)
        go_ret
        exact ⟨by rw [HZ.out]; rfl, (hx.alloc _).trans' hx1⟩
    · have HP := Lib.hid (show (body.take (k + 1)).all (freeP x) = true from by rw [all_snoc _ _ k y HK.out, hp.out]; unfold freeP boundP; rw [hno]; rfl)
      rw [hno] at p0
      clear HW
      go_wp2
      go_roundw
      case rel => exact ⟨k + 1, by omega, by go_num, HP, hx.alloc _⟩
      case measure => simp [intOf]; omega
  · have HZ := Lib.hid (all_whole _ _ k hlt hp.out)
    go_wp2
    go_ret
    exact ⟨by rw [HZ.out]; rfl, hx⟩

def tightT (body : List GP) (t : GT) : Bool := !t.v || boundIn body t.n
theorem all_vars (body : List GP) (a : GA) : (varsOf a).all (boundIn body) = a.args.all (tightT body) := by
 unfold varsOf tightT
 induction a.args with
 | nil => rfl
 | cons y xs ih =>
   rw [List.all_cons, ← ih, List.filter_cons]
   cases y.v <;> simp

@[go_sem] theorem as_wv (v : Value) (w : World) : (Instr.typeAssert (.iface 214 v) 178 175 true).run Tryz.prog w = .ok (.tuple #[.string ⟨#[]⟩, .bool false]) w := by kernel_rfl
theorem kindOf_ways (s : ByteArray) (w : World) :
 (Calls Tryz.prog 143 #[.agg #[.bool false, .string s]] w fun e w' => e = .returned (.iface 214 (.string s)) ∧ Ext w w') ∧ (Calls Tryz.prog 143 #[.agg #[.bool true, .string s]] w fun e w' => e = .returned (.iface 175 (.string s)) ∧ Ext w w') :=
 ⟨kindOf_any ⟨false, s⟩ w, kindOf_any ⟨true, s⟩ w⟩

set_option maxRecDepth 100000 in
set_option maxHeartbeats 1000000 in
theorem allBound_any (v u : Value) (body : List GP) (a : GA) (w : World) {S T : Nat → Prop} (hv : PartsR S w v body) (hu : TermsR T w u a.args) :
 Calls Tryz.prog 110 #[v, .agg #[.string a.n, u]] w fun e w' => e = .returned (.bool ((varsOf a).all (boundIn body))) ∧ Ext w w' := by
 obtain ⟨A, c, rfl, hc1, hc2⟩ := SliceR.form hv
 obtain ⟨B, d, rfl, hd1, hd2⟩ := SliceR.form hu
 have HV := Lib.hid (hv.ext ((Ext.refl w).alloc (.cells #[.string a.n, .slice B a.args.length d] 26)))
 have HU := Lib.hid (hu.ext ((Ext.refl w).alloc (.cells #[.string a.n, .slice B a.args.length d] 26)))
 clear hv hu
 rw [all_vars]
 go_enter Tryz.func110, Tryz.ntmps110
 go_wp2
 go_loopw [12] (fun i wr => ∃ k : Nat, k ≤ a.args.length ∧ i = .int .i64 k ∧ Hid ((a.args.take k).all (tightT body) = true) ∧ Ext (w.alloc (.cells #[.string a.n, .slice B a.args.length d] 26)) wr) (fun i _ => a.args.length - (intOf i).toNat)
 case atStart => exact ⟨0, Nat.zero_le _, rfl, rfl, Ext.refl _⟩
 case round =>
  obtain ⟨k, hk, rfl, hp, hx⟩ := hrel
  by_cases hlt : k < a.args.length
  · obtain ⟨b, off, y, rfl, hb, hxk, hxs, p0, p1⟩ := TermsR.at_ (HU.out.ext hx) hlt
    have HK := Lib.hid hxk
    clear hxk
    cases hv : y.v
    · have HP := Lib.hid (show (a.args.take (k + 1)).all (tightT body) = true from by rw [all_snoc _ _ k y HK.out, hp.out]; unfold tightT; rw [hv]; rfl)
      rw [hv] at p0
      go_wp2_with (go_at_call 143; refine (kindOf_ways y.n _).1.mono ?_; rintro e w1 ⟨rfl, hx1⟩)
      go_roundw
      case rel => exact ⟨k + 1, by omega, by go_num, HP, (hx.alloc _).trans' hx1⟩
      case measure => simp [intOf]; omega
    · rw [hv] at p0
      have HB := Lib.hid (fun W (hW : Ext wr W) => bool_ways (isBound_any _ body y.n W ((HV.out.ext hx).ext hW)))
      cases hm : boundIn body y.n
      · have HZ := Lib.hid (all_false (tightT body) _ k y HK.out (by unfold tightT; rw [hv, hm]; rfl))
        have HM := Lib.hid hm
        clear hv hm
        go_wp2_with (first
         | (go_at_call 143; refine (kindOf_ways y.n _).2.mono ?_; rintro e w1 ⟨rfl, hx1⟩; have HX1 := Lib.hid (((Ext.refl wr).alloc _).trans' hx1); clear hx1)
         | (go_at_call 145; refine (variableText_any y.n _).mono ?_; rintro e w2 ⟨rfl, rfl⟩)
         | (go_at_call 144; refine ((HB.out _ HX1.out).2 HM.out).mono ?_; rintro e w3 ⟨rfl, hx3⟩))
        go_ret
        exact ⟨by rw [HZ.out]; rfl, ((Ext.refl _).alloc _).trans' ((hx.trans' HX1.out).trans' hx3)⟩
      · have HP := Lib.hid (show (a.args.take (k + 1)).all (tightT body) = true from by rw [all_snoc _ _ k y HK.out, hp.out]; unfold tightT; rw [hv, hm]; rfl)
        have HM := Lib.hid hm
        clear hv hm
        go_wp2_with (first
         | (go_at_call 143; refine (kindOf_ways y.n _).2.mono ?_; rintro e w1 ⟨rfl, hx1⟩; have HX1 := Lib.hid (((Ext.refl wr).alloc _).trans' hx1); clear hx1)
         | (go_at_call 145; refine (variableText_any y.n _).mono ?_; rintro e w2 ⟨rfl, rfl⟩)
         | (go_at_call 144; refine ((HB.out _ HX1.out).1 HM.out).mono ?_; rintro e w3 ⟨rfl, hx3⟩))
        go_roundw
        case rel => exact ⟨k + 1, by omega, by go_num, HP, (hx.trans' HX1.out).trans' hx3⟩
        case measure => simp [intOf]; omega
  · have HZ := Lib.hid (all_whole _ _ k hlt hp.out)
    go_wp2
    go_ret
    exact ⟨by rw [HZ.out]; rfl, ((Ext.refl _).alloc _).trans' hx⟩

def tightP (body : List GP) (p : GP) : Bool := (varsOf p.atom).all (boundIn body)
set_option maxRecDepth 100000 in
set_option maxHeartbeats 1000000 in
theorem bodyLoose_any (v : Value) (body : List GP) (w : World) {S : Nat → Prop} (hv : PartsR S w v body) :
 Calls Tryz.prog 82 #[v] w fun e w' => e = .returned (.bool (!body.all (tightP body))) ∧ Ext w w' := by
 obtain ⟨A, c, rfl, hc1, hc2⟩ := SliceR.form hv
 have HV := Lib.hid hv
 clear hv
 go_enter Tryz.func82, Tryz.ntmps82
 go_wp2
 go_loopw [7] (fun i wr => ∃ k : Nat, k ≤ body.length ∧ i = .int .i64 k ∧ Hid ((body.take k).all (tightP body) = true) ∧ Ext w wr) (fun i _ => body.length - (intOf i).toNat)
 case atStart => exact ⟨0, Nat.zero_le _, rfl, rfl, Ext.refl _⟩
 case round =>
  obtain ⟨k, hk, rfl, hp, hx⟩ := hrel
  by_cases hlt : k < body.length
  · obtain ⟨b, off, y, z, rfl, hb, hxk, hxs, htx, p0, p1, p2⟩ := PartsR.at_ (HV.out.ext hx) hlt
    obtain ⟨C, e, rfl, he1, he2⟩ := SliceR.form htx
    have HK := Lib.hid hxk
    have hw := bool_ways (allBound_any _ _ body y.atom _ ((HV.out.ext hx).ext ((Ext.refl wr).alloc (.cells #[.bool y.no, .string y.atom.n, .slice C y.atom.args.length e] 37))) (htx.ext ((Ext.refl wr).alloc (.cells #[.bool y.no, .string y.atom.n, .slice C y.atom.args.length e] 37))))
    clear hxk htx
    cases hm : tightP body y
    · have HZ := Lib.hid (all_false (tightP body) _ k y HK.out hm)
      have HW := Lib.hid (hw.2 hm)
      clear hw hm
      go_wp2_with (go_at_call 110; refine HW.out.mono ?_; rintro e w1 ⟨rfl, hx1⟩)
      go_ret
      exact ⟨by rw [HZ.out]; rfl, (hx.alloc _).trans' hx1⟩
    · have HP := Lib.hid (show (body.take (k + 1)).all (tightP body) = true from by rw [all_snoc _ _ k y HK.out, hp.out, hm]; rfl)
      have HW := Lib.hid (hw.1 hm)
      clear hw hm
      go_wp2_with (go_at_call 110; refine HW.out.mono ?_; rintro e w1 ⟨rfl, hx1⟩)
      go_roundw
      case rel => exact ⟨k + 1, by omega, by go_num, HP, (hx.alloc _).trans' hx1⟩
      case measure => simp [intOf]; omega
  · have HZ := Lib.hid (all_whole _ _ k hlt hp.out)
    go_wp2
    go_ret
    exact ⟨by rw [HZ.out]; rfl, hx⟩

set_option maxRecDepth 100000 in
set_option maxHeartbeats 1000000 in
theorem bodyOk_any (v : Value) (body : List GP) (w : World) {S : Nat → Prop} (hv : PartsR S w v body) :
 Calls Tryz.prog 81 #[v] w fun e w' => e = .returned (.bool (decide (body.length ≤ 4) && body.all partOkB)) ∧ Ext w w' := by
 obtain ⟨A, c, rfl, hc1, hc2⟩ := SliceR.form hv
 have HV := Lib.hid hv
 clear hv
 by_cases h4 : body.length ≤ 4
 · have HF := Lib.hid (show (decide (body.length ≤ 4) && body.all partOkB) = body.all partOkB from by simp [h4])
   go_enter Tryz.func81, Tryz.ntmps81
   go_wp2
   go_loopw [10] (fun i wr => ∃ k : Nat, k ≤ body.length ∧ i = .int .i64 k ∧ Hid ((body.take k).all partOkB = true) ∧ Ext w wr) (fun i _ => body.length - (intOf i).toNat)
   case atStart => exact ⟨0, Nat.zero_le _, rfl, rfl, Ext.refl _⟩
   case round =>
    obtain ⟨k, hk, rfl, hp, hx⟩ := hrel
    by_cases hlt : k < body.length
    · obtain ⟨b, off, y, z, rfl, hb, hxk, hxs, htx, p0, p1, p2⟩ := PartsR.at_ (HV.out.ext hx) hlt
      obtain ⟨C, e, rfl, he1, he2⟩ := SliceR.form htx
      have HK := Lib.hid hxk
      have hw := bool_ways (atomOk_any y.atom _ _ hxs (htx.ext ((Ext.refl wr).alloc (.cells #[.bool y.no, .string y.atom.n, .slice C y.atom.args.length e] 37))))
      clear hxk htx
      cases hm : atomOkB y.atom
      · have HZ := Lib.hid (all_false partOkB _ k y HK.out hm)
        have HW := Lib.hid (hw.2 hm)
        clear hw hm
        go_wp2_with (go_at_call 104; refine HW.out.mono ?_; rintro e w1 ⟨rfl, hx1⟩)
        go_ret
        exact ⟨by rw [HF.out, HZ.out]; rfl, (hx.alloc _).trans' hx1⟩
      · have HP := Lib.hid (show (body.take (k + 1)).all partOkB = true from by rw [all_snoc _ _ k y HK.out, hp.out, show partOkB y = true from hm]; rfl)
        have HW := Lib.hid (hw.1 hm)
        clear hw hm
        go_wp2_with (go_at_call 104; refine HW.out.mono ?_; rintro e w1 ⟨rfl, hx1⟩)
        go_roundw
        case rel => exact ⟨k + 1, by omega, by go_num, HP, (hx.alloc _).trans' hx1⟩
        case measure => simp [intOf]; omega
    · have HZ := Lib.hid (all_whole _ _ k hlt hp.out)
      go_wp2
      go_ret
      exact ⟨by rw [HF.out, HZ.out]; rfl, hx⟩
 · have HF := Lib.hid (show (decide (body.length ≤ 4) && body.all partOkB) = false from by simp [h4])
   go_enter Tryz.func81, Tryz.ntmps81
   go_wp2
   go_ret
   exact ⟨by rw [HF.out]; rfl, Ext.refl _⟩

end Go.Proofs.YtfjdijakgjhieaaGreat
