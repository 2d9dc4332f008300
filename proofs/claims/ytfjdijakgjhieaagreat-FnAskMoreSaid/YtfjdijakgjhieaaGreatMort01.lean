/- Proved here, for all inputs and without conditions: the given statement of the law FnAskMore. -/
import Derived.Test.YtfjdijakgjhieaaGreatBas23
import Derived.Test.YtfjdijakgjhieaaGreatBas30
set_option linter.unusedSimpArgs false
set_option linter.unusedVariables false
namespace Go.Proofs.YtfjdijakgjhieaaGreat
open Go.RowKit

/-- P22. -/
theorem again_same (xs : List GA) {ps : List GP} {p : GP} (hp : p ∈ ps) (hl : ps.length < 4) (hok : askOkB ps = true) : askW xs (ps ++ [p]) = askW xs ps := by
 have hm : ∀ q, q ∈ ps ↔ q ∈ ps ++ [p] := fun q => by
  rw [List.mem_append, List.mem_singleton]
  exact ⟨.inl, fun h => h.elim id (fun e => e ▸ hp)⟩
 refine askW_ext ?_ (fun q => (hm q).symm)
 rw [hok]
 exact askOk_ext ⟨by simp, by simp; omega⟩ hm hok
theorem not_none (xs : List GA) {ps : List GP} {p : GP} (hp : p ∈ ps) : askW xs (ps ++ [⟨!p.no, p.atom⟩]) = [] := by
 unfold askW
 split
 · rename_i hc
   simp only [Bool.and_eq_true] at hc
   apply List.eq_nil_iff_forall_not_mem.2
   intro r hr
   obtain ⟨σ, _, hs⟩ := (ask_iff (askable hc.2) (factsB_asc hc.1)).1 hr
   have h1 := hs p (List.mem_append_left _ hp)
   have h2 := hs ⟨!p.no, p.atom⟩ (List.mem_append_right _ List.mem_cons_self)
   have h3 := h1.symm.trans h2
   cases hno : p.no <;> simp [hno] at h3
 · rfl
end Go.Proofs.YtfjdijakgjhieaaGreat

namespace Go.Proofs.YtfjdijakgjhieaaGreat
open Go.RowKit

set_option maxRecDepth 100000 in
set_option maxHeartbeats 8000000 in
theorem fnAskMore_any (HD : DrawAskC) (v : Value) (bs : List UInt8) (w : World) {S : Nat → Prop} (hv : BytesR S w v bs) :
 Calls Tryz.prog 5 #[v] w fun e w' => e = .returned (.bool true) ∧ Ext w w' := by
 obtain ⟨A, c, rfl, hc1, hc2⟩ := SliceR.form hv
 have HV := Lib.hid hv
 have HDD := Lib.hid HD
 obtain ⟨i0, hi0, hz0, hz1, hz2⟩ := info_parts part_info
 clear hv HD
 by_cases h1 : 1048576 < bs.length
 · go_enter Tryz.func5, Tryz.ntmps5
   go_wp2
   go_ret
   exact ⟨rfl, Ext.refl _⟩
 go_enter Tryz.func5, Tryz.ntmps5
 go_wp2_with fail
 refine (HDD.out _ bs _ _ HV.out).mono ?_
 rintro e w1 ⟨⟨xs, ps, v1, u1, rfl, hv1, hu1, hl⟩, hx1⟩
 obtain ⟨B, d, rfl, hd1, hd2⟩ := SliceR.form hv1
 obtain ⟨D, f, rfl, hf1, hf2⟩ := SliceR.form hu1
 have HX1 := Lib.hid hx1
 have HIA := Lib.hid (fun (qs : List GP) (u : Value) (W : World) (T : Nat → Prop) (hW : Ext w1 W) (hu : PartsR T W u qs) => implAsk_any xs qs _ u W (hv1.ext hW) hu)
 have HSA := Lib.hid (fun (W : World) (hW : Ext w1 W) => specAsk_any xs ps _ _ W (hv1.ext hW) (hu1.ext hW))
 have HU1 := Lib.hid hu1
 have HAO := Lib.hid (fun (W : World) (hW : Ext w1 W) => specAskOk_any ps _ W (hu1.ext hW))
 obtain ⟨rows, hrows⟩ : ∃ rows, rows = askW xs ps := ⟨_, rfl⟩
 rw [← hrows] at HSA
 have HRW := Lib.hid hrows
 have tok : True := trivial
 clear hv1 hu1 hx1 hrows
 obtain ⟨ok, hok⟩ : ∃ ok, ok = askOkB ps := ⟨_, rfl⟩
 rw [← hok] at HAO
 have HOK := Lib.hid hok
 clear hok
 have tok2 : True := trivial
 go_wp2_with (first
  | (go_at_call 14; have _t := tok2; clear tok2 _t; refine (HIA.out ps _ _ _ (Ext.refl _) HU1.out).mono ?_; rintro e w2 ⟨⟨r2, rfl, hr2⟩, hx2⟩
     have HR2 := Lib.hid (show RowsR (From w1.heap.size) w2 r2 rows from by rw [HRW.out]; exact hr2.read)
     have HX2 := Lib.hid hx2
     obtain ⟨R2, g2, rfl, hg21, hg22⟩ := SliceR.form hr2.read
     clear hr2 hx2)
  | (go_at_call 17; have _t := tok; clear tok _t; refine (HSA.out _ HX2.out).mono ?_; rintro e w3 ⟨⟨r3, rfl, hr3⟩, hx3⟩
     have HR3 := Lib.hid hr3
     have HX3 := Lib.hid (HX2.out.trans' hx3)
     have HS3 := Lib.hid (HR2.out.ext_ hx3)
     have tok3 : True := trivial
     clear hr3 hx3)
  | (go_at_call 28; have _t := tok3; clear tok3 _t; refine (fsRows_same _ _ rows _ HS3.out HR3.out).mono ?_; rintro e w4 ⟨rfl, hx4⟩
     have HX4 := Lib.hid (HX3.out.trans' hx4)
     have HS4 := Lib.hid (HS3.out.ext_ hx4)
     clear hx4)
  | (go_at_call 29; refine (HAO.out _ HX4.out).mono ?_; rintro e w5 ⟨rfl, hx5⟩
     have HX5 := Lib.hid (HX4.out.trans' hx5)
     have HS5 := Lib.hid (HS4.out.ext_ hx5)
     clear hx5)
  | (go_at_call 17; refine (HSA.out _ HX5.out).mono ?_; rintro e w6 ⟨⟨r6, rfl, hr6⟩, hx6⟩
     have HR6 := Lib.hid hr6
     have HX6 := Lib.hid (HX5.out.trans' hx6)
     have HS6 := Lib.hid (HS5.out.ext_ hx6)
     clear hr6 hx6)
  | (go_at_call 28; refine (fsRows_same _ _ rows _ HS6.out HR6.out).mono ?_; rintro e w7 ⟨rfl, hx7⟩
     have HX7 := Lib.hid (HX6.out.trans' hx7)
     clear hx7)
  | fail)
 · go_ret
   exact ⟨rfl, HX1.out.trans' HX7.out⟩
 · have hok2 : askOkB ps = true := by rw [← HOK.out]; assumption
   have hpos : 0 < ps.length := (askOk_parts hok2).1
   have hps4 : ps.length < 4 := by omega
   have HOK2 := Lib.hid hok2
   obtain ⟨bp, off, p, vp, rfl, hbp, hpk, hpn, hpt, hc0, hc1', hc2'⟩ := PartsR.at_ (k := 0) HU1.out hpos
   obtain ⟨X, cx, rfl, hcx1, hcx2⟩ := SliceR.form hpt
   simp only [Nat.zero_mul, Nat.add_zero] at hc0 hc1' hc2'
   have HPT := Lib.hid (fun (W : World) (hW : Ext w1 W) => hpt.ext hW)
   have HSW := Lib.hid (fun (W : World) (hW : Ext w1 W) => (show W.cell? ⟨bp, off, none⟩ = some (.bool p.no) ∧ W.cell? ⟨bp, off + 1, none⟩ = some (.string p.atom.n) ∧ W.cell? ⟨bp, off + 2, none⟩ = some (.slice X p.atom.args.length cx) from
    ⟨(hW.cells.1 bp _ hbp).trans hc0, (hW.cells.1 bp _ hbp).trans hc1', (hW.cells.1 bp _ hbp).trans hc2'⟩))
   have HPK := Lib.hid (List.mem_of_getElem? hpk)
   have hl0 : (0 : Int) < (ps.length : Int) := by omega
   clear hpt hpk hc0 hc1' hc2' hok2 HAO HSA
   have HE1 := Lib.hid (show ∀ W, Ext w5 W → ElemsK kPart (fun b => b < w5.heap.size) W (.slice (some ⟨bp, off, none⟩) ps.length f) ps from fun W hW =>
    ElemsK.ext ((ListK.elems (k := kPart) (ListK.low (k := kPart) (HU1.out.ext HX5.out))).sub (fun b hb _ => hb.2)) hW)
   have HE2 := Lib.hid (show ∀ W, Ext w5 W → kPart.E (fun b => b < w5.heap.size) W [.bool p.no, .string p.atom.n, .slice X p.atom.args.length cx] p from fun W hW =>
    ⟨_, rfl, hpn, TermsR.impL (HPT.out _ HX5.out) (fun b _ hlt => hlt) (Agree.of_ext hW) hW.size⟩)
   go_region_held3 (fun W => W.cell? ⟨bp, off, none⟩ = some (.bool p.no) ∧ W.cell? ⟨bp, off + 1, none⟩ = some (.string p.atom.n) ∧ W.cell? ⟨bp, off + 2, none⟩ = some (.slice X p.atom.args.length cx))
    (first | exact HSW.out _ (HX5.out.trans' HY3.out) | exact HSW.out _ (HX5.out.trans' HY2.out) | exact HSW.out _ (HX5.out.trans' (HY2.out.alloc _)) | exact HSW.out _ (HX5.out.trans' (Ext.drew (Ext.refl _))) | exact HSW.out _ (HX5.out.trans' (Ext.drew (Ext.alloc (Ext.refl _) _))) | exact HSW.out _ (HX5.out.trans' (Ext.drew (Ext.alloc (Ext.alloc (Ext.refl _) _) _))) | go_keep)
    (first
     | (refine step_appL (o := ⟨some 42, _, _, _, _, _⟩) (k := kPart) (S := fun b => b < w5.heap.size) (T := fun b => b < w5.heap.size) (base := w5.heap.size) (v := .slice (some ⟨_, 0, none⟩) 0 0) (xs := []) (ys := ps) (by rfl) (.tmp 40) (.tmp 41) 38 (by rfl) i0 _ 48 Tryz.underlying38 hi0 hz0 hz1 hz2 (by rfl) (by rfl)
         (by first | exact OwnK.drew (OwnK.empty rfl (Nat.le_refl _)) | exact OwnK.drew (OwnK.alloc (OwnK.empty rfl (Nat.le_refl _)) _) | exact OwnK.drew (OwnK.empty (w := w5.alloc _) (by simp) (by simp))) _ ps.length f (by rfl) (HE1.out _ (by first | exact Ext.drew (Ext.alloc (Ext.refl _) _) | exact Ext.drew (Ext.alloc (Ext.alloc (Ext.refl _) _) _))) (fun b hb => ⟨hb, hb⟩) (by unfold maxLen; simp; omega) (by simp; omega) (by go_size) ?_
        intro v6 w6 hap1; obtain ⟨A1, n1, c1, rfl, hn1, hd11, hd12⟩ := hap1.own.form2; have HY2 := Lib.hid (hap1.toExt (w0 := w5) (by first | exact Ext.drew (Ext.alloc (Ext.refl _) _) | exact Ext.drew (Ext.alloc (Ext.alloc (Ext.refl _) _) _)) (Nat.le_refl _)); have HA1 := Lib.hid hap1; clear hap1)
     | (refine step_appL (o := ⟨some 47, _, _, _, _, _⟩) (k := kPart) (S := fun b => b < w5.heap.size) (T := fun b => b < w5.heap.size) (base := w5.heap.size) (xs := [] ++ ps) (ys := [p]) (by rfl) (.tmp 42) (.tmp 46) 38 (by rfl) i0 _ 48 Tryz.underlying38 hi0 hz0 hz1 hz2 (by rfl) (by rfl)
         (by first | exact HA1.out.own | exact OwnK.alloc HA1.out.own _) _ 1 1 (by rfl) (ElemsK.one (k := kPart) (x := p) (by first | exact Blk.at_new rfl | exact HA1.out.blk2 (Blk.drew (Blk.at_new (w := w5.alloc _) (by simp))) (by simp [Value.ownBlock]) | exact HA1.out.blk2 (Blk.drew (Blk.alloc (Blk.at_new rfl) _)) (by simp [Value.ownBlock])) (HE2.out _ (by first | exact HY2.out | exact Ext.alloc HY2.out _))) (fun b hb => ⟨hb, hb⟩) (by unfold maxLen; simp; omega) (by simp; omega) (by have := HY2.out.size; go_size) ?_
        intro v7 w7 hap2; obtain ⟨A2, n2, c2, rfl, hn2, hd21, hd22⟩ := hap2.own.form2; have HY3 := Lib.hid (hap2.toExt (w0 := w5) (by first | exact HY2.out | exact Ext.alloc HY2.out _) (Nat.le_refl _)); have HA2 := Lib.hid hap2; clear hap2))
   all_goals
    have HX7b := Lib.hid (HX5.out.trans' HY3.out)
    have HB7 := Lib.hid (show PartsR Any w7 (.slice A2 n2 c2) (ps ++ [p]) from by
     have h := HA2.out.own.list (S' := Any) (fun _ _ => trivial) (fun _ _ => trivial)
     simp only [List.nil_append] at h
     exact h)
    have HE3 := Lib.hid (show ∀ W, Ext w7 W → ElemsK kPart (fun b => b < w7.heap.size) W (.slice (some ⟨bp, off, none⟩) ps.length f) ps from fun W hW =>
     ElemsK.ext ((ListK.elems (k := kPart) (ListK.low (k := kPart) (HU1.out.ext HX7b.out))).sub (fun b hb _ => hb.2)) hW)
    have HE4 := Lib.hid (show ∀ W, Ext w7 W → kPart.E (fun b => b < w7.heap.size) W [.bool (!p.no), .string p.atom.n, .slice X p.atom.args.length cx] ⟨!p.no, p.atom⟩ from fun W hW =>
     ⟨_, rfl, hpn, TermsR.impL (HPT.out _ HX7b.out) (fun b _ hlt => hlt) (Agree.of_ext hW) hW.size⟩)
    clear HA1 HA2 HE1 HE2 HY2
    go_wp2_with fail
    go_region_held3 (fun W => W.cell? ⟨bp, off, none⟩ = some (.bool p.no) ∧ W.cell? ⟨bp, off + 1, none⟩ = some (.string p.atom.n) ∧ W.cell? ⟨bp, off + 2, none⟩ = some (.slice X p.atom.args.length cx))
     (first | exact HSW.out _ (HX7b.out.trans' HY5.out) | exact HSW.out _ (HX7b.out.trans' HY4.out) | exact HSW.out _ (HX7b.out.trans' (HY4.out.alloc _)) | exact HSW.out _ (HX7b.out.trans' (Ext.drew (Ext.refl _))) | exact HSW.out _ (HX7b.out.trans' (Ext.drew (Ext.alloc (Ext.refl _) _))) | exact HSW.out _ (HX7b.out.trans' (Ext.drew (Ext.alloc (Ext.alloc (Ext.refl _) _) _))) | go_keep)
     (first
      | (refine step_appL (o := ⟨some 50, _, _, _, _, _⟩) (k := kPart) (S := fun b => b < w7.heap.size) (T := fun b => b < w7.heap.size) (base := w7.heap.size) (v := .slice (some ⟨_, 0, none⟩) 0 0) (xs := []) (ys := ps) (by rfl) (.tmp 48) (.tmp 49) 38 (by rfl) i0 _ 48 Tryz.underlying38 hi0 hz0 hz1 hz2 (by rfl) (by rfl)
          (by first | exact OwnK.drew (OwnK.empty rfl (Nat.le_refl _)) | exact OwnK.drew (OwnK.alloc (OwnK.empty rfl (Nat.le_refl _)) _) | exact OwnK.drew (OwnK.empty (w := w7.alloc _) (by simp) (by simp))) _ ps.length f (by rfl) (HE3.out _ (by first | exact Ext.drew (Ext.alloc (Ext.refl _) _) | exact Ext.drew (Ext.alloc (Ext.alloc (Ext.refl _) _) _))) (fun b hb => ⟨hb, hb⟩) (by unfold maxLen; simp; omega) (by simp; omega) (by go_size) ?_
         intro v8 w8 hap3; obtain ⟨A3, n3, c3, rfl, hn3, hd31, hd32⟩ := hap3.own.form2; have HY4 := Lib.hid (hap3.toExt (w0 := w7) (by first | exact Ext.drew (Ext.alloc (Ext.refl _) _) | exact Ext.drew (Ext.alloc (Ext.alloc (Ext.refl _) _) _)) (Nat.le_refl _)); have HA3 := Lib.hid hap3; clear hap3)
      | (refine step_appL (o := ⟨some 62, _, _, _, _, _⟩) (k := kPart) (S := fun b => b < w7.heap.size) (T := fun b => b < w7.heap.size) (base := w7.heap.size) (xs := [] ++ ps) (ys := [⟨!p.no, p.atom⟩]) (by rfl) (.tmp 50) (.tmp 61) 38 (by rfl) i0 _ 48 Tryz.underlying38 hi0 hz0 hz1 hz2 (by rfl) (by rfl)
          (by first | exact HA3.out.own | exact OwnK.alloc HA3.out.own _) _ 1 1 (by rfl) (ElemsK.one (k := kPart) (x := ⟨!p.no, p.atom⟩) (by first | exact Blk.at_new rfl | exact HA3.out.blk2 (Blk.drew (Blk.at_new (w := w7.alloc _) (by simp))) (by simp [Value.ownBlock]) | exact HA3.out.blk2 (Blk.drew (Blk.alloc (Blk.at_new rfl) _)) (by simp [Value.ownBlock])) (HE4.out _ (by first | exact HY4.out | exact Ext.alloc HY4.out _))) (fun b hb => ⟨hb, hb⟩) (by unfold maxLen; simp; omega) (by simp; omega) (by have := HY4.out.size; go_size) ?_
         intro v9 w9 hap4; obtain ⟨A4, n4, c4, rfl, hn4, hd41, hd42⟩ := hap4.own.form2; have HY5 := Lib.hid (hap4.toExt (w0 := w7) (by first | exact HY4.out | exact Ext.alloc HY4.out _) (Nat.le_refl _)); have HA4 := Lib.hid hap4; clear hap4))

   all_goals
    have HX9 := Lib.hid (HX7b.out.trans' HY5.out)
    have HB9 := Lib.hid (show PartsR Any w9 (.slice A4 n4 c4) (ps ++ [⟨!p.no, p.atom⟩]) from by
     have h := HA4.out.own.list (S' := Any) (fun _ _ => trivial) (fun _ _ => trivial)
     simp only [List.nil_append] at h
     exact h)
    have HS9 := Lib.hid (HS5.out.ext_ (HY3.out.trans' HY5.out))
    have HB79 := Lib.hid (PartsR.ext HB7.out HY5.out)
    have HAG := Lib.hid (show askW xs (ps ++ [p]) = rows from by rw [HRW.out]; exact again_same xs HPK.out hps4 HOK2.out)
    have HNO := Lib.hid (not_none xs HPK.out)
    have tok5 : True := trivial
    clear HA3 HA4 HE3 HE4 HY4
    go_wp2_with (first
     | (go_at_call 14; have _t := tok5; clear tok5 _t; refine (HIA.out (ps ++ [p]) _ _ _ HX9.out HB79.out).mono ?_; rintro e w10 ⟨⟨r10, rfl, hr10⟩, hx10⟩
        have HR10 := Lib.hid (show RowsR (From w9.heap.size) w10 r10 rows from by rw [← HAG.out]; exact hr10.read)
        have HX10 := Lib.hid (HX9.out.trans' hx10)
        have HS10 := Lib.hid (HS9.out.ext_ hx10)
        have HB10 := Lib.hid (PartsR.ext HB9.out hx10)
        clear hr10 hx10)
     | (go_at_call 28; refine (fsRows_same _ _ rows _ HR10.out HS10.out).mono ?_; rintro e w11 ⟨rfl, hx11⟩
        have HX11 := Lib.hid (HX10.out.trans' hx11)
        have HB11 := Lib.hid (PartsR.ext HB10.out hx11)
        clear hx11)
     | (go_at_call 14; refine (HIA.out _ _ _ _ HX11.out HB11.out).mono ?_; rintro e w12 ⟨⟨r12, rfl, hr12⟩, hx12⟩
        have hr13 := hr12.read
        rw [HNO.out] at hr13
        obtain ⟨Z, cz, rfl, hz1', hz2'⟩ := SliceR.form hr13
        have HX12 := Lib.hid (HX11.out.trans' hx12)
        clear hr12 hr13 hx12)
     | fail)
    go_ret
    exact ⟨rfl, HX1.out.trans' HX12.out⟩
 · go_ret
   exact ⟨rfl, HX1.out.trans' HX7.out⟩

end Go.Proofs.YtfjdijakgjhieaaGreat

namespace Go.Proofs.YtfjdijakgjhieaaGreat
open Go.RowKit Go.ChangeShapes Go.WideShapes

set_option maxRecDepth 100000 in
theorem askMore_lifted (HD : DrawAskC) (os : Os) (started : os.Started) (H : Type) (enc : TypeId × Value → H) :
 ReturnsInHanded {} Tryz.checked os 5 .any (Rows.fnAskMoreSpec.pre6 enc Tryz.prog Tryz.f5 Rows.fnAskMoreRow.domain false) (Rows.fnAskMoreSpec.post enc Tryz.prog Tryz.f5 false true false false) := by
 refine returnsInHanded_of_change (C := Tryz.checked) law_own started (by kernel_rfl) Tryz.func5
  (ChangeSpec.witness6 (enc := enc) (C := Tryz.checked) false ⟨#[], #[.slice none 0 0], []⟩ 8 (by kernel_rfl) (by kernel_rfl) (by kernel_rfl) (by kernel_rfl)) ?_
 intro W base args ds gs before hval0 hW hcnd _
 have hW' := hW
 obtain ⟨p, q, hA0, hV, rfl, hfz, hnd⟩ := hW
 have hA : DataW.TrodAll enc Tryz.prog W 0 (fun _ => true) true Tryz.f5.params.toList args.toList ds p := hA0
 have hval : ∀ (j : Nat) t v, Tryz.f5.params[j]? = some t → args[j]? = some v → Value.okWide Tryz.prog W .any base t v := hval0
 rw [Tryz.params5] at hA hval
 obtain ⟨v0, d0, rfl, rfl, ⟨k0, h0⟩⟩ := trodAll_one hA
 obtain ⟨rfl, rfl⟩ := trodVars_none hV
 obtain ⟨_, _, _, rfl⟩ := okWide_slice Tryz.underlying22 (hval 0 22 v0 rfl rfl)
 obtain ⟨xs, hxs⟩ := read_bytes h0
 clear hA0 hval0
 simp only [List.append_nil] at hW'
 refine (fnAskMore_any HD _ xs W hxs).mono fun e W' ⟨he, hw⟩ => ?_
 subst he
 exact ⟨_, rfl, law_post (t := 4) rfl rfl Tryz.underlying4 rfl law_laidOut (by rw [Tryz.params5]; intro t ht; simp at ht; subst ht; exact ⟨by kernel_rfl, of_decide_eq_true (by kernel_rfl)⟩) hW' hw⟩

theorem askMore_said (HD : DrawAskC) : Rows.FnAskMoreSaid :=
 OpenClaim.holds_of_wide 5 Tryz.f5 rfl rfl rfl rfl rfl rfl rfl ⟨rfl, rfl, rfl, rfl, rfl⟩ rfl rfl rfl rfl rfl (by kernel_rfl) Tryz.func5 (by kernel_rfl)
  (of_decide_eq_true (by kernel_rfl)) (by unfold Func.isWrapper; rw [if_neg (of_decide_eq_false (by kernel_rfl))]; exact ⟨rfl, rfl⟩)
  (fun os started H enc _ => askMore_lifted HD os started H enc)


end Go.Proofs.YtfjdijakgjhieaaGreat

namespace Go.Proofs.YtfjdijakgjhieaaGreat
open Go.RowKit

theorem fnAskMore_holds : Rows.FnAskMoreSaid := askMore_said drawAsk_any

end Go.Proofs.YtfjdijakgjhieaaGreat
