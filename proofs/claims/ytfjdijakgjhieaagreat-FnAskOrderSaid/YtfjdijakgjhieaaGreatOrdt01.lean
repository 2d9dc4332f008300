/- Proved here, for all inputs and without conditions: the given statement of the law FnAskOrder. -/
import Derived.Test.YtfjdijakgjhieaaGreatBas23
import Derived.Test.YtfjdijakgjhieaaGreatBas30
set_option linter.unusedSimpArgs false
set_option linter.unusedVariables false
namespace Go.Proofs.YtfjdijakgjhieaaGreat
open Go.RowKit

/-- P21. -/
theorem order_same (xs : List GA) (ps : List GP) : askW xs ps.reverse = askW xs ps := by
 refine askW_ext ?_ (fun p => List.mem_reverse)
 apply Bool.eq_iff_iff.2
 constructor
 · intro h
   obtain ⟨h1, h2, _⟩ := askOk_parts h
   rw [List.length_reverse] at h1 h2
   exact askOk_ext ⟨h1, h2⟩ (fun p => List.mem_reverse) h
 · intro h
   obtain ⟨h1, h2, _⟩ := askOk_parts h
   exact askOk_ext ⟨by rw [List.length_reverse]; exact h1, by rw [List.length_reverse]; exact h2⟩ (fun p => List.mem_reverse.symm) h
end Go.Proofs.YtfjdijakgjhieaaGreat

namespace Go.Proofs.YtfjdijakgjhieaaGreat
open Go.RowKit

set_option maxRecDepth 100000 in
set_option maxHeartbeats 4000000 in
theorem fnAskOrder_any (HD : DrawAskC) (v : Value) (bs : List UInt8) (w : World) {S : Nat → Prop} (hv : BytesR S w v bs) :
 Calls Tryz.prog 6 #[v] w fun e w' => e = .returned (.bool true) ∧ Ext w w' := by
 obtain ⟨A, c, rfl, hc1, hc2⟩ := SliceR.form hv
 have HV := Lib.hid hv
 have HDD := Lib.hid HD
 obtain ⟨i0, hi0, hz0, hz1, hz2⟩ := info_parts part_info
 clear hv HD
 by_cases h1 : 1048576 < bs.length
 · go_enter Tryz.func6, Tryz.ntmps6
   go_wp2
   go_ret
   exact ⟨rfl, Ext.refl _⟩
 go_enter Tryz.func6, Tryz.ntmps6
 go_wp2_with fail
 refine (HDD.out _ bs _ _ HV.out).mono ?_
 rintro e w1 ⟨⟨xs, ps, v1, u1, rfl, hv1, hu1, hl⟩, hx1⟩
 obtain ⟨B, d, rfl, hd1, hd2⟩ := SliceR.form hv1
 obtain ⟨D, f, rfl, hf1, hf2⟩ := SliceR.form hu1
 have HX1 := Lib.hid hx1
 have HIA := Lib.hid (fun (qs : List GP) (u : Value) (W : World) (T : Nat → Prop) (hW : Ext w1 W) (hu : PartsR T W u qs) => implAsk_any xs qs _ u W (hv1.ext hW) hu)
 have HSA := Lib.hid (fun (W : World) (hW : Ext w1 W) => specAsk_any xs ps _ _ W (hv1.ext hW) (hu1.ext hW))
 have HU1 := Lib.hid hu1
 have HRV := Lib.hid (order_same xs ps)
 obtain ⟨rows, hrows⟩ : ∃ rows, rows = askW xs ps := ⟨_, rfl⟩
 rw [← hrows] at HSA HRV
 have HRW := Lib.hid hrows
 have tok : True := trivial
 clear hv1 hu1 hx1 hrows
 go_wp2_with (first
  | (go_at_call 14; refine (HIA.out ps _ _ _ (Ext.refl _) HU1.out).mono ?_; rintro e w2 ⟨⟨r2, rfl, hr2⟩, hx2⟩
     have HR2 := Lib.hid (show RowsR (From w1.heap.size) w2 r2 rows from by rw [HRW.out]; exact hr2.read)
     have HX2 := Lib.hid hx2
     clear hr2 hx2)
  | fail)
 obtain ⟨R2, g2, rfl, hg21, hg22⟩ := SliceR.form HR2.out
 obtain ⟨N0, hN0⟩ : ∃ N0, N0 = w2.heap.size := ⟨_, rfl⟩
 have HU2 := Lib.hid (show PartsR (fun b => b < N0) w2 (.slice D ps.length f) ps from by rw [hN0]; exact ListK.sub (k := kPart) (ListK.low (k := kPart) (HU1.out.ext HX2.out)) (fun b hb => hb.2))
 have HN0 := Lib.hid hN0
 clear hN0
 go_loopw [6, 7] (fun o i wr => ∃ k : Nat, k ≤ ps.length ∧ i = .int .i64 ((k : Int) - 1) ∧ Hid (OwnK kPart N0 37 (fun b => b < N0) wr o (ps.drop k).reverse) ∧ Ext w2 wr) (fun _ i _ => (intOf i + 1).toNat)
 case atStart => exact ⟨ps.length, Nat.le_refl _, rfl, Lib.hid (by rw [List.drop_length]; exact OwnK.empty rfl (Nat.le_of_eq HN0.out)), (Ext.refl _).alloc _⟩
 case round =>
  obtain ⟨k, hk, rfl, ho, hx⟩ := hrel
  obtain ⟨O, n0, c0, rfl, hn0, ha0, hb0⟩ := ho.out.form2
  have HNN := Lib.hid hn0.out
  rcases Nat.eq_zero_or_pos k with h0 | h0
  · subst h0
    rw [List.drop_zero] at ho
    have HRO := Lib.hid (show PartsR Any wr (.slice O n0 c0) ps.reverse from ho.out.list (S' := Any) (fun _ _ => trivial) (fun _ _ => trivial))
    have HX3 := Lib.hid (HX2.out.trans' hx)
    clear hn0
    simp only [show ((0 : Nat) : Int) - 1 = -1 from rfl]
    go_wp2_with (first
     | (go_at_call 17; refine (HSA.out _ HX3.out).mono ?_; rintro e w4 ⟨⟨r4, rfl, hr4⟩, hx4⟩
        have HR4 := Lib.hid hr4
        have HX4 := Lib.hid (HX3.out.trans' hx4)
        have HS4 := Lib.hid (HR2.out.ext_ (hx.trans' hx4))
        have HO4 := Lib.hid (PartsR.ext HRO.out hx4)
        clear hr4 hx4)
     | (go_at_call 28; have _t := tok; refine (fsRows_same _ _ rows _ HS4.out HR4.out).mono ?_; clear tok _t; rintro e w5 ⟨rfl, hx5⟩
        have HX5 := Lib.hid (HX4.out.trans' hx5)
        have HS5 := Lib.hid (HS4.out.ext_ hx5)
        have HO5 := Lib.hid (HO4.out.ext hx5)
        clear hx5)
     | (go_at_call 14; refine (HIA.out ps.reverse _ _ _ HX5.out HO5.out).mono ?_; rintro e w6 ⟨⟨r6, rfl, hr6⟩, hx6⟩
        have HR6 := Lib.hid (show RowsR (From w5.heap.size) w6 r6 rows from by rw [← HRV.out]; exact hr6.read)
        have HX6 := Lib.hid (HX5.out.trans' hx6)
        have HS6 := Lib.hid (HS5.out.ext_ hx6)
        clear hr6 hx6)
     | (go_at_call 28; refine (fsRows_same _ _ rows _ HR6.out HS6.out).mono ?_; rintro e w7 ⟨rfl, hx7⟩
        have HX7 := Lib.hid (HX6.out.trans' hx7)
        clear hx7)
     | fail)
    go_ret
    exact ⟨rfl, HX1.out.trans' HX7.out⟩
  · obtain ⟨q, rfl⟩ : ∃ q, k = q + 1 := ⟨k - 1, by omega⟩
    have hqi : ((q + 1 : Nat) : Int) - 1 = (q : Int) := by omega
    have hq0 : (0 : Int) ≤ (q : Int) := by omega
    have hql : q < ps.length := by omega
    obtain ⟨bp, off, p, vp, rfl, hbp, hpk, hpn, hpt, hc0, hc1', hc2'⟩ := PartsR.at_ (HU2.out.ext hx) hql
    obtain ⟨X, cx, rfl, hcx1, hcx2⟩ := SliceR.form hpt
    have HQ := Lib.hid (show (ps.drop q).reverse = (ps.drop (q + 1)).reverse ++ [p] from by
     obtain ⟨h, rfl⟩ := List.getElem?_eq_some_iff.1 hpk
     rw [List.drop_eq_getElem_cons h, List.reverse_cons])
    have HPT := Lib.hid hpt
    have hn2 : n0 ≤ 6 := by rw [hn0.out, List.length_reverse, List.length_drop]; omega
    have hn3 : (ps.drop (q + 1)).reverse.length ≤ 6 := by rw [List.length_reverse, List.length_drop]; omega
    have hszr : N0 ≤ wr.heap.size := by rw [HN0.out]; exact hx.size
    clear hn0 hpk hpt
    rw [hqi]
    go_wp2_with (first
     | (at_builtin; refine wpList_appL (k := kPart) (S := fun b => b < N0) (T := fun b => b < N0) (base := N0) (xs := (ps.drop (q + 1)).reverse) (ys := [p]) rfl (.tmp 27) (.tmp 32) 38 (by rfl) i0 _ 48 Tryz.underlying38 hi0 hz0 hz1 hz2 (by rfl) (by rfl) (ho.out.alloc _) _ 1 1 (by rfl) (ElemsK.one (k := kPart) (x := p) (Blk.new wr 37 #[.bool p.no, .string p.atom.n, .slice X p.atom.args.length cx]) ⟨_, rfl, hpn, HPT.out.ext ((Ext.refl _).alloc _)⟩) (fun b hb => ⟨hb, hb⟩) (by unfold maxLen; omega) (by omega) (by go_size) ?_
        intro v7 w7 hap
        have HAP := Lib.hid hap
        clear hap)
     | fail)
    go_roundw
    case rel => exact ⟨q, by omega, by go_num, (by rw [HQ.out]; exact Lib.hid HAP.out.own), HAP.out.toExt (hx.alloc _) (Nat.le_of_eq HN0.out.symm)⟩
    case measure => simp [intOf]

end Go.Proofs.YtfjdijakgjhieaaGreat

namespace Go.Proofs.YtfjdijakgjhieaaGreat
open Go.RowKit Go.ChangeShapes Go.WideShapes

set_option maxRecDepth 100000 in
theorem askOrder_lifted (HD : DrawAskC) (os : Os) (started : os.Started) (H : Type) (enc : TypeId × Value → H) :
 ReturnsInHanded {} Tryz.checked os 6 .any (Rows.fnAskOrderSpec.pre6 enc Tryz.prog Tryz.f6 Rows.fnAskOrderRow.domain false) (Rows.fnAskOrderSpec.post enc Tryz.prog Tryz.f6 false true false false) := by
 refine returnsInHanded_of_change (C := Tryz.checked) law_own started (by kernel_rfl) Tryz.func6
  (ChangeSpec.witness6 (enc := enc) (C := Tryz.checked) false ⟨#[], #[.slice none 0 0], []⟩ 8 (by kernel_rfl) (by kernel_rfl) (by kernel_rfl) (by kernel_rfl)) ?_
 intro W base args ds gs before hval0 hW hcnd _
 have hW' := hW
 obtain ⟨p, q, hA0, hV, rfl, hfz, hnd⟩ := hW
 have hA : DataW.TrodAll enc Tryz.prog W 0 (fun _ => true) true Tryz.f6.params.toList args.toList ds p := hA0
 have hval : ∀ (j : Nat) t v, Tryz.f6.params[j]? = some t → args[j]? = some v → Value.okWide Tryz.prog W .any base t v := hval0
 rw [Tryz.params6] at hA hval
 obtain ⟨v0, d0, rfl, rfl, ⟨k0, h0⟩⟩ := trodAll_one hA
 obtain ⟨rfl, rfl⟩ := trodVars_none hV
 obtain ⟨_, _, _, rfl⟩ := okWide_slice Tryz.underlying22 (hval 0 22 v0 rfl rfl)
 obtain ⟨xs, hxs⟩ := read_bytes h0
 clear hA0 hval0
 simp only [List.append_nil] at hW'
 refine (fnAskOrder_any HD _ xs W hxs).mono fun e W' ⟨he, hw⟩ => ?_
 subst he
 exact ⟨_, rfl, law_post (t := 4) rfl rfl Tryz.underlying4 rfl law_laidOut (by rw [Tryz.params6]; intro t ht; simp at ht; subst ht; exact ⟨by kernel_rfl, of_decide_eq_true (by kernel_rfl)⟩) hW' hw⟩

theorem askOrder_said (HD : DrawAskC) : Rows.FnAskOrderSaid :=
 OpenClaim.holds_of_wide 6 Tryz.f6 rfl rfl rfl rfl rfl rfl rfl ⟨rfl, rfl, rfl, rfl, rfl⟩ rfl rfl rfl rfl rfl (by kernel_rfl) Tryz.func6 (by kernel_rfl)
  (of_decide_eq_true (by kernel_rfl)) (by unfold Func.isWrapper; rw [if_neg (of_decide_eq_false (by kernel_rfl))]; exact ⟨rfl, rfl⟩)
  (fun os started H enc _ => askOrder_lifted HD os started H enc)

end Go.Proofs.YtfjdijakgjhieaaGreat

namespace Go.Proofs.YtfjdijakgjhieaaGreat
open Go.RowKit

theorem fnAskOrder_holds : Rows.FnAskOrderSaid := askOrder_said drawAsk_any
end Go.Proofs.YtfjdijakgjhieaaGreat
