/- Part of the texts of a proof; what they say stands at each theorem. -/
import Derived.Test.YtmihponoillihaaGreatDoorBas17
import Derived.Test.YtmihponoillihaaGreatDoorBas02
import Derived.Test.YtmihponoillihaaGreatDoorBas03
import Derived.Laws.CopyOwn
import Derived.Deep.RegionHeld3
set_option linter.unusedSimpArgs false
set_option linter.unusedVariables false
namespace Go.Proofs.YtmihponoillihaaGreatDoor
open Go.RowKit
noncomputable def txnB (B : GB) (t : GX) : Bool :=
 (atL B t.from_).2 && changeOkB t.change && t.change.comes.all (fun a => !hasA (atL B t.from_).1 a) && t.change.goes.all (hasA (atL B t.from_).1) && fineB B.rules (doL (atL B t.from_).1 t.change)
set_option maxRecDepth 100000 in
set_option maxHeartbeats 8000000 in
theorem l7Txn_any (B : GB) (t : GX) (v u : Value) (w : World) {S T : Nat → Prop} (hv : BaseR S w v B) (hu : TxnR T w u t) (hB : LiteB B) (hT : LiteX t) :
 Calls Tryz.prog 209 #[v, u] w fun e w' => e = .returned (.bool (txnB B t)) ∧ Ext w w' := by
 obtain ⟨A1, c1, A2, c2, A3, c3, rfl⟩ := hv.form; obtain ⟨ta, tb, rfl, ha, hb⟩ := hu; obtain ⟨X, cx, rfl, _, _⟩ := SliceR.form ha; obtain ⟨Y, cy, rfl, _, _⟩ := SliceR.form hb
 obtain ⟨W, hW⟩ : ∃ W, W = (w.alloc (.cells #[.slice A1 B.rules.length c1, .int .i64 B.time, .slice A2 B.given.length c2, .slice A3 B.hist.length c3] 45)).alloc (.cells #[.int .i64 t.from_, .slice X t.change.comes.length cx, .slice Y t.change.goes.length cy] 205) := ⟨_, rfl⟩
 have HB1 := Lib.hid (show Blk W w.heap.size 45 #[.slice A1 B.rules.length c1, .int .i64 B.time, .slice A2 B.given.length c2, .slice A3 B.hist.length c3] from by rw [hW]; exact (Blk.new _ _ _).alloc _); have HB2 := Lib.hid (show Blk W (w.heap.size + 1) 205 #[.int .i64 t.from_, .slice X t.change.comes.length cx, .slice Y t.change.goes.length cy] from by rw [hW]; exact Blk.at_new (by simp)); have HX := Lib.hid (show Ext w W from by rw [hW]; exact ((Ext.refl _).alloc _).alloc _)
 have hrl : ∃ Z2 : Nat → Prop, RulesR Z2 w (.slice A1 B.rules.length c1) B.rules := by
  obtain ⟨p, q, r, h1, h2, _, _⟩ := hv
  injection h1 with h1
  simp only [Array.mk.injEq, List.cons.injEq] at h1; exact ⟨_, by rw [h1.1]; exact h2⟩
 obtain ⟨Z2, hrl⟩ := hrl; have HRL := Lib.hid (hrl.ext HX.out); have HC1 := Lib.hid (ha.ext HX.out); have HC2 := Lib.hid (hb.ext HX.out); have HAT := Lib.hid (l7At_any B t.from_ _ W (hv.ext HX.out) hB (by have := hT.from_; omega)); have hal := at_lite hB t.from_; have HTB := Lib.hid (show txnB B t = ((atL B t.from_).2 && changeOkB t.change && t.change.comes.all (fun a => !hasA (atL B t.from_).1 a) && t.change.goes.all (hasA (atL B t.from_).1) && fineB B.rules (doL (atL B t.from_).1 t.change)) from rfl)
 obtain ⟨al, hale⟩ : ∃ al, al = (atL B t.from_).1 := ⟨_, rfl⟩
 obtain ⟨ab, habe⟩ : ∃ ab, ab = (atL B t.from_).2 := ⟨_, rfl⟩
 rw [← hale, ← habe] at HAT HTB; rw [← hale] at hal; have HCO := Lib.hid (fun (W' : World) (hW' : Ext W W') => specChangeOk_any t.change _ _ W' (HC1.out.ext hW') (HC2.out.ext hW'))
 obtain ⟨co, hcoe⟩ : ∃ co, co = changeOkB t.change := ⟨_, rfl⟩
 rw [← hcoe] at HCO HTB; have HDO := Lib.hid (fun (v' : Value) (W' : World) (Z : Nat → Prop) (hW' : Ext W W') (hv' : AtomsR Z W' v' al) => l3Do_any al t.change v' _ _ W' hv' (HC1.out.ext hW') (HC2.out.ext hW') ⟨by omega, hal.2⟩ ⟨by have := hT.comes.1; omega, hT.comes.2⟩); have HFN := Lib.hid (fun (v' : Value) (W' : World) (Z : Nat → Prop) (hW' : Ext W W') (hv' : AtomsR Z W' v' (doL al t.change)) => l7Fine_any B.rules (doL al t.change) _ v' W' (HRL.out.ext hW') hv'); have HHA := Lib.hid (fun (x : GA) (v' u' : Value) (W' : World) (Z Z' : Nat → Prop) (hv' : AtomsR Z W' v' al) (hu' : TermsR Z' W' u' x.args) => l3Has_any v' u' al x W' hv' hu')
 have HSW := Lib.hid (fun (W' : World) (hW' : Ext W W') => (show W'.cell? ⟨w.heap.size, 0, none⟩ = some (.slice A1 B.rules.length c1) ∧ W'.cell? ⟨w.heap.size + 1, 1, none⟩ = some (.slice X t.change.comes.length cx) ∧ W'.cell? ⟨w.heap.size + 1, 2, none⟩ = some (.slice Y t.change.goes.length cy) from
  ⟨(HB1.out.ext hW').cell 0, (HB2.out.ext hW').cell 1, (HB2.out.ext hW').cell 2⟩))
 have p0 := HB1.out.cell 0; have p1 := HB1.out.cell 1; have p2 := HB1.out.cell 2; have p3 := HB1.out.cell 3; have pl := HB1.out.lt; have q0 := HB2.out.cell 0; have q1 := HB2.out.cell 1; have q2 := HB2.out.cell 2; have ql := HB2.out.lt; clear hv ha hb hale habe hcoe hrl
 rcases (show (ab = false ∨ (ab = true ∧ co = false)) ∨ (ab = true ∧ co = true) from by cases ab <;> cases co <;> simp) with (rfl | ⟨rfl, rfl⟩) | ⟨rfl, rfl⟩
 rotate_right
 · go_enter Tryz.func209, Tryz.ntmps209
   go_upto_region 1 with fail
   rw [← hW]; clear hW
   go_wp2_with (first
    | (go_at_call 284; refine HAT.out.mono ?_; rintro e w1 ⟨⟨v1, rfl, hv1⟩, hx1⟩
       obtain ⟨O1, o1, rfl, _, _⟩ := SliceR.form hv1; have HV1 := Lib.hid hv1; have HX1 := Lib.hid hx1; have r1 := (HSW.out _ hx1).2.1; have r2 := (HSW.out _ hx1).2.2; have rl := Nat.lt_of_lt_of_le ql hx1.size
       clear hv1 hx1 p0 p1 p2 p3 q0 q1 q2)
    | (go_at_call 47; refine (HCO.out _ HX1.out).mono ?_; rintro e w2 ⟨rfl, hx2⟩
       have HX2 := Lib.hid (HX1.out.trans' hx2); have HV2 := Lib.hid (HV1.out.ext hx2)
       clear hx2 r1 r2 rl)
    | fail)
   go_loopw [7] (fun i wr => ∃ k : Nat, k ≤ t.change.comes.length ∧ i = .int .i64 k ∧ Hid (∀ (i : Nat) (x : GA), i < k → t.change.comes[i]? = some x → hasA al x = false) ∧ Ext w2 wr) (fun i _ => t.change.comes.length - (intOf i).toNat)
   case atStart => exact ⟨0, Nat.zero_le _, rfl, Lib.hid (fun i x h => absurd h (Nat.not_lt_zero _)), Ext.refl _⟩
   case round =>
    obtain ⟨k, hk, rfl, hp, hx⟩ := hrel
    have hk0 : (0 : Int) ≤ (k : Int) := by omega
    have hxx := HX2.out.trans' hx; have r0 := (HSW.out _ hxx).1; have r1 := (HSW.out _ hxx).2.1; have r2 := (HSW.out _ hxx).2.2; have rl := Nat.lt_of_lt_of_le ql hxx.size; have rl0 := Nat.lt_of_lt_of_le pl hxx.size; have HXX := Lib.hid hxx; clear hxx
    by_cases hlt : k < t.change.comes.length
    · have hlt' : (k : Int) < (t.change.comes.length : Int) := by omega
      obtain ⟨bb, off, x, v2, rfl, hbl, hxk, hxs, hxt, hc0, hc1'⟩ := AtomsR.at_ (HC1.out.ext HXX.out) hlt; obtain ⟨Z, cz, rfl, _, _⟩ := SliceR.form hxt; have HH := Lib.hid (HHA.out x _ _ wr _ _ (HV2.out.ext hx) hxt); have HXK := Lib.hid hxk
      obtain ⟨hb', hbe⟩ : ∃ hb', hb' = hasA al x := ⟨_, rfl⟩
      rw [← hbe] at HH; have HBE := Lib.hid hbe; clear hxk hxt hbe
      cases hb'
      · go_wp2_with (first
          | (go_at_call 104; refine HH.out.mono ?_; rintro e w3 ⟨rfl, hx3⟩
             have HX3 := Lib.hid (hx.trans' hx3)
             clear hx3)
          | fail)
        go_roundw
        case rel =>
         exact ⟨k + 1, by omega, by go_num, Lib.hid (fun i y hi hy => by
          rcases Nat.lt_or_ge i k with h | h
          · exact hp.out i y h hy
          have e : i = k := by omega
          subst e; have h1 := HXK.out
          rw [hy] at h1; injection h1 with h1
          subst h1
          exact HBE.out.symm), HX3.out⟩
        case measure => simp [intOf]; omega
      have HF := Lib.hid (show txnB B t = false from by rw [HTB.out, all_stop (p := fun a => !hasA al a) HXK.out (by rw [← HBE.out]; rfl)]; rfl)
      go_wp2_with (first
       | (go_at_call 104; refine HH.out.mono ?_; rintro e w3 ⟨rfl, hx3⟩
          have HX3 := Lib.hid (HXX.out.trans' hx3)
          clear hx3)
       | fail)
      go_ret; rw [HF.out]; exact ⟨rfl, HX.out.trans' HX3.out⟩
    have hlt' : ¬ (k : Int) < (t.change.comes.length : Int) := by omega
    have HAC := Lib.hid (show t.change.comes.all (fun a => !hasA al a) = true from all_upto (fun i x hi hx => by simp [hp.out i x (by omega) hx])); clear hp
    go_wp2_with fail
    rename World => w5
    go_loopw [8] (fun i wr => ∃ q : Nat, q ≤ t.change.goes.length ∧ i = .int .i64 q ∧ Hid (∀ (i : Nat) (x : GA), i < q → t.change.goes[i]? = some x → hasA al x = true) ∧ Ext w5 wr) (fun i _ => t.change.goes.length - (intOf i).toNat)
    case atStart => exact ⟨0, Nat.zero_le _, rfl, Lib.hid (fun i x h => absurd h (Nat.not_lt_zero _)), Ext.refl _⟩
    case round =>
     obtain ⟨q, hq, rfl, hp, hxq⟩ := hrel
     have hq0 : (0 : Int) ≤ (q : Int) := by omega
     have hxx := HXX.out.trans' hxq; clear r0 r1 r2 rl rl0; have r0 := (HSW.out _ hxx).1; have r1 := (HSW.out _ hxx).2.1; have r2 := (HSW.out _ hxx).2.2; have rl := Nat.lt_of_lt_of_le ql hxx.size; have rl0 := Nat.lt_of_lt_of_le pl hxx.size; have HXQ := Lib.hid hxx; have HVQ := Lib.hid (HV2.out.ext (hx.trans' hxq)); clear hxx
     by_cases hlq : q < t.change.goes.length
     · have hlq' : (q : Int) < (t.change.goes.length : Int) := by omega
       obtain ⟨bb, off, x, v2, rfl, hbl, hxk, hxs, hxt, hc0, hc1'⟩ := AtomsR.at_ (HC2.out.ext HXQ.out) hlq; obtain ⟨Z, cz, rfl, _, _⟩ := SliceR.form hxt; have HH := Lib.hid (HHA.out x _ _ wr _ _ HVQ.out hxt); have HXK := Lib.hid hxk
       obtain ⟨hb', hbe⟩ : ∃ hb', hb' = hasA al x := ⟨_, rfl⟩
       rw [← hbe] at HH; have HBE := Lib.hid hbe; clear hxk hxt hbe
       cases hb'
       · have HF := Lib.hid (show txnB B t = false from by rw [HTB.out, HAC.out, all_stop (p := hasA al) HXK.out HBE.out.symm]; rfl)
         go_wp2_with (first
          | (go_at_call 104; refine HH.out.mono ?_; rintro e w3 ⟨rfl, hx3⟩
             have HX3 := Lib.hid (HXQ.out.trans' hx3)
             clear hx3)
          | fail)
         go_ret; rw [HF.out]; exact ⟨rfl, HX.out.trans' HX3.out⟩
       go_wp2_with (first
         | (go_at_call 104; refine HH.out.mono ?_; rintro e w3 ⟨rfl, hx3⟩
            have HX3 := Lib.hid (hxq.trans' hx3)
            clear hx3)
         | fail)
       go_roundw
       case rel =>
        exact ⟨q + 1, by omega, by go_num, Lib.hid (fun i y hi hy => by
         rcases Nat.lt_or_ge i q with h | h
         · exact hp.out i y h hy
         have e : i = q := by omega
         subst e; have h1 := HXK.out
         rw [hy] at h1; injection h1 with h1
         subst h1
         exact HBE.out.symm), HX3.out⟩
       case measure => simp [intOf]; omega
     have hlq' : ¬ (q : Int) < (t.change.goes.length : Int) := by omega
     have HF := Lib.hid (show txnB B t = fineB B.rules (doL al t.change) from by
      rw [HTB.out, HAC.out, all_upto (p := hasA al) (fun i x hi hx => hp.out i x (by omega) hx)]; rfl)
     clear hp
     go_wp2_with fail
     go_upto_region 14 with fail
     go_region_held3 (fun W' => W'.cell? ⟨w.heap.size, 0, none⟩ = some (.slice A1 B.rules.length c1) ∧ W'.cell? ⟨w.heap.size + 1, 1, none⟩ = some (.slice X t.change.comes.length cx) ∧ W'.cell? ⟨w.heap.size + 1, 2, none⟩ = some (.slice Y t.change.goes.length cy))
      (first | exact HSW.out _ HX7.out | exact HSW.out _ HX6.out | exact HSW.out _ (HXQ.out.trans' (Ext.refl wr).drew))
      (first
       | (go_at_call 105; refine (HDO.out _ _ _ (HXQ.out.trans' (Ext.refl wr).drew) (HVQ.out.ext (Ext.refl wr).drew)).mono ?_; rintro e w6 ⟨⟨v6, rfl, hv6⟩, hx6⟩
          obtain ⟨O6, o6, rfl, _, _⟩ := SliceR.form hv6; have HX6 := Lib.hid ((HXQ.out.trans' (Ext.refl wr).drew).trans' hx6); have HV6 := Lib.hid hv6
          clear hv6 hx6)
       | (go_at_call 46; refine (HFN.out _ _ _ HX6.out HV6.out).mono ?_; rintro e w7 ⟨rfl, hx7⟩
          have HX7 := Lib.hid (HX6.out.trans' hx7)
          clear hx7))
     all_goals go_wp2_with fail
     all_goals
      go_ret; rw [HF.out]; exact ⟨rfl, HX.out.trans' HX7.out⟩
 · have HF := Lib.hid (show txnB B t = false from HTB.out)
   go_enter Tryz.func209, Tryz.ntmps209
   go_upto_region 1 with fail
   rw [← hW]; clear hW
   go_wp2_with (first
    | (go_at_call 284; refine HAT.out.mono ?_; rintro e w1 ⟨⟨v1, rfl, hv1⟩, hx1⟩
       obtain ⟨O1, o1, rfl, _, _⟩ := SliceR.form hv1; have HX1 := Lib.hid hx1
       clear hv1 hx1)
    | fail)
   go_ret; rw [HF.out]; exact ⟨rfl, HX.out.trans' HX1.out⟩
 have HF := Lib.hid (show txnB B t = false from HTB.out)
 go_enter Tryz.func209, Tryz.ntmps209
 go_upto_region 1 with fail
 rw [← hW]; clear hW
 go_wp2_with (first
  | (go_at_call 284; refine HAT.out.mono ?_; rintro e w1 ⟨⟨v1, rfl, hv1⟩, hx1⟩
     obtain ⟨O1, o1, rfl, _, _⟩ := SliceR.form hv1; have HX1 := Lib.hid hx1; have r1 := (HSW.out _ hx1).2.1; have r2 := (HSW.out _ hx1).2.2; have rl := Nat.lt_of_lt_of_le ql hx1.size
     clear hv1 hx1 p0 p1 p2 p3 q0 q1 q2)
  | (go_at_call 47; refine (HCO.out _ HX1.out).mono ?_; rintro e w2 ⟨rfl, hx2⟩
     have HX2 := Lib.hid (HX1.out.trans' hx2)
     clear hx2)
  | fail)
 go_ret; rw [HF.out]; exact ⟨rfl, HX.out.trans' HX2.out⟩
end Go.Proofs.YtmihponoillihaaGreatDoor
namespace Go.Proofs.YtmihponoillihaaGreatDoor
open Go.RowKit
section
variable {α : Type} {k : Kind α} {g : Nat} {S S' : Nat → Prop} {w w' : World} {cs cs' : Array Value} {xs : List α} {n : Nat}
end
theorem part_info : (Tryz.prog.info? 125).map (fun i => (i.zero, i.size, i.bytes)) = some (some (.agg #[.bool false, .string ByteArray.empty, .slice none 0 0]), 3, 48) := by kernel_rfl
theorem rule_info : (Tryz.prog.info? 56).map (fun i => (i.zero, i.size, i.bytes)) = some (some (.agg #[.string ByteArray.empty, .slice none 0 0, .slice none 0 0]), 3, 64) := by kernel_rfl
end Go.Proofs.YtmihponoillihaaGreatDoor
namespace Go.Proofs.YtmihponoillihaaGreatDoor
open Go.RowKit
section
open Go.RowKit
set_option maxRecDepth 100000 in
set_option maxHeartbeats 8000000 in
theorem l7Rules_any (v : Value) (l : List GR) (w : World) {S : Nat → Prop} (hv : RulesR S w v l) (hn : l.length ≤ 4194304) (hp : ∀ r ∈ l, r.head.args.length ≤ 4194304 ∧ r.body.length ≤ 4194304 ∧ ∀ p ∈ r.body, p.atom.args.length ≤ 4194304) :
 Calls Tryz.prog 70 #[v] w fun e w' => (∃ u, e = .returned u ∧ RulesR (From w.heap.size) w' u l) ∧ Ext w w' := by
 obtain ⟨A, c, rfl, hc1, hc2⟩ := SliceR.form hv; obtain ⟨i0, hi0, hzz0, hzz1, hzz2⟩ := info_parts part_info; obtain ⟨j0, hj0, hy0, hy1, hy2⟩ := info_parts rule_info; have HV := Lib.hid hv; have HP := Lib.hid hp; clear hv hp
 go_enter Tryz.func70, Tryz.ntmps70
 go_wp2
 go_loopw [3, 4] (fun v i wr => ∃ k : Nat, k ≤ l.length ∧ i = .int .i64 k ∧ Hid (OwnK kRule w.heap.size 56 (From w.heap.size) wr v (l.take k)) ∧ Ext w wr) (fun _ i _ => l.length - (intOf i).toNat)
 case atStart => exact ⟨0, Nat.zero_le _, rfl, OwnK.empty rfl (Nat.le_refl _), (Ext.refl _).alloc _⟩
 case round =>
  obtain ⟨k, hk, rfl, ho, hx⟩ := hrel; obtain ⟨A0, n0, c0, rfl, hn0, ha0, hb0⟩ := ho.out.form2; have hsz := hx.size
  have hk0 : (0 : Int) ≤ (k : Int) := by omega
  by_cases hlt : k < l.length
  · obtain ⟨b, off, x, v1, u1, rfl, hb, hxk, hxs, ht, hu, p0, p1, p2⟩ := RulesR.at_ (HV.out.ext hx) hlt
    obtain ⟨A1, c1, rfl, ha1, hb1⟩ := SliceR.form ht; obtain ⟨B1, d1, rfl, hd1, hd2⟩ := SliceR.form hu; have HX := Lib.hid (HP.out x (List.mem_of_getElem? hxk))
    have HK := Lib.hid (show l.take (k + 1) = l.take k ++ [x] from by
     obtain ⟨hi, rfl⟩ := List.getElem?_eq_some_iff.1 hxk
     exact List.take_succ_eq_append_getElem hi)
    have HT := Lib.hid ht; have HU := Lib.hid hu
    have hk1 : (k : Int) < (l.length : Int) := by omega
    have hbn : b < w.heap.size := by
     obtain ⟨b', _, _, _, _, hA, hb', _⟩ := RulesR.at_ HV.out hlt
     injection hA with hA; injection hA with hA _
     rw [hA]; exact hb'
    clear hxk ht hu
    go_wp2_with (go_at_call 130; refine (l3Atom_any x.head _ _ HT.out HX.out.1).mono ?_; rintro e w1 ⟨⟨v2, rfl, ht2⟩, hx1⟩; obtain ⟨A2, c2, rfl, ha2, hb2⟩ := SliceR.form ht2; have HT2 := Lib.hid ht2; have HX1 := Lib.hid hx1; have p2' := (hx1.cells.1 b (off + k * 3 + 2) hb).trans p2; have hz1 := hx1.size; clear ht2 hx1)
    obtain ⟨N0, hN0⟩ : ∃ N0, N0 = wr.heap.size := ⟨_, rfl⟩
    have HT2N := Lib.hid (show TermsR (From N0) w1 (.slice A2 x.head.args.length c2) x.head.args from by rw [hN0]; exact HT2.out)
    have hN1 : w.heap.size ≤ N0 := by omega
    have hN2 : N0 ≤ w1.heap.size := by omega
    have HN3 := Lib.hid (show ∀ g, (Value.slice A0 n0 c0).ownBlock = some g → g < N0 from fun g hg => by rw [hN0]; exact (ho.out.at_ g hg).2); clear hN0; have HB5 := Lib.hid (Blk.new w1 56 #[.string x.head.n, .slice A2 x.head.args.length c2, .slice none 0 0])
    go_loopw [6] (fun j wq => ∃ (q : Nat) (y : Value), q ≤ x.body.length ∧ j = .int .i64 q ∧ Hid (Blk wq w1.heap.size 56 #[.string x.head.n, .slice A2 x.head.args.length c2, y]) ∧ Hid (OwnK kPart (w1.heap.size + 1) 125 (From (w1.heap.size + 1)) wq y (x.body.take q)) ∧ Ext w1 wq ∧ w1.heap.size + 1 ≤ wq.heap.size) (fun j _ => x.body.length - (intOf j).toNat)
    case atStart => exact ⟨0, _, Nat.zero_le _, rfl, HB5, OwnK.nil, (Ext.refl _).alloc _, by simp⟩
    case round =>
     obtain ⟨q, y, hq, rfl, hbq, hoq, hxq, hzq⟩ := hrel; obtain ⟨A3, n3, c3, rfl, hn3, ha3, hb3⟩ := hoq.out.form2
     have hq0 : (0 : Int) ≤ (q : Int) := by omega
     have r2 := hbq.out.cell 2; have f2 := hbq.out.frozen 2; have s2 := (hxq.cells.1 b (off + k * 3 + 2) (by omega)).trans p2'; have s0 := hbq.out.cell 0; have s1 := hbq.out.cell 1
     by_cases hlq : q < x.body.length
     · obtain ⟨bb, ob, z, v3, rfl, hbb, hzq', hzs, htz, t0, t1, t2⟩ := PartsR.at_ (HU.out.ext (HX1.out.trans' hxq)) hlq
       obtain ⟨A4, c4, rfl, ha4, hb4⟩ := SliceR.form htz
       have hq1 : (q : Int) < (x.body.length : Int) := by omega
       have HZ := Lib.hid (show z.atom.args.length ≤ 4194304 from HX.out.2.2 z (List.mem_of_getElem? hzq'))
       have HKQ := Lib.hid (show x.body.take (q + 1) = x.body.take q ++ [z] from by
        obtain ⟨hi, rfl⟩ := List.getElem?_eq_some_iff.1 hzq'
        exact List.take_succ_eq_append_getElem hi)
       have HTZ := Lib.hid htz
       have hlen3 : (x.body.take q).length ≤ 4194304 := by rw [List.length_take]; have := HX.out.2.1; omega
       clear hzq' htz
       go_wp2_with (fail)
       have hsB : b < wr.heap.size := by omega
       have hne1 : w1.heap.size ≠ b := by omega
       have hbbn : bb < w1.heap.size := by
        obtain ⟨b', _, _, _, hA, hb', _⟩ := PartsR.at_ HU.out hlq
        injection hA with hA; injection hA with hA _
        rw [hA]; omega
       have hne2 : w1.heap.size ≠ bb := by omega
       have g0 : wr.drew.cell? ⟨b, off + k * 3 + 2, none⟩ = some (.slice (some ⟨bb, ob, none⟩) x.body.length d1) := s2; refine wp_region_noPanic ?_; refine wp_region_held_drew (S := (fun w' => w'.cell? ⟨b, off + k * 3 + 2, none⟩ = some (.slice (some ⟨bb, ob, none⟩) x.body.length d1) ∧ w'.cell? ⟨bb, ob + q * 3, none⟩ = some (.bool z.no) ∧ w'.cell? ⟨bb, ob + q * 3 + 1, none⟩ = some (.string z.atom.n) ∧ w'.cell? ⟨bb, ob + q * 3 + 2, none⟩ = some (.slice A4 z.atom.args.length c4))) (by kernel_rfl) ?_ (fun hHeld => ?_)
       · (try dsimp only); (first | exact ⟨s2, t0, t1, t2⟩ | exact HS4.out | exact HSA.out | exact HS5.out | exact HS6.out)
       refine wpAnyH_take (i := 0) (oi := _) (v := ?_) rfl (by kernel_rfl) (by kernel_rfl) (by kernel_rfl) (fun _ _ _ h => h) (Or.inl ⟨by rfl, ?_⟩) (by assumption) ?_; rotate_left
       · (intro w hSw; (try dsimp only at hSw); go_simp) <;> with_reducible rfl
       try simp only [Act.put, stz]
       refine wpAnyH_take (i := 2) (oi := _) (v := ?_) rfl (by kernel_rfl) (by kernel_rfl) (by kernel_rfl) (fun _ _ _ h => h) (Or.inl ⟨by rfl, ?_⟩) (by assumption) ?_; rotate_left
       · (intro w hSw; (try dsimp only at hSw); go_simp) <;> with_reducible rfl
       try simp only [Act.put, stz]
       refine wpAnyH_take (i := 3) (oi := _) (v := ?_) rfl (by kernel_rfl) (by kernel_rfl) (by kernel_rfl) (fun _ _ _ h => h) (Or.inl ⟨by rfl, ?_⟩) (by assumption) ?_; rotate_left
       · (intro w hSw; (try dsimp only at hSw); go_simp) <;> with_reducible rfl
       try simp only [Act.put, stz]
       refine wpAnyH_take (i := 4) (oi := _) (v := ?_) rfl (by kernel_rfl) (by kernel_rfl) (by kernel_rfl) (fun _ _ _ h => h) (Or.inl ⟨by rfl, ?_⟩) (by assumption) ?_; rotate_left
       · (intro w hSw; (try dsimp only at hSw); go_simp) <;> with_reducible rfl
       try simp only [Act.put, stz]
       refine wpAnyH_take (i := 5) (oi := _) (v := ?_) rfl (by kernel_rfl) (by kernel_rfl) (by kernel_rfl) (fun _ _ _ h => h) (Or.inl ⟨by rfl, ?_⟩) (by assumption) ?_; rotate_left
       · (intro w hSw; (try dsimp only at hSw); go_simp) <;> with_reducible rfl
       try simp only [Act.put, stz]
       refine wpAnyH_take (i := 6) (oi := _) (v := ?_) rfl (by kernel_rfl) (by kernel_rfl) (by kernel_rfl) (fun _ _ _ h => h) (Or.inl ⟨by rfl, ?_⟩) (by assumption) ?_; rotate_left
       · (intro w hSw; (try dsimp only at hSw); go_simp) <;> with_reducible rfl
       try simp only [Act.put, stz]
       refine wpAnyH_take (i := 7) (oi := _) (v := ?_) rfl (by kernel_rfl) (by kernel_rfl) (by kernel_rfl) (fun _ _ _ h => h) (Or.inl ⟨by rfl, ?_⟩) (by assumption) ?_; rotate_left
       · (intro w hSw; (try dsimp only at hSw); go_simp) <;> with_reducible rfl
       try simp only [Act.put, stz]
       refine wpAnyH_take (i := 8) (oi := _) (v := ?_) rfl (by kernel_rfl) (by kernel_rfl) (by kernel_rfl) (fun _ _ _ h => h) (Or.inl ⟨by rfl, ?_⟩) (by assumption) ?_; rotate_left
       · (intro w hSw; (try dsimp only at hSw); go_simp) <;> with_reducible rfl
       try simp only [Act.put, stz]
       refine wpAnyH_take (i := 9) (oi := _) (v := ?_) rfl (by kernel_rfl) (by kernel_rfl) (by kernel_rfl) (fun _ _ _ h => h) (Or.inl ⟨by rfl, ?_⟩) (by assumption) ?_; rotate_left
       · (intro w hSw; (try dsimp only at hSw); go_simp) <;> with_reducible rfl
       try simp only [Act.put, stz]
       refine wpAnyH_take (i := 10) (oi := _) (v := ?_) rfl (by kernel_rfl) (by kernel_rfl) (by kernel_rfl) (fun _ _ _ h => h) (Or.inl ⟨by rfl, ?_⟩) (by assumption) ?_; rotate_left
       · (intro w hSw; (try dsimp only at hSw); go_simp) <;> with_reducible rfl
       try simp only [Act.put, stz]
       refine wpAnyH_take (i := 11) (oi := _) (v := ?_) rfl (by kernel_rfl) (by kernel_rfl) (by kernel_rfl) (fun _ _ _ h => h) (Or.inl ⟨by rfl, ?_⟩) (by assumption) ?_; rotate_left
       · (intro w hSw; (try dsimp only at hSw); go_simp) <;> with_reducible rfl
       try simp only [Act.put, stz]
       refine wpAnyH_take (i := 12) (oi := _) (v := ?_) rfl (by kernel_rfl) (by kernel_rfl) (by kernel_rfl) (fun _ _ _ h => h) (Or.inl ⟨by rfl, ?_⟩) (by assumption) ?_; rotate_left
       · (intro w hSw; (try dsimp only at hSw); go_simp) <;> with_reducible rfl
       try simp only [Act.put, stz]
       refine wpAnyH_take (i := 13) (oi := _) (v := ?_) rfl (by kernel_rfl) (by kernel_rfl) (by kernel_rfl) (fun _ _ _ h => h) (Or.inl ⟨by rfl, ?_⟩) (by assumption) ?_; rotate_left
       · (intro w hSw; (try dsimp only at hSw); go_simp) <;> with_reducible rfl
       try simp only [Act.put, stz]
       refine wpAnyH_take (i := 14) (oi := _) (v := ?_) rfl (by kernel_rfl) (by kernel_rfl) (by kernel_rfl) (fun _ _ _ h => h) (Or.inl ⟨by rfl, ?_⟩) (by assumption) ?_; rotate_left
       · (intro w hSw; (try dsimp only at hSw); go_simp) <;> with_reducible rfl
       try simp only [Act.put, stz]
       refine wpAnyH_take (i := 15) (oi := _) (v := ?_) rfl (by kernel_rfl) (by kernel_rfl) (by kernel_rfl) (fun _ _ _ h => h) (Or.inl ⟨by rfl, ?_⟩) (by assumption) ?_; rotate_left
       · (intro w hSw; (try dsimp only at hSw); go_simp) <;> with_reducible rfl
       try simp only [Act.put, stz]
       refine wpAnyH_take (i := 16) (oi := _) (v := ?_) rfl (by kernel_rfl) (by kernel_rfl) (by kernel_rfl) (fun _ _ _ h => h) (Or.inl ⟨by rfl, ?_⟩) (by assumption) ?_; rotate_left
       · (intro w hSw; (try dsimp only at hSw); go_simp) <;> with_reducible rfl
       try simp only [Act.put, stz]
       refine wpAnyH_take (i := 17) (oi := _) (v := ?_) rfl (by kernel_rfl) (by kernel_rfl) (by kernel_rfl) (fun _ _ _ h => h) (Or.inl ⟨by rfl, ?_⟩) (by assumption) ?_; rotate_left
       · (intro w hSw; (try dsimp only at hSw); go_simp) <;> with_reducible rfl
       try simp only [Act.put, stz]
       refine wpAnyH_take (i := 18) (oi := _) (v := ?_) rfl (by kernel_rfl) (by kernel_rfl) (by kernel_rfl) (fun _ _ _ h => h) (Or.inl ⟨by rfl, ?_⟩) (by assumption) ?_; rotate_left
       · (intro w hSw; (try dsimp only at hSw); go_simp) <;> with_reducible rfl
       try simp only [Act.put, stz]
       refine wpAnyH_take (i := 19) (oi := _) (v := ?_) rfl (by kernel_rfl) (by kernel_rfl) (by kernel_rfl) (fun _ _ _ h => h) (Or.inl ⟨by rfl, ?_⟩) (by assumption) ?_; rotate_left
       · (intro w hSw; (try dsimp only at hSw); go_simp) <;> with_reducible rfl
       try simp only [Act.put, stz]
       refine wpAnyH_ready (rs := [1, 20]) (by kernel_rfl) (by simp) ?_; refine AllReadyH.cons (o := _) rfl (fun K hK => ?_) ?_
       · go_simp
         refine hK.out _ _ ?_ (fun hNew => ?_)
         · (try dsimp only); (first | exact ⟨s2, t0, t1, t2⟩ | exact HS4.out | exact HSA.out | exact HS5.out | exact HS6.out)
         clear hK K hHeld; have hHeld := hNew; clear hNew
         try simp only [Act.put, stz]
         refine wpAnyH_ready (rs := [20]) (by kernel_rfl) (by simp) ?_; refine AllReadyH.cons (o := _) rfl (fun K hK => ?_) ?_
         · go_simp
           go_at_call 130; refine (l3Atom_any z.atom _ _ HTZ.out.drew_ HZ.out).mono ?_; rintro e w4 ⟨⟨v4, rfl, ht4⟩, hx4⟩
           obtain ⟨A5, c5, rfl, ha5, hb5⟩ := SliceR.form ht4; have HX4 := Lib.hid (show Ext wr w4 from (Ext.refl wr).drew.trans' hx4); have HT4 := Lib.hid (show TermsR (From wr.heap.size) w4 (.slice A5 z.atom.args.length c5) z.atom.args from ht4); have r2' := (hbq.out.ext HX4.out).cell 2; have s2' := (HX4.out.cells.1 b (off + k * 3 + 2) hsB).trans s2; have t0' := (HX4.out.cells.1 bb (ob + q * 3) hbb).trans t0; have t1' := (HX4.out.cells.1 bb (ob + q * 3 + 1) hbb).trans t1; have t2' := (HX4.out.cells.1 bb (ob + q * 3 + 2) hbb).trans t2; have r2'' := ((hbq.out.ext HX4.out).alloc (.cells #[.bool z.no, .string z.atom.n, .slice A5 z.atom.args.length c5] 125)).cell 2; have hz4 := HX4.out.size; have HS4 := Lib.hid (And.intro s2' (And.intro t0' (And.intro t1' t2'))); have hal := (Ext.refl w4).alloc (.cells #[.bool z.no, .string z.atom.n, .slice A5 z.atom.args.length c5] 125); have HSA := Lib.hid (And.intro ((hal.cells.1 b (off + k * 3 + 2) (by omega)).trans s2') (And.intro ((hal.cells.1 bb (ob + q * 3) (by omega)).trans t0') (And.intro ((hal.cells.1 bb (ob + q * 3 + 1) (by omega)).trans t1') ((hal.cells.1 bb (ob + q * 3 + 2) (by omega)).trans t2')))); clear ht4 hx4 hal; refine hK.out _ _ ?_ (fun hNew => ?_)
           · (try dsimp only); (first | exact ⟨s2, t0, t1, t2⟩ | exact HS4.out | exact HSA.out | exact HS5.out | exact HS6.out)
           clear hK K hHeld; have hHeld := hNew; clear hNew
           try simp only [Act.put, stz]
           refine wpAnyH_take (i := 21) (oi := _) (v := ?_) rfl (by kernel_rfl) (by kernel_rfl) (by kernel_rfl) (fun _ _ _ h => h) (Or.inl ⟨by rfl, ?_⟩) (by assumption) ?_; rotate_left
           · (intro w hSw; (try dsimp only at hSw); go_simp) <;> with_reducible rfl
           try simp only [Act.put, stz]
           refine wpAnyH_ready (rs := [22]) (by kernel_rfl) (by simp) ?_; refine AllReadyH.cons (o := _) rfl (fun K hK => ?_) ?_
           · go_simp
             refine hK.out _ _ ?_ (fun hNew => ?_)
             · (try dsimp only); (first | exact ⟨s2, t0, t1, t2⟩ | exact HS4.out | exact HSA.out | exact HS5.out | exact HS6.out)
             clear hK K hHeld; have hHeld := hNew; clear hNew
             try simp only [Act.put, stz]
             refine wpAnyH_ready (rs := [23]) (by kernel_rfl) (by simp) ?_; refine AllReadyH.cons (o := _) rfl (fun K hK => ?_) ?_
             · refine step_appK (o := ⟨some 54, _, _, _, _, _⟩) (k := kPart) (S := From (w1.heap.size + 1)) (T := From wr.heap.size) (base := w1.heap.size + 1) (xs := x.body.take q) (ys := [z]) (by rfl) (.tmp 32) (.tmp 53) 49 (by rfl) i0 _ 48 Tryz.underlying49 hi0 hzz0 hzz1 hzz2 (by rfl) (by rfl)
                 (hoq.out.ext (HX4.out.alloc _)) _ 1 1 (by rfl) (ElemsK.one (k := kPart) (x := z) (Blk.at_new rfl) ⟨_, rfl, hzs, HT4.out.ext ((Ext.refl _).alloc _)⟩) (fun b hb _ => Nat.le_trans hzq hb) (fun g hg hT => absurd (hoq.out.at_ g hg).2 (Nat.not_lt.2 hT)) (maxOf (by omega)) (by omega) (by go_size) ?_
               intro v5 w5 hap; obtain ⟨A6, n6, c6, rfl, hn6, ha6, hb6⟩ := hap.own.form2; have HAP := Lib.hid hap; have hb5' := ((hbq.out.ext HX4.out).alloc (.cells #[.bool z.no, .string z.atom.n, .slice A5 z.atom.args.length c5] 125)).below hap.below (by omega); have p3 := hb5'.cell 2; have f3 := hb5'.frozen 2; have HB5' := Lib.hid hb5'; have HS5 := Lib.hid (And.intro ((hap.below.cell (p := ⟨b, off + k * 3 + 2, none⟩) (by show b < _; omega)).trans HSA.out.1) (And.intro ((hap.below.cell (p := ⟨bb, ob + q * 3, none⟩) (by show bb < _; omega)).trans HSA.out.2.1) (And.intro ((hap.below.cell (p := ⟨bb, ob + q * 3 + 1, none⟩) (by show bb < _; omega)).trans HSA.out.2.2.1) ((hap.below.cell (p := ⟨bb, ob + q * 3 + 2, none⟩) (by show bb < _; omega)).trans HSA.out.2.2.2)))); have HS6 := Lib.hid (And.intro ((World.cell?_setCell_far w5 ⟨w1.heap.size, 2, none⟩ ⟨b, off + k * 3 + 2, none⟩ (.slice A6 n6 c6) hne1).trans HS5.out.1) (And.intro ((World.cell?_setCell_far w5 ⟨w1.heap.size, 2, none⟩ ⟨bb, ob + q * 3, none⟩ (.slice A6 n6 c6) hne2).trans HS5.out.2.1) (And.intro ((World.cell?_setCell_far w5 ⟨w1.heap.size, 2, none⟩ ⟨bb, ob + q * 3 + 1, none⟩ (.slice A6 n6 c6) hne2).trans HS5.out.2.2.1) ((World.cell?_setCell_far w5 ⟨w1.heap.size, 2, none⟩ ⟨bb, ob + q * 3 + 2, none⟩ (.slice A6 n6 c6) hne2).trans HS5.out.2.2.2)))); clear hap hb5'; refine hK.out _ _ ?_ (fun hNew => ?_)
               · (try dsimp only); (first | exact ⟨s2, t0, t1, t2⟩ | exact HS4.out | exact HSA.out | exact HS5.out | exact HS6.out)
               clear hK K hHeld; have hHeld := hNew; clear hNew
               try simp only [Act.put, stz]
               refine wpAnyH_take (i := 24) (oi := _) (v := ?_) rfl (by kernel_rfl) (by kernel_rfl) (by kernel_rfl) (fun _ _ _ h => h) (Or.inl ⟨by rfl, ?_⟩) (by assumption) ?_; rotate_left
               · (intro w hSw; (try dsimp only at hSw); go_simp) <;> with_reducible rfl
               try simp only [Act.put, stz]
               refine wpAnyH_ready (rs := [25]) (by kernel_rfl) (by simp) ?_; refine AllReadyH.cons (o := _) rfl (fun K hK => ?_) ?_
               · go_simp
                 refine hK.out _ _ ?_ (fun hNew => ?_)
                 · (try dsimp only); (first | exact ⟨s2, t0, t1, t2⟩ | exact HS4.out | exact HSA.out | exact HS5.out | exact HS6.out)
                 clear hK K hHeld; have hHeld := hNew; clear hNew
                 try simp only [Act.put, stz]
                 refine wpAnyH_done (by kernel_rfl) ?_ _; refine NoPanic.normal ?_; go_wp2
                 go_roundw
                 case rel =>
                  refine ⟨q + 1, _, by omega, by go_num, Lib.hid (by simpa using HB5'.out.set_ 2 (.slice A6 n6 c6)), Lib.hid (by rw [HKQ.out]; exact HAP.out.own.set (p := ⟨w1.heap.size, 2, none⟩) (Nat.lt_succ_self _) (Nat.not_succ_le_self _) _), Ext.setNew (a := w1) (HAP.out.toExt ((hxq.trans' HX4.out).alloc _) (Nat.le_succ _)) (Nat.le_refl _) _, by have := HAP.out.below.size; rw [World.size_alloc] at this; go_size⟩
                 case measure => simp [intOf]; omega
               exact AllReadyH.nil
             exact AllReadyH.nil
           exact AllReadyH.nil
         exact AllReadyH.nil
       refine AllReadyH.cons (o := _) rfl (fun K hK => ?_) ?_
       · go_simp
         go_at_call 130; refine (l3Atom_any z.atom _ _ HTZ.out.drew_ HZ.out).mono ?_; rintro e w4 ⟨⟨v4, rfl, ht4⟩, hx4⟩
         obtain ⟨A5, c5, rfl, ha5, hb5⟩ := SliceR.form ht4; have HX4 := Lib.hid (show Ext wr w4 from (Ext.refl wr).drew.trans' hx4); have HT4 := Lib.hid (show TermsR (From wr.heap.size) w4 (.slice A5 z.atom.args.length c5) z.atom.args from ht4); have r2' := (hbq.out.ext HX4.out).cell 2; have s2' := (HX4.out.cells.1 b (off + k * 3 + 2) hsB).trans s2; have t0' := (HX4.out.cells.1 bb (ob + q * 3) hbb).trans t0; have t1' := (HX4.out.cells.1 bb (ob + q * 3 + 1) hbb).trans t1; have t2' := (HX4.out.cells.1 bb (ob + q * 3 + 2) hbb).trans t2; have r2'' := ((hbq.out.ext HX4.out).alloc (.cells #[.bool z.no, .string z.atom.n, .slice A5 z.atom.args.length c5] 125)).cell 2; have hz4 := HX4.out.size; have HS4 := Lib.hid (And.intro s2' (And.intro t0' (And.intro t1' t2'))); have hal := (Ext.refl w4).alloc (.cells #[.bool z.no, .string z.atom.n, .slice A5 z.atom.args.length c5] 125); have HSA := Lib.hid (And.intro ((hal.cells.1 b (off + k * 3 + 2) (by omega)).trans s2') (And.intro ((hal.cells.1 bb (ob + q * 3) (by omega)).trans t0') (And.intro ((hal.cells.1 bb (ob + q * 3 + 1) (by omega)).trans t1') ((hal.cells.1 bb (ob + q * 3 + 2) (by omega)).trans t2')))); clear ht4 hx4 hal; refine hK.out _ _ ?_ (fun hNew => ?_)
         · (try dsimp only); (first | exact ⟨s2, t0, t1, t2⟩ | exact HS4.out | exact HSA.out | exact HS5.out | exact HS6.out)
         clear hK K hHeld; have hHeld := hNew; clear hNew
         try simp only [Act.put, stz]
         refine wpAnyH_take (i := 21) (oi := _) (v := ?_) rfl (by kernel_rfl) (by kernel_rfl) (by kernel_rfl) (fun _ _ _ h => h) (Or.inl ⟨by rfl, ?_⟩) (by assumption) ?_; rotate_left
         · (intro w hSw; (try dsimp only at hSw); go_simp) <;> with_reducible rfl
         try simp only [Act.put, stz]
         refine wpAnyH_ready (rs := [1, 22]) (by kernel_rfl) (by simp) ?_; refine AllReadyH.cons (o := _) rfl (fun K hK => ?_) ?_
         · go_simp
           refine hK.out _ _ ?_ (fun hNew => ?_)
           · (try dsimp only); (first | exact ⟨s2, t0, t1, t2⟩ | exact HS4.out | exact HSA.out | exact HS5.out | exact HS6.out)
           clear hK K hHeld; have hHeld := hNew; clear hNew
           try simp only [Act.put, stz]
           refine wpAnyH_ready (rs := [22]) (by kernel_rfl) (by simp) ?_; refine AllReadyH.cons (o := _) rfl (fun K hK => ?_) ?_
           · go_simp
             refine hK.out _ _ ?_ (fun hNew => ?_)
             · (try dsimp only); (first | exact ⟨s2, t0, t1, t2⟩ | exact HS4.out | exact HSA.out | exact HS5.out | exact HS6.out)
             clear hK K hHeld; have hHeld := hNew; clear hNew
             try simp only [Act.put, stz]
             refine wpAnyH_ready (rs := [23]) (by kernel_rfl) (by simp) ?_; refine AllReadyH.cons (o := _) rfl (fun K hK => ?_) ?_
             · refine step_appK (o := ⟨some 54, _, _, _, _, _⟩) (k := kPart) (S := From (w1.heap.size + 1)) (T := From wr.heap.size) (base := w1.heap.size + 1) (xs := x.body.take q) (ys := [z]) (by rfl) (.tmp 32) (.tmp 53) 49 (by rfl) i0 _ 48 Tryz.underlying49 hi0 hzz0 hzz1 hzz2 (by rfl) (by rfl)
                 (hoq.out.ext (HX4.out.alloc _)) _ 1 1 (by rfl) (ElemsK.one (k := kPart) (x := z) (Blk.at_new rfl) ⟨_, rfl, hzs, HT4.out.ext ((Ext.refl _).alloc _)⟩) (fun b hb _ => Nat.le_trans hzq hb) (fun g hg hT => absurd (hoq.out.at_ g hg).2 (Nat.not_lt.2 hT)) (maxOf (by omega)) (by omega) (by go_size) ?_
               intro v5 w5 hap; obtain ⟨A6, n6, c6, rfl, hn6, ha6, hb6⟩ := hap.own.form2; have HAP := Lib.hid hap; have hb5' := ((hbq.out.ext HX4.out).alloc (.cells #[.bool z.no, .string z.atom.n, .slice A5 z.atom.args.length c5] 125)).below hap.below (by omega); have p3 := hb5'.cell 2; have f3 := hb5'.frozen 2; have HB5' := Lib.hid hb5'; have HS5 := Lib.hid (And.intro ((hap.below.cell (p := ⟨b, off + k * 3 + 2, none⟩) (by show b < _; omega)).trans HSA.out.1) (And.intro ((hap.below.cell (p := ⟨bb, ob + q * 3, none⟩) (by show bb < _; omega)).trans HSA.out.2.1) (And.intro ((hap.below.cell (p := ⟨bb, ob + q * 3 + 1, none⟩) (by show bb < _; omega)).trans HSA.out.2.2.1) ((hap.below.cell (p := ⟨bb, ob + q * 3 + 2, none⟩) (by show bb < _; omega)).trans HSA.out.2.2.2)))); have HS6 := Lib.hid (And.intro ((World.cell?_setCell_far w5 ⟨w1.heap.size, 2, none⟩ ⟨b, off + k * 3 + 2, none⟩ (.slice A6 n6 c6) hne1).trans HS5.out.1) (And.intro ((World.cell?_setCell_far w5 ⟨w1.heap.size, 2, none⟩ ⟨bb, ob + q * 3, none⟩ (.slice A6 n6 c6) hne2).trans HS5.out.2.1) (And.intro ((World.cell?_setCell_far w5 ⟨w1.heap.size, 2, none⟩ ⟨bb, ob + q * 3 + 1, none⟩ (.slice A6 n6 c6) hne2).trans HS5.out.2.2.1) ((World.cell?_setCell_far w5 ⟨w1.heap.size, 2, none⟩ ⟨bb, ob + q * 3 + 2, none⟩ (.slice A6 n6 c6) hne2).trans HS5.out.2.2.2)))); clear hap hb5'; refine hK.out _ _ ?_ (fun hNew => ?_)
               · (try dsimp only); (first | exact ⟨s2, t0, t1, t2⟩ | exact HS4.out | exact HSA.out | exact HS5.out | exact HS6.out)
               clear hK K hHeld; have hHeld := hNew; clear hNew
               try simp only [Act.put, stz]
               refine wpAnyH_take (i := 24) (oi := _) (v := ?_) rfl (by kernel_rfl) (by kernel_rfl) (by kernel_rfl) (fun _ _ _ h => h) (Or.inl ⟨by rfl, ?_⟩) (by assumption) ?_; rotate_left
               · (intro w hSw; (try dsimp only at hSw); go_simp) <;> with_reducible rfl
               try simp only [Act.put, stz]
               refine wpAnyH_ready (rs := [25]) (by kernel_rfl) (by simp) ?_; refine AllReadyH.cons (o := _) rfl (fun K hK => ?_) ?_
               · go_simp
                 refine hK.out _ _ ?_ (fun hNew => ?_)
                 · (try dsimp only); (first | exact ⟨s2, t0, t1, t2⟩ | exact HS4.out | exact HSA.out | exact HS5.out | exact HS6.out)
                 clear hK K hHeld; have hHeld := hNew; clear hNew
                 try simp only [Act.put, stz]
                 refine wpAnyH_done (by kernel_rfl) ?_ _; refine NoPanic.normal ?_; go_wp2
                 go_roundw
                 case rel =>
                  refine ⟨q + 1, _, by omega, by go_num, Lib.hid (by simpa using HB5'.out.set_ 2 (.slice A6 n6 c6)), Lib.hid (by rw [HKQ.out]; exact HAP.out.own.set (p := ⟨w1.heap.size, 2, none⟩) (Nat.lt_succ_self _) (Nat.not_succ_le_self _) _), Ext.setNew (a := w1) (HAP.out.toExt ((hxq.trans' HX4.out).alloc _) (Nat.le_succ _)) (Nat.le_refl _) _, by have := HAP.out.below.size; rw [World.size_alloc] at this; go_size⟩
                 case measure => simp [intOf]; omega
               exact AllReadyH.nil
             exact AllReadyH.nil
           exact AllReadyH.nil
         refine AllReadyH.cons (o := _) rfl (fun K hK => ?_) ?_
         · go_simp
           refine hK.out _ _ ?_ (fun hNew => ?_)
           · (try dsimp only); (first | exact ⟨s2, t0, t1, t2⟩ | exact HS4.out | exact HSA.out | exact HS5.out | exact HS6.out)
           clear hK K hHeld; have hHeld := hNew; clear hNew
           try simp only [Act.put, stz]
           refine wpAnyH_ready (rs := [1]) (by kernel_rfl) (by simp) ?_; refine AllReadyH.cons (o := _) rfl (fun K hK => ?_) ?_
           · go_simp
             refine hK.out _ _ ?_ (fun hNew => ?_)
             · (try dsimp only); (first | exact ⟨s2, t0, t1, t2⟩ | exact HS4.out | exact HSA.out | exact HS5.out | exact HS6.out)
             clear hK K hHeld; have hHeld := hNew; clear hNew
             try simp only [Act.put, stz]
             refine wpAnyH_ready (rs := [23]) (by kernel_rfl) (by simp) ?_; refine AllReadyH.cons (o := _) rfl (fun K hK => ?_) ?_
             · refine step_appK (o := ⟨some 54, _, _, _, _, _⟩) (k := kPart) (S := From (w1.heap.size + 1)) (T := From wr.heap.size) (base := w1.heap.size + 1) (xs := x.body.take q) (ys := [z]) (by rfl) (.tmp 32) (.tmp 53) 49 (by rfl) i0 _ 48 Tryz.underlying49 hi0 hzz0 hzz1 hzz2 (by rfl) (by rfl)
                 (hoq.out.ext (HX4.out.alloc _)) _ 1 1 (by rfl) (ElemsK.one (k := kPart) (x := z) (Blk.at_new rfl) ⟨_, rfl, hzs, HT4.out.ext ((Ext.refl _).alloc _)⟩) (fun b hb _ => Nat.le_trans hzq hb) (fun g hg hT => absurd (hoq.out.at_ g hg).2 (Nat.not_lt.2 hT)) (maxOf (by omega)) (by omega) (by go_size) ?_
               intro v5 w5 hap; obtain ⟨A6, n6, c6, rfl, hn6, ha6, hb6⟩ := hap.own.form2; have HAP := Lib.hid hap; have hb5' := ((hbq.out.ext HX4.out).alloc (.cells #[.bool z.no, .string z.atom.n, .slice A5 z.atom.args.length c5] 125)).below hap.below (by omega); have p3 := hb5'.cell 2; have f3 := hb5'.frozen 2; have HB5' := Lib.hid hb5'; have HS5 := Lib.hid (And.intro ((hap.below.cell (p := ⟨b, off + k * 3 + 2, none⟩) (by show b < _; omega)).trans HSA.out.1) (And.intro ((hap.below.cell (p := ⟨bb, ob + q * 3, none⟩) (by show bb < _; omega)).trans HSA.out.2.1) (And.intro ((hap.below.cell (p := ⟨bb, ob + q * 3 + 1, none⟩) (by show bb < _; omega)).trans HSA.out.2.2.1) ((hap.below.cell (p := ⟨bb, ob + q * 3 + 2, none⟩) (by show bb < _; omega)).trans HSA.out.2.2.2)))); have HS6 := Lib.hid (And.intro ((World.cell?_setCell_far w5 ⟨w1.heap.size, 2, none⟩ ⟨b, off + k * 3 + 2, none⟩ (.slice A6 n6 c6) hne1).trans HS5.out.1) (And.intro ((World.cell?_setCell_far w5 ⟨w1.heap.size, 2, none⟩ ⟨bb, ob + q * 3, none⟩ (.slice A6 n6 c6) hne2).trans HS5.out.2.1) (And.intro ((World.cell?_setCell_far w5 ⟨w1.heap.size, 2, none⟩ ⟨bb, ob + q * 3 + 1, none⟩ (.slice A6 n6 c6) hne2).trans HS5.out.2.2.1) ((World.cell?_setCell_far w5 ⟨w1.heap.size, 2, none⟩ ⟨bb, ob + q * 3 + 2, none⟩ (.slice A6 n6 c6) hne2).trans HS5.out.2.2.2)))); clear hap hb5'; refine hK.out _ _ ?_ (fun hNew => ?_)
               · (try dsimp only); (first | exact ⟨s2, t0, t1, t2⟩ | exact HS4.out | exact HSA.out | exact HS5.out | exact HS6.out)
               clear hK K hHeld; have hHeld := hNew; clear hNew
               try simp only [Act.put, stz]
               refine wpAnyH_take (i := 24) (oi := _) (v := ?_) rfl (by kernel_rfl) (by kernel_rfl) (by kernel_rfl) (fun _ _ _ h => h) (Or.inl ⟨by rfl, ?_⟩) (by assumption) ?_; rotate_left
               · (intro w hSw; (try dsimp only at hSw); go_simp) <;> with_reducible rfl
               try simp only [Act.put, stz]
               refine wpAnyH_ready (rs := [25]) (by kernel_rfl) (by simp) ?_; refine AllReadyH.cons (o := _) rfl (fun K hK => ?_) ?_
               · go_simp
                 refine hK.out _ _ ?_ (fun hNew => ?_)
                 · (try dsimp only); (first | exact ⟨s2, t0, t1, t2⟩ | exact HS4.out | exact HSA.out | exact HS5.out | exact HS6.out)
                 clear hK K hHeld; have hHeld := hNew; clear hNew
                 try simp only [Act.put, stz]
                 refine wpAnyH_done (by kernel_rfl) ?_ _; refine NoPanic.normal ?_; go_wp2
                 go_roundw
                 case rel =>
                  refine ⟨q + 1, _, by omega, by go_num, Lib.hid (by simpa using HB5'.out.set_ 2 (.slice A6 n6 c6)), Lib.hid (by rw [HKQ.out]; exact HAP.out.own.set (p := ⟨w1.heap.size, 2, none⟩) (Nat.lt_succ_self _) (Nat.not_succ_le_self _) _), Ext.setNew (a := w1) (HAP.out.toExt ((hxq.trans' HX4.out).alloc _) (Nat.le_succ _)) (Nat.le_refl _) _, by have := HAP.out.below.size; rw [World.size_alloc] at this; go_size⟩
                 case measure => simp [intOf]; omega
               exact AllReadyH.nil
             exact AllReadyH.nil
           exact AllReadyH.nil
         exact AllReadyH.nil
       exact AllReadyH.nil
     have HKQ := Lib.hid (show x.body.take q = x.body from List.take_of_length_le (by omega))
     have hlk : (l.take k).length ≤ 4194304 := by rw [List.length_take]; omega
     have HL := Lib.hid (show PartsR (From w1.heap.size) wr (.slice A3 n3 c3) x.body from by
      have h1 := hoq.out.list (S' := From w1.heap.size) (fun _ h => Nat.le_of_succ_le h) (fun _ h => Nat.le_of_succ_le h); rw [HKQ.out] at h1
      exact h1)
     have HOO := Lib.hid (ho.out.ext (HX1.out.trans' hxq))
     go_wp2_with (at_builtin; refine wpList_appK (k := kRule) (S := From w.heap.size) (T := From N0) rfl (.tmp 56) (.tmp 58) 43 (by rfl) j0 _ 64 Tryz.underlying43 hj0 hy0 hy1 hy2 (by rfl) (by rfl) (HOO.out.ext ((Ext.refl _).alloc _)) _ 1 1 (by rfl) (ElemsK.one (k := kRule) (x := x) (Blk.new _ _ _) ⟨_, _, rfl, hxs, (HT2N.out.ext (hxq.alloc _)), (PartsR.sub HL.out (fromLe hN2)).ext ((Ext.refl _).alloc _)⟩) (fun _ hb _ => Nat.le_trans hN1 hb) (fun g hg hT => absurd (HN3.out g hg) (Nat.not_lt.2 hT)) (maxOf (by omega)) (by omega) (Nat.le_trans (hx.trans' (HX1.out.trans' hxq)).size (by go_size)) ?_; intro v3 w3 hap)
     go_roundw
     case rel => exact ⟨k + 1, by omega, by go_num, Lib.hid (by rw [HK.out]; exact hap.own), hap.toExt ((hx.trans' (HX1.out.trans' hxq)).alloc _) (Nat.le_refl _)⟩
     case measure => simp [intOf]; omega
  have HK := Lib.hid (show l.take k = l from List.take_of_length_le (by omega)); go_wp2; go_ret; have h1 := ho.out.list (S' := From w.heap.size) (fun _ h => h) (fun _ h => h); rw [HK.out] at h1; exact ⟨⟨_, rfl, h1⟩, hx⟩
end
end Go.Proofs.YtmihponoillihaaGreatDoor
