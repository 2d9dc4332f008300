/- The walks of the reference's l3At, l3Has, ChangeOk. -/
import Derived.Test.YthndnkafckapnaaGreatDoorSpecC
namespace Go.Proofs.YthndnkafckapnaaGreatDoor
open Go.RowKit

/-- The place of a fact, or where it would come. -/
def placeA (l : List GA) (a : GA) : Nat := (l.takeWhile fun x => ltA x a).length
def isAt (l : List GA) (k : Nat) (a : GA) : Bool := match l[k]? with | some x => decide (cmpA x a = 0) | none => false
def hasA (l : List GA) (a : GA) : Bool := isAt l (placeA l a) a

theorem place_eq : ∀ (l : List GA) (a : GA) (k : Nat), ((l.take k).all fun x => ltA x a) = true → k ≤ l.length → (∀ x, l[k]? = some x → ltA x a = false) → placeA l a = k
  | [], a, k, _, hk, _ => by have : k = 0 := by simpa using hk
                             subst this; rfl
  | x :: l, a, 0, _, _, hx => by
    have := hx x rfl
    unfold placeA; rw [List.takeWhile_cons, if_neg (by simp [this])]; rfl
  | x :: l, a, k + 1, h, hk, hx => by
    simp only [List.take_succ_cons, List.all_cons, Bool.and_eq_true] at h
    have ih := place_eq l a k h.2 (by simpa using hk) (fun y hy => hx y (by simpa using hy))
    unfold placeA at ih ⊢
    rw [List.takeWhile_cons, if_pos h.1, List.length_cons, ih]

set_option maxRecDepth 100000 in
set_option maxHeartbeats 2000000 in
theorem l3At_any (v u : Value) (xs : List GA) (a : GA) (w : World) {S T : Nat → Prop} (hv : AtomsR S w v xs) (hu : TermsR T w u a.args) :
    Calls Tryz.prog 88 #[v, .agg #[.string a.n, u]] w fun e w' => e = .returned (.tuple #[.int .i64 (placeA xs a), .bool (hasA xs a)]) ∧ Ext w w' := by
  obtain ⟨A, c, rfl, hc1, hc2⟩ := SliceR.form hv
  obtain ⟨B, d, rfl, hd1, hd2⟩ := SliceR.form hu
  have HV := Lib.hid (hv.ext ((Ext.refl w).alloc (.cells #[.string a.n, .slice B a.args.length d] 67)))
  have HU := Lib.hid (hu.ext ((Ext.refl w).alloc (.cells #[.string a.n, .slice B a.args.length d] 67)))
  clear hv hu
  go_enter Tryz.func88, Tryz.ntmps88
  go_wp2
  go_loopw [6] (fun i wr => ∃ k : Nat, k ≤ xs.length ∧ i = .int .i64 k ∧ Hid (((xs.take k).all fun x => ltA x a) = true) ∧ Ext (w.alloc (.cells #[.string a.n, .slice B a.args.length d] 67)) wr) (fun i _ => xs.length - (intOf i).toNat)
  case atStart => exact ⟨0, Nat.zero_le _, rfl, rfl, Ext.refl _⟩
  case round =>
    obtain ⟨k, hk, rfl, hp, hx⟩ := hrel
    obtain ⟨hcc, hcf⟩ := hx.cells
    have hz1 := hx.size
    simp only [World.size_alloc] at hz1
    have hz2 : w.heap.size < wr.heap.size := by omega
    have hk0 : (0 : Int) ≤ (k : Int) := Int.natCast_nonneg _
    by_cases hlt : k < xs.length
    · obtain ⟨b, off, x, v1, rfl, hb, hxk, hxs, ht, hc0, hc1⟩ := AtomsR.at_ (HV.out.ext hx) hlt
      have hk1 : (k : Int) < (xs.length : Int) := by omega
      have HK := Lib.hid hxk
      have HC := Lib.hid (fun (W : World) (h : Ext wr W) => l1Cmp_any x a v1 _ W (ht.ext h) (HU.out.ext (hx.trans' h)))
      have hg : decide (k < xs.length) = true := decide_eq_true hlt
      clear hxk ht hz1
      by_cases hcmp : cmpA x a < 0
      · have HA := Lib.hid (show ((xs.take (k + 1)).all fun x => ltA x a) = true from by rw [all_snoc _ _ k x HK.out, hp.out]; unfold ltA; simp [hcmp])
        go_wp2_with fail
        refine calm_region (by kernel_rfl) (by kernel_rfl) ?_
        repeat (go_big_quiet_step ((go_at_call 132; exact calm_call (HC.out _ (Later.ext _)))))
        refine wpQuiet_nil ?_
        rintro w1 ⟨⟨_, hx1⟩, rfl⟩
        go_wp2
        go_roundw
        case rel => exact ⟨k + 1, by omega, by go_num, HA, hx.trans' hx1⟩
        case measure => simp [intOf]; omega
      · have HA := Lib.hid (place_eq xs a k hp.out hk (fun y hy => by rw [HK.out] at hy; injection hy with hy; subst hy; unfold ltA; simp [hcmp]))
        have HI := Lib.hid (show hasA xs a = decide (cmpA x a = 0) from by unfold hasA; rw [HA.out]; unfold isAt; rw [HK.out])
        go_wp2_with fail
        refine calm_region (by kernel_rfl) (by kernel_rfl) ?_
        repeat (go_big_quiet_step ((go_at_call 132; exact calm_call (HC.out _ (Later.ext _)))))
        refine wpQuiet_nil ?_
        rintro w1 ⟨⟨_, hx1⟩, rfl⟩
        have HC1 := Lib.hid (fun (W : World) (h : Ext w1 W) => HC.out W (hx1.trans' h))
        obtain ⟨hcc1, hcf1⟩ := hx1.cells
        have hz3 := hx1.size
        have hz4 : w.heap.size < w1.heap.size := by omega
        have hb1 : b < w1.heap.size := by omega
        clear HC hz3
        go_wp2_with fail
        refine calm_region (by kernel_rfl) (by kernel_rfl) ?_
        repeat (go_big_quiet_step ((go_at_call 132; exact calm_call (HC1.out _ (Later.ext _)))))
        refine wpQuiet_nil ?_
        rintro w2 ⟨⟨_, hx2⟩, rfl⟩
        go_wp2
        go_ret2
        exact ⟨by rw [HA.out, HI.out]; simp; rw [Bool.eq_iff_iff]; simp, (((Ext.refl _).alloc _).trans' (hx.trans' hx1)).trans' hx2⟩
    · have HA := Lib.hid (place_eq xs a k hp.out hk (fun y hy => by rw [List.getElem?_eq_none (by omega)] at hy; cases hy))
      have HI := Lib.hid (show hasA xs a = false from by unfold hasA; rw [HA.out]; unfold isAt; rw [List.getElem?_eq_none (by omega)])
      have hg : decide (k < xs.length) = false := decide_eq_false hlt
      clear hz1
      go_wp2_with fail
      refine calm_region (by kernel_rfl) (by kernel_rfl) ?_
      repeat (go_big_quiet_step (fail))
      refine wpQuiet_nil ?_
      rintro w1 ⟨⟨_, hx1⟩, rfl⟩
      obtain ⟨hcc1, hcf1⟩ := hx1.cells
      go_wp2_with fail
      refine calm_region (by kernel_rfl) (by kernel_rfl) ?_
      repeat (go_big_quiet_step (fail))
      refine wpQuiet_nil ?_
      rintro w2 ⟨⟨_, hx2⟩, rfl⟩
      go_wp2
      go_ret2
      exact ⟨by rw [HA.out, HI.out]; rfl, (((Ext.refl _).alloc _).trans' (hx.trans' hx1)).trans' hx2⟩

set_option maxHeartbeats 1000000 in
theorem l3Has_any (v u : Value) (xs : List GA) (a : GA) (w : World) {S T : Nat → Prop} (hv : AtomsR S w v xs) (hu : TermsR T w u a.args) :
    Calls Tryz.prog 44 #[v, .agg #[.string a.n, u]] w fun e w' => e = .returned (.bool (hasA xs a)) ∧ Ext w w' := by
  obtain ⟨A, c, rfl, hc1, hc2⟩ := SliceR.form hv
  obtain ⟨B, d, rfl, hd1, hd2⟩ := SliceR.form hu
  have HV := Lib.hid (hv.ext ((Ext.refl w).alloc (.cells #[.string a.n, .slice B a.args.length d] 67)))
  have HU := Lib.hid (hu.ext ((Ext.refl w).alloc (.cells #[.string a.n, .slice B a.args.length d] 67)))
  clear hv hu
  go_enter Tryz.func44, Tryz.ntmps44
  go_wp2_with (go_at_call 88; refine (l3At_any _ _ xs a _ HV.out HU.out).mono ?_; rintro e w1 ⟨rfl, hx1⟩)
  go_ret
  exact ⟨rfl, ((Ext.refl _).alloc _).trans' hx1⟩

def commonB (l m : List GA) : Bool := l.any fun x => hasA m x
def changeOkB (c : GC) : Bool := factsB c.comes 300 && factsB c.goes 300 && !commonB c.comes c.goes

set_option maxRecDepth 100000 in
set_option maxHeartbeats 2000000 in
theorem specChangeOk_any (g : GC) (v u : Value) (w : World) {S T : Nat → Prop} (hv : AtomsR S w v g.comes) (hu : AtomsR T w u g.goes) :
    Calls Tryz.prog 11 #[.agg #[v, u]] w fun e w' => e = .returned (.bool (changeOkB g)) ∧ Ext w w' := by
  obtain ⟨A, c, rfl, hc1, hc2⟩ := SliceR.form hv
  obtain ⟨B, d, rfl, hd1, hd2⟩ := SliceR.form hu
  have HV := Lib.hid (hv.ext ((Ext.refl w).alloc (.cells #[.slice A g.comes.length c, .slice B g.goes.length d] 25)))
  have HU := Lib.hid (hu.ext ((Ext.refl w).alloc (.cells #[.slice A g.comes.length c, .slice B g.goes.length d] 25)))
  clear hv hu
  have hw1 := bool_ways (specFactsOk_any _ g.comes _ HV.out)
  cases h1 : factsB g.comes 300
  · have HF := Lib.hid (show changeOkB g = false from by unfold changeOkB; rw [h1]; rfl)
    have HW := Lib.hid (hw1.2 h1)
    clear hw1 h1
    go_enter Tryz.func11, Tryz.ntmps11
    go_wp2_with (go_at_call 43; refine HW.out.mono ?_; rintro e w1 ⟨rfl, hx1⟩)
    go_ret
    exact ⟨by rw [HF.out]; rfl, ((Ext.refl _).alloc _).trans' hx1⟩
  · have HW := Lib.hid (hw1.1 h1)
    clear hw1
    have tok : True := trivial
    cases h2 : factsB g.goes 300
    · have HF := Lib.hid (show changeOkB g = false from by unfold changeOkB; rw [h2]; simp)
      have H2 := Lib.hid h2
      clear h1 h2
      go_enter Tryz.func11, Tryz.ntmps11
      go_wp2_with (first
        | (go_at_call 43; have _t := tok; refine HW.out.mono ?_; clear tok _t; rintro e w1 ⟨rfl, hx1⟩; obtain ⟨hcc, hcf⟩ := hx1.cells)
        | (go_at_call 43; refine ((bool_ways (specFactsOk_any _ g.goes _ (HU.out.ext hx1))).2 H2.out).mono ?_; rintro e w2 ⟨rfl, hx2⟩))
      go_ret
      exact ⟨by rw [HF.out]; rfl, (((Ext.refl _).alloc _).trans' hx1).trans' hx2⟩
    · have HF := Lib.hid (show changeOkB g = !commonB g.comes g.goes from by unfold changeOkB; rw [h1, h2]; rfl)
      have H2 := Lib.hid h2
      clear h1 h2
      go_enter Tryz.func11, Tryz.ntmps11
      go_wp2_with (first
        | (go_at_call 43; have _t := tok; refine HW.out.mono ?_; clear tok _t; rintro e w1 ⟨rfl, hx1⟩; obtain ⟨hcc, hcf⟩ := hx1.cells)
        | (go_at_call 43; refine ((bool_ways (specFactsOk_any _ g.goes _ (HU.out.ext hx1))).1 H2.out).mono ?_; rintro e w2 ⟨rfl, hx2⟩))
      go_loopw [3] (fun i wr => ∃ k : Nat, k ≤ g.comes.length ∧ i = .int .i64 k ∧ Hid (((g.comes.take k).all fun x => !hasA g.goes x) = true) ∧ Ext (w.alloc (.cells #[.slice A g.comes.length c, .slice B g.goes.length d] 25)) wr) (fun i _ => g.comes.length - (intOf i).toNat)
      case atStart => exact ⟨0, Nat.zero_le _, rfl, rfl, hx1.trans' hx2⟩
      case round =>
        obtain ⟨k, hk, rfl, hp, hx⟩ := hrel
        clear hcc hcf
        obtain ⟨hcc, hcf⟩ := hx.cells
        have hz1 := hx.size
        simp only [World.size_alloc] at hz1
        have hz2 : w.heap.size < wr.heap.size := by omega
        have hk0 : (0 : Int) ≤ (k : Int) := Int.natCast_nonneg _
        by_cases hlt : k < g.comes.length
        · obtain ⟨b, off, x, v1, rfl, hb, hxk, hxs, ht, hc0, hc1⟩ := AtomsR.at_ (HV.out.ext hx) hlt
          have hk1 : (k : Int) < (g.comes.length : Int) := by omega
          have HK := Lib.hid hxk
          have HT := Lib.hid ht
          clear hxk ht hz1
          cases hh : hasA g.goes x
          · have HC := Lib.hid (fun (W : World) (h : Ext wr W) => (bool_ways (l3Has_any _ v1 g.goes x W (HU.out.ext (hx.trans' h)) (HT.out.ext h))).2 hh)
            have HP := Lib.hid (show ((g.comes.take (k + 1)).all fun x => !hasA g.goes x) = true from by rw [all_snoc _ _ k x HK.out, hp.out, hh]; rfl)
            clear hh
            go_wp2_with fail
            refine calm_region (by kernel_rfl) (by kernel_rfl) ?_
            repeat (go_big_quiet_step ((go_at_call 44; exact calm_call (HC.out _ (Later.ext _)))))
            refine wpQuiet_nil ?_
            rintro w3 ⟨⟨_, hx3⟩, rfl⟩
            go_wp2
            go_roundw
            case rel => exact ⟨k + 1, by omega, by go_num, HP, hx.trans' hx3⟩
            case measure => simp [intOf]; omega
          · have HC := Lib.hid (fun (W : World) (h : Ext wr W) => (bool_ways (l3Has_any _ v1 g.goes x W (HU.out.ext (hx.trans' h)) (HT.out.ext h))).1 hh)
            have HP := Lib.hid (show commonB g.comes g.goes = true from by unfold commonB; rw [List.any_eq_true]; exact ⟨x, List.mem_of_getElem? HK.out, hh⟩)
            clear hh
            go_wp2_with fail
            refine calm_region (by kernel_rfl) (by kernel_rfl) ?_
            repeat (go_big_quiet_step ((go_at_call 44; exact calm_call (HC.out _ (Later.ext _)))))
            refine wpQuiet_nil ?_
            rintro w3 ⟨⟨_, hx3⟩, rfl⟩
            go_wp2
            go_ret
            exact ⟨by rw [HF.out, HP.out]; rfl, ((Ext.refl _).alloc _).trans' (hx.trans' hx3)⟩
        · have HP := Lib.hid (show commonB g.comes g.goes = false from by
            have h := all_whole (fun x => !hasA g.goes x) _ k hlt hp.out
            unfold commonB; rw [List.any_eq_false]; intro x hx1; have := List.all_eq_true.1 h x hx1; simpa using this)
          go_wp2
          go_ret
          exact ⟨by rw [HF.out, HP.out]; rfl, ((Ext.refl _).alloc _).trans' hx⟩

end Go.Proofs.YthndnkafckapnaaGreatDoor
