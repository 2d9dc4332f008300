/- The walks of the program's atomOrder, sortedFacts, ascends, FactsOk. -/
import Derived.Test.YthndnkafckapnaaGreatDoorImplB
import Derived.Test.YthndnkafckapnaaGreatDoorShelf
import Derived.Laws.EntriesVeiled
namespace Go.Proofs.YthndnkafckapnaaGreatDoor
open Go.RowKit

theorem compare_any (a b : ByteArray) (w : World) :
    Calls Tryz.prog 194 #[.string a, .string b] w fun e w' => e = .returned (.int .i64 (cmpS a b)) ∧ w' = w := Tryz.strings_Compare a b w

set_option maxHeartbeats 400000 in
theorem aOrder1_any (s t : GT) (w : World) :
    Calls Tryz.prog 196 #[.agg #[.bool s.v, .string s.n], .agg #[.bool t.v, .string t.n]] w fun e w' => e = .returned (.int .i64 (cmpS s.n t.n)) ∧ Ext w w' := by
  go_enter Tryz.func196, Tryz.ntmps196
  go_wp2_with (go_at_call 194; refine (compare_any _ _ _).mono ?_; rintro e w1 ⟨rfl, rfl⟩)
  go_ret
  exact ⟨rfl, ((Ext.refl _).alloc _).alloc _⟩

theorem cmpFrom_zero (x y : List GT) : cmpArgs x y = cmpFrom x y 0 0 := by unfold cmpFrom; rw [if_pos rfl]; rfl

set_option maxRecDepth 100000 in
set_option maxHeartbeats 2000000 in
theorem cmpFunc_any (v u : Value) (xs ys : List GT) (w : World) {S T : Nat → Prop} (hv : TermsR S w v xs) (hu : TermsR T w u ys) :
    Calls Tryz.prog 195 #[v, u, .func (.func 196) #[] #[]] w fun e w' => e = .returned (.int .i64 (cmpArgs xs ys)) ∧ Ext w w' := by
  obtain ⟨A, c, rfl, hc1, hc2⟩ := SliceR.form hv
  obtain ⟨B, d, rfl, hd1, hd2⟩ := SliceR.form hu
  have HV := Lib.hid hv
  have HU := Lib.hid hu
  clear hv hu
  go_enter Tryz.func195, Tryz.ntmps195
  go_wp2
  go_loopw [13] (fun i wr => ∃ k : Nat, (k ≤ xs.length ∧ k ≤ ys.length) ∧ i = .int .i64 k ∧ Hid (cmpArgs xs ys = cmpFrom xs ys k 0) ∧ Ext w wr) (fun i _ => xs.length - (intOf i).toNat)
  case atStart => exact ⟨0, ⟨Nat.zero_le _, Nat.zero_le _⟩, rfl, cmpFrom_zero _ _, Ext.refl _⟩
  case round =>
    obtain ⟨k, ⟨hk1, hk2⟩, rfl, hz, hx⟩ := hrel
    by_cases h1 : k < xs.length
    · obtain ⟨ba, offa, x, rfl, hba, hxk, hxs, hx0, hx1⟩ := TermsR.at_ (HV.out.ext hx) h1
      by_cases h2 : k < ys.length
      · obtain ⟨bb, offb, y, rfl, hbb, hyk, hys, hy0, hy1⟩ := TermsR.at_ (HU.out.ext hx) h2
        have HZ := Lib.hid (hz.out.trans (cmpFrom_step hxk hyk))
        have hg : decide (ys.length ≤ k) = false := decide_eq_false (by omega)
        clear hxk hyk hz
        by_cases hq : cmpS x.n y.n = 0
        · have HQ := Lib.hid (show cmpArgs xs ys = cmpFrom xs ys (k + 1) 0 from by rw [HZ.out, hq])
          have HC : ∀ W : World, Calls Tryz.prog 196 #[.agg #[.bool x.v, .string x.n], .agg #[.bool y.v, .string y.n]] W fun e w' => e = .returned (.int .i64 0) ∧ Ext W w' := fun W => by
            have := aOrder1_any x y W; rw [hq] at this; exact this
          have HC := Lib.hid HC
          clear hq
          go_wp2_with (go_at_call 196; refine (HC.out _).mono ?_; rintro e w1 ⟨rfl, hw1⟩)
          go_roundw
          case rel => exact ⟨k + 1, ⟨by omega, by omega⟩, by go_num, HQ, ((hx.alloc _).alloc _).trans' hw1⟩
          case measure => simp [intOf]; omega
        · have HQ := Lib.hid (HZ.out.trans (cmpFrom_done hq))
          have hq1 : ((cmpS x.n y.n : Int) != 0) = true := by simp [hq]
          have hq2 : ((cmpS x.n y.n : Int) == 0) = false := by simp [hq]
          clear hq
          go_wp2_with (go_at_call 196; refine (aOrder1_any x y _).mono ?_; rintro e w1 ⟨rfl, hw1⟩)
          go_ret
          exact ⟨by rw [HQ.out]; rfl, ((hx.alloc _).alloc _).trans' hw1⟩
      · have HZ := Lib.hid (hz.out.trans (cmpFrom_end (.inr (by omega)) ⟨hk1, hk2⟩))
        have hl : ys.length < xs.length := by omega
        have hg : decide (ys.length ≤ k) = true := decide_eq_true (by omega)
        clear hxk hz
        go_wp2
        go_ret
        exact ⟨by rw [HZ.out, if_neg (by omega), if_pos hl]; rfl, hx.alloc _⟩
    · have HZ := Lib.hid (hz.out.trans (cmpFrom_end (.inl (by omega)) ⟨hk1, hk2⟩))
      clear hz
      by_cases hl : xs.length < ys.length
      · go_wp2
        go_ret
        exact ⟨by rw [HZ.out, if_pos hl]; rfl, hx⟩
      · go_wp2
        go_ret
        exact ⟨by rw [HZ.out, if_neg (by omega), if_neg (by omega)]; rfl, hx⟩

set_option maxRecDepth 100000 in
set_option maxHeartbeats 1000000 in
theorem order_any (a b : GA) (v u : Value) (w : World) {S T : Nat → Prop} (hv : TermsR S w v a.args) (hu : TermsR T w u b.args) :
    Calls Tryz.prog 159 #[.agg #[.string a.n, v], .agg #[.string b.n, u]] w fun e w' => e = .returned (.int .i64 (cmpA a b)) ∧ Ext w w' := by
  obtain ⟨A, c, rfl, hc1, hc2⟩ := SliceR.form hv
  obtain ⟨B, d, rfl, hd1, hd2⟩ := SliceR.form hu
  have HV := Lib.hid (hv.ext (((Ext.refl w).alloc (.cells #[.string a.n, .slice A a.args.length c] 67)).alloc (.cells #[.string b.n, .slice B b.args.length d] 67)))
  have HU := Lib.hid (hu.ext (((Ext.refl w).alloc (.cells #[.string a.n, .slice A a.args.length c] 67)).alloc (.cells #[.string b.n, .slice B b.args.length d] 67)))
  clear hv hu
  by_cases hq : cmpS a.n b.n = 0
  · have HC : ∀ W : World, Calls Tryz.prog 194 #[.string a.n, .string b.n] W fun e w' => e = .returned (.int .i64 0) ∧ w' = W := fun W => by
      have := compare_any a.n b.n W; rw [hq] at this; exact this
    have HC := Lib.hid HC
    have HF := Lib.hid (show cmpA a b = cmpArgs a.args b.args from if_pos hq)
    clear hq
    go_enter Tryz.func159, Tryz.ntmps159
    go_wp2_with (first
      | (go_at_call 194; refine (HC.out _).mono ?_; rintro e w1 ⟨rfl, rfl⟩)
      | (go_at_call 195; refine (cmpFunc_any _ _ a.args b.args _ HV.out HU.out).mono ?_; rintro e w1 ⟨rfl, hx1⟩))
    go_ret
    exact ⟨by rw [HF.out]; rfl, (((Ext.refl _).alloc _).alloc _).trans' hx1⟩
  · have HF := Lib.hid (show cmpA a b = cmpS a.n b.n from if_neg hq)
    have hq1 : ((cmpS a.n b.n : Int) != 0) = true := by simp [hq]
    have hq2 : ((cmpS a.n b.n : Int) == 0) = false := by simp [hq]
    clear hq
    go_enter Tryz.func159, Tryz.ntmps159
    go_wp2_with (go_at_call 194; refine (compare_any _ _ _).mono ?_; rintro e w1 ⟨rfl, rfl⟩)
    go_ret
    exact ⟨by rw [HF.out]; rfl, ((Ext.refl _).alloc _).alloc _⟩

/-- The function value that the program orders facts by. -/
def orderV : Value := .func (.func 159) #[] #[]

set_option maxHeartbeats 400000 in
theorem sorted_any (A : Option Addr) (n c : Nat) (w : World) :
    Calls Tryz.prog 122 #[.slice A n c] w fun e w' => e = .returned (.agg #[.slice A n c, .func (.func 159) #[] #[]]) ∧ Ext w w' := by
  go_enter Tryz.func122, Tryz.ntmps122
  go_wp2
  exact bodyPost_ret (v := .agg #[.slice A n c, .func (.func 159) #[] #[]]) (by simp [results, Tryz.results122, go_sem]) rfl ⟨rfl, (Ext.refl _).alloc _⟩

set_option maxRecDepth 100000 in
set_option maxHeartbeats 2000000 in
theorem ascends_any (v : Value) (xs : List GA) (w : World) {S : Nat → Prop} (hv : AtomsR S w v xs) :
    Calls Tryz.prog 123 #[.agg #[v, .func (.func 159) #[] #[]]] w fun e w' => e = .returned (.bool (ascB xs)) ∧ Ext w w' := by
  obtain ⟨A, c, rfl, hc1, hc2⟩ := SliceR.form hv
  have HV := Lib.hid (hv.ext ((Ext.refl w).alloc (.cells #[.slice A xs.length c, .func (.func 159) #[] #[]] 165)))
  clear hv
  go_enter Tryz.func123, Tryz.ntmps123
  go_wp2
  go_loopw [3] (fun i wr => ∃ k : Nat, (1 ≤ k ∧ (k ≤ xs.length ∨ k = 1)) ∧ i = .int .i64 k ∧ Hid (ascTo xs k = true) ∧ Ext (w.alloc (.cells #[.slice A xs.length c, .func (.func 159) #[] #[]] 165)) wr) (fun i _ => xs.length - (intOf i).toNat)
  case atStart => exact ⟨1, ⟨Nat.le_refl _, .inr rfl⟩, rfl, (by show _ = _; unfold ascTo; cases xs <;> rfl), Ext.refl _⟩
  case round =>
    obtain ⟨k, ⟨hk1, hk2⟩, rfl, ha, hx⟩ := hrel
    obtain ⟨hcc, hcf⟩ := hx.cells
    have hz1 := hx.size
    simp only [World.size_alloc] at hz1
    have hz2 : w.heap.size < wr.heap.size := by omega
    obtain ⟨j, rfl⟩ : ∃ j, k = j + 1 := ⟨k - 1, by omega⟩
    clear hk1 hz1
    by_cases hlt : j + 1 < xs.length
    · obtain ⟨b, off, y, v2, rfl, hb, hyk, hys, ht', hd0, hd1⟩ := AtomsR.at_ (HV.out.ext hx) (k := j) (by omega)
      obtain ⟨b', off', x, v1, hbb, hb', hxk, hxs, ht, hc0, hc1⟩ := AtomsR.at_ (HV.out.ext hx) hlt
      injection hbb with hbb
      injection hbb with e1 e2
      subst e1; subst e2
      have HS := Lib.hid (ascTo_step hyk hxk)
      have HC := Lib.hid (fun (W : World) (h : Ext wr W) => order_any y x v2 v1 W (ht'.ext h) (ht.ext h))
      have hj0 : (0 : Int) ≤ (j : Int) := Int.natCast_nonneg _
      have hj1 : (j : Int) < (xs.length : Int) := by omega
      have hj2 : (j : Int) + 1 < (xs.length : Int) := by omega
      have hk2' := Lib.hid hk2
      clear ht' ht hyk hxk hk2
      by_cases hcmp : cmpA y x < 0
      · have HA := Lib.hid (show ascTo xs (j + 1 + 1) = true from by rw [HS.out, ha.out]; unfold ltA; simp [hcmp])
        go_wp2_with fail
        refine calm_region (by kernel_rfl) (by kernel_rfl) ?_
        repeat (go_big_quiet_step ((go_at_call 159; exact calm_call (HC.out _ (Later.ext _)))))
        refine wpQuiet_nil ?_
        rintro w1 ⟨⟨_, hx1⟩, rfl⟩
        go_wp2
        go_roundw
        case rel => exact ⟨j + 1 + 1, ⟨by omega, .inl (by omega)⟩, by go_num, HA, hx.trans' hx1⟩
        case measure => simp [intOf]; omega
      · have HF := Lib.hid (show ascB xs = false from ascTo_false (k := j + 1 + 1) (by rw [HS.out]; unfold ltA; simp [hcmp]))
        go_wp2_with fail
        refine calm_region (by kernel_rfl) (by kernel_rfl) ?_
        repeat (go_big_quiet_step ((go_at_call 159; exact calm_call (HC.out _ (Later.ext _)))))
        refine wpQuiet_nil ?_
        rintro w1 ⟨⟨_, hx1⟩, rfl⟩
        go_wp2
        go_ret
        exact ⟨by rw [HF.out]; rfl, ((Ext.refl _).alloc _).trans' (hx.trans' hx1)⟩
    · have HF := Lib.hid (show ascB xs = true from by
        have h2 := ha.out
        unfold ascTo at h2
        rwa [List.take_of_length_le (by omega)] at h2)
      clear hk2
      go_wp2
      go_ret
      exact ⟨by rw [HF.out]; rfl, ((Ext.refl _).alloc _).trans' hx⟩

set_option maxRecDepth 100000 in
set_option maxHeartbeats 2000000 in
theorem factsOk_any (v : Value) (xs : List GA) (w : World) {S : Nat → Prop} (hv : AtomsR S w v xs) :
    Calls Tryz.prog 77 #[v] w fun e w' => e = .returned (.bool (factsB xs 300)) ∧ Ext w w' := by
  obtain ⟨A, c, rfl, hc1, hc2⟩ := SliceR.form hv
  have HV := Lib.hid hv
  clear hv
  by_cases h3 : xs.length ≤ 300
  · go_enter Tryz.func77, Tryz.ntmps77
    go_wp2
    go_loopw [10] (fun i wr => ∃ k : Nat, k ≤ xs.length ∧ i = .int .i64 k ∧ Hid ((xs.take k).all factB = true) ∧ Ext w wr) (fun i _ => xs.length - (intOf i).toNat)
    case atStart => exact ⟨0, Nat.zero_le _, rfl, rfl, Ext.refl _⟩
    case round =>
      obtain ⟨k, hk, rfl, hp, hx⟩ := hrel
      by_cases hlt : k < xs.length
      · obtain ⟨b, off, x, v1, rfl, hb, hxk, hxs, ht, hc0, hc1⟩ := AtomsR.at_ (HV.out.ext hx) hlt
        obtain ⟨A1, c1, rfl, hq1, hq2⟩ := SliceR.form ht
        have HK := Lib.hid hxk
        have hw := bool_ways (isFact_any x _ (wr.alloc (.cells #[.string x.n, .slice A1 x.args.length c1] 67)) hxs (ht.ext ((Ext.refl _).alloc _)))
        clear hxk ht
        cases hf : factB x
        · have HF := Lib.hid (show factsB xs 300 = false from by unfold factsB; rw [all_false factB _ k x HK.out hf]; rfl)
          have HW := Lib.hid (hw.2 hf)
          clear hw hf
          go_wp2_with (go_at_call 121; refine HW.out.mono ?_; rintro e w1 ⟨rfl, hx1⟩)
          go_ret
          exact ⟨by rw [HF.out]; rfl, (hx.alloc _).trans' hx1⟩
        · have HP := Lib.hid (show (xs.take (k + 1)).all factB = true from by rw [all_snoc _ _ k x HK.out, hp.out, hf]; rfl)
          have HW := Lib.hid (hw.1 hf)
          clear hw hf
          go_wp2_with (go_at_call 121; refine HW.out.mono ?_; rintro e w1 ⟨rfl, hx1⟩)
          go_roundw
          case rel => exact ⟨k + 1, by omega, by go_num, HP, (hx.alloc _).trans' hx1⟩
          case measure => simp [intOf]; omega
      · have HF := Lib.hid (show factsB xs 300 = ascB xs from by
          unfold factsB; rw [all_whole factB _ k hlt hp.out]; simp [h3])
        go_wp2_with (first
          | (go_at_call 122; refine (sorted_any _ _ _ _).mono ?_; rintro e w1 ⟨rfl, hx1⟩)
          | (go_at_call 123; refine (ascends_any _ xs _ (HV.out.ext (hx.trans' hx1))).mono ?_; rintro e w2 ⟨rfl, hx2⟩))
        go_ret
        exact ⟨by rw [HF.out]; rfl, (hx.trans' hx1).trans' hx2⟩
  · have HF := Lib.hid (show factsB xs 300 = false from by unfold factsB; simp [h3])
    go_enter Tryz.func77, Tryz.ntmps77
    go_wp2
    go_ret
    exact ⟨by rw [HF.out]; rfl, Ext.refl _⟩

end Go.Proofs.YthndnkafckapnaaGreatDoor
