/- The walks of the reference's rules: l2Cycle, ProgCheck. -/
import Derived.Test.YthndnkafckapnaaGreatDoorRlU
namespace Go.Proofs.YthndnkafckapnaaGreatDoor
open Go.RowKit

set_option maxRecDepth 100000 in
set_option maxHeartbeats 2000000 in
theorem l2Cycle_any (v : Value) (l : List GR) (w : World) {S : Nat → Prop} (hv : RulesR S w v l) (hl : l.length ≤ 8) (hb : ∀ r ∈ l, r.body.length ≤ 4) :
    Calls Tryz.prog 100 #[v] w fun e w' => e = .returned (.bool (cycleB l)) ∧ Ext w w' := by
  have hc := l2Levels_any v l w hv hl hb
  obtain ⟨A, c, rfl, hc1, hc2⟩ := SliceR.form hv
  have HC := Lib.hid hc
  have hol : (levelsL l).length = l.length := levelsN_len l _
  have HCY := Lib.hid (levels_cycleB l)
  obtain ⟨o, ho⟩ : ∃ o, o = levelsL l := ⟨_, rfl⟩
  rw [← ho] at HC HCY hol
  have HOL := Lib.hid hol
  clear hv hc hb ho hol
  go_enter Tryz.func100, Tryz.ntmps100
  go_wp2_with (go_at_call 138; refine HC.out.mono ?_; rintro e w1 ⟨⟨g, rfl, hg⟩, hx1⟩; have HG := Lib.hid hg; have HX := Lib.hid hx1; clear hg hx1)
  go_loopw [4] (fun i wr => ∃ k : Nat, k ≤ l.length ∧ i = .int .i64 k ∧ Hid (∀ i, i < k → at0 o i < l.length) ∧ Ext w1 wr) (fun i _ => l.length - (intOf i).toNat)
  case atStart => exact ⟨0, Nat.zero_le _, rfl, Lib.hid (fun i h => absurd h (Nat.not_lt_zero _)), Ext.refl _⟩
  case round =>
    obtain ⟨k, hk, rfl, hp, hx⟩ := hrel
    have hk0 : (0 : Int) ≤ (k : Int) := by omega
    by_cases hlt : k < l.length
    · have hk1 : (k : Int) < (l.length : Int) := by omega
      have ck := Blk.int (HG.out.ext hx) (i := k) (by rw [HOL.out]; exact hlt)
      obtain ⟨x, hxe⟩ : ∃ x, x = at0 o k := ⟨_, rfl⟩
      rw [← hxe] at ck
      have hlg := (HG.out.ext hx).lt
      by_cases hge : l.length ≤ x
      · have hg1 : decide ((l.length : Int) ≤ (x : Int)) = true := decide_eq_true (by omega)
        have HF := Lib.hid (show cycleB l = true from by
          rw [← HCY.out, List.any_eq_true]
          exact ⟨x, by rw [hxe]; exact List.mem_of_getElem? (at0_some (by rw [HOL.out]; exact hlt)), decide_eq_true hge⟩)
        clear hxe
        go_wp2
        go_ret
        exact ⟨by rw [HF.out]; rfl, HX.out.trans' hx⟩
      · have hg1 : decide ((l.length : Int) ≤ (x : Int)) = false := decide_eq_false (by omega)
        have HP := Lib.hid (show ∀ i, i < k + 1 → at0 o i < l.length from fun i hi => by
          rcases Nat.lt_or_ge i k with h | h
          · exact hp.out i h
          · rw [show i = k from by omega, ← hxe]; omega)
        clear hxe
        go_wp2
        go_roundw
        case rel => exact ⟨k + 1, by omega, by go_num, HP, hx⟩
        case measure => simp [intOf]; omega
    · have HF := Lib.hid (show cycleB l = false from by
        rw [← HCY.out, List.any_eq_false]
        intro x hx2
        obtain ⟨i, hi, rfl⟩ := List.mem_iff_getElem.1 hx2
        have h1 := at0_some hi
        rw [List.getElem?_eq_getElem hi] at h1
        injection h1 with h1
        have h2 := hp.out i (by rw [HOL.out] at hi; omega)
        simp
        omega)
      go_wp2
      go_ret
      exact ⟨by rw [HF.out]; rfl, HX.out.trans' hx⟩

theorem rule_body {r : GR} (h : ruleOkB r = true) : r.body.length ≤ 4 := by
  unfold ruleOkB at h
  simp only [Bool.and_eq_true, decide_eq_true_eq] at h
  exact h.2.2

set_option maxRecDepth 100000 in
set_option maxHeartbeats 4000000 in
theorem specProgCheck_any (v : Value) (l : List GR) (w : World) {S : Nat → Prop} (hv : RulesR S w v l) :
    Calls Tryz.prog 51 #[v] w fun e w' => e = .returned (.int .i64 ((progCheckN l : Nat) : Int)) ∧ Ext w w' := by
  obtain ⟨A, c, rfl, hc1, hc2⟩ := SliceR.form hv
  have HV := Lib.hid hv
  clear hv
  go_enter Tryz.func51, Tryz.ntmps51
  go_wp2
  go_loopw [3] (fun i wr => ∃ k : Nat, k ≤ l.length ∧ i = .int .i64 k ∧ Hid ((l.take k).all ruleOkB = true) ∧ Ext w wr) (fun i _ => l.length - (intOf i).toNat)
  case atStart => exact ⟨0, Nat.zero_le _, rfl, rfl, Ext.refl _⟩
  case round =>
    obtain ⟨k, hk, rfl, hp, hx⟩ := hrel
    have hk0 : (0 : Int) ≤ (k : Int) := by omega
    by_cases hlt : k < l.length
    · obtain ⟨b, off, x, v1, u1, rfl, hb, hxk, hxs, ht, hu, p0, p1, p2⟩ := RulesR.at_ (HV.out.ext hx) hlt
      obtain ⟨C, e, rfl, he1, he2⟩ := SliceR.form ht
      obtain ⟨D, f, rfl, hf1, hf2⟩ := SliceR.form hu
      have hk1 : (k : Int) < (l.length : Int) := by omega
      have HK := Lib.hid hxk
      have hw := bool_ways (specRule_any x _ _ wr hxs ht hu)
      clear hxk ht hu
      cases hr : ruleOkB x
      · have HF := Lib.hid (show progCheckN l = 1 from by unfold progCheckN; rw [if_pos (all_false ruleOkB _ k x HK.out hr)])
        have HW := Lib.hid (hw.2 hr)
        clear hw hr
        go_wp2_with (go_at_call 97; refine HW.out.mono ?_; rintro e w1 ⟨rfl, hx1⟩)
        go_ret
        exact ⟨by rw [HF.out]; rfl, hx.trans' hx1⟩
      · have HP := Lib.hid (show (l.take (k + 1)).all ruleOkB = true from by rw [all_snoc ruleOkB _ k x HK.out, hp.out, hr]; rfl)
        have HW := Lib.hid (hw.1 hr)
        clear hw hr
        go_wp2_with (go_at_call 97; refine HW.out.mono ?_; rintro e w1 ⟨rfl, hx1⟩)
        go_roundw
        case rel => exact ⟨k + 1, by omega, by go_num, HP, hx.trans' hx1⟩
        case measure => simp [intOf]; omega
    · have hall := all_whole ruleOkB _ k hlt hp.out
      have hno : ¬ l.all ruleOkB = false := by rw [hall]; simp
      have hke : k = l.length := by omega
      subst hke
      by_cases h8 : 8 < l.length
      · have HF := Lib.hid (show progCheckN l = 2 from by unfold progCheckN; rw [if_neg hno, if_pos h8])
        clear hno hall hp
        go_wp2
        go_ret
        exact ⟨by rw [HF.out]; rfl, hx⟩
      · have hbody : ∀ r ∈ l, r.body.length ≤ 4 := fun r hr => rule_body (List.all_eq_true.1 hall r hr)
        have HALL := Lib.hid hall
        have hwa := bool_ways (l2Args_any _ l wr (HV.out.ext hx) (by omega) hbody)
        have HBODY := Lib.hid hbody
        clear hbody hall hp
        cases hargs : argsB (atomsOf l)
        · have HF := Lib.hid (show progCheckN l = 3 from by unfold progCheckN; rw [if_neg hno, if_neg h8, if_pos hargs])
          have HW := Lib.hid (hwa.2 hargs)
          clear hwa hargs hno
          go_wp2_with (go_at_call 98; refine HW.out.mono ?_; rintro e w1 ⟨rfl, hx1⟩)
          go_ret
          exact ⟨by rw [HF.out]; rfl, hx.trans' hx1⟩
        · have HN3 := Lib.hid (show ¬ argsB (atomsOf l) = false from by rw [hargs]; simp)
          have HN1 := Lib.hid hno
          have HW := Lib.hid (hwa.1 hargs)
          clear hwa hargs hno
          go_wp2_with (go_at_call 98; refine HW.out.mono ?_; rintro e w1 ⟨rfl, hx1⟩; have HX1 := Lib.hid (hx.trans' hx1); clear hx1)
          go_loopw [4] (fun i wr => ∃ k : Nat, k ≤ l.length ∧ i = .int .i64 k ∧ Hid ((l.take k).all tightB = true) ∧ Ext w wr) (fun i _ => l.length - (intOf i).toNat)
          case atStart => exact ⟨0, Nat.zero_le _, rfl, rfl, HX1.out⟩
          case round =>
            obtain ⟨q, hq, rfl, hp, hx⟩ := hrel
            have hq0 : (0 : Int) ≤ (q : Int) := by omega
            by_cases hlt2 : q < l.length
            · obtain ⟨b, off, x, v1, u1, rfl, hb, hxk, hxs, ht, hu, p0, p1, p2⟩ := RulesR.at_ (HV.out.ext hx) hlt2
              obtain ⟨C, e, rfl, he1, he2⟩ := SliceR.form ht
              obtain ⟨D, f, rfl, hf1, hf2⟩ := SliceR.form hu
              have hq1 : (q : Int) < (l.length : Int) := by omega
              have HK := Lib.hid hxk
              have hw := bool_ways (l2Tight_any x _ _ wr hxs ht hu (List.all_eq_true.1 HALL.out x (List.mem_of_getElem? hxk)))
              clear hxk ht hu
              cases hr : tightB x
              · have HF := Lib.hid (show progCheckN l = 4 from by unfold progCheckN; rw [if_neg HN1.out, if_neg h8, if_neg HN3.out, if_pos (all_false tightB _ q x HK.out hr)])
                have HW := Lib.hid (hw.2 hr)
                clear hw hr
                go_wp2_with (go_at_call 99; refine HW.out.mono ?_; rintro e w2 ⟨rfl, hx2⟩)
                go_ret
                exact ⟨by rw [HF.out]; rfl, hx.trans' hx2⟩
              · have HP := Lib.hid (show (l.take (q + 1)).all tightB = true from by rw [all_snoc tightB _ q x HK.out, hp.out, hr]; rfl)
                have HW := Lib.hid (hw.1 hr)
                clear hw hr
                go_wp2_with (go_at_call 99; refine HW.out.mono ?_; rintro e w2 ⟨rfl, hx2⟩)
                go_roundw
                case rel => exact ⟨q + 1, by omega, by go_num, HP, hx.trans' hx2⟩
                case measure => simp [intOf]; omega
            · have hall2 := all_whole tightB _ q hlt2 hp.out
              have hno4 : ¬ l.all tightB = false := by rw [hall2]; simp
              have hwc := bool_ways (l2Cycle_any _ l wr (HV.out.ext hx) (by omega) HBODY.out)
              clear hall2 hp
              cases hcy : cycleB l
              · have HF := Lib.hid (show progCheckN l = 0 from by unfold progCheckN; rw [if_neg HN1.out, if_neg h8, if_neg HN3.out, if_neg hno4, if_neg (by rw [hcy]; simp)])
                have HW := Lib.hid (hwc.2 hcy)
                clear hwc hcy hno4
                go_wp2_with (go_at_call 100; refine HW.out.mono ?_; rintro e w2 ⟨rfl, hx2⟩)
                go_ret
                exact ⟨by rw [HF.out]; rfl, hx.trans' hx2⟩
              · have HF := Lib.hid (show progCheckN l = 5 from by unfold progCheckN; rw [if_neg HN1.out, if_neg h8, if_neg HN3.out, if_neg hno4, if_pos hcy])
                have HW := Lib.hid (hwc.1 hcy)
                clear hwc hcy hno4
                go_wp2_with (go_at_call 100; refine HW.out.mono ?_; rintro e w2 ⟨rfl, hx2⟩)
                go_ret
                exact ⟨by rw [HF.out]; rfl, hx.trans' hx2⟩

end Go.Proofs.YthndnkafckapnaaGreatDoor
