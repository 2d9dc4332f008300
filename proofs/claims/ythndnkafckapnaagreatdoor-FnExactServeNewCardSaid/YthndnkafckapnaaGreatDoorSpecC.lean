/- The walks of the reference's l3Ground, l3Ok, FactsOk. -/
import Derived.Test.YthndnkafckapnaaGreatDoorSpecA
import Derived.Test.YthndnkafckapnaaGreatDoorSpecB
import Derived.Test.YthndnkafckapnaaGreatDoorCalm
namespace Go.Proofs.YthndnkafckapnaaGreatDoor
open Go.RowKit

def noVar (t : GT) : Bool := !t.v
theorem noVar_yes {t : GT} (h : t.v = false) : noVar t = true := by unfold noVar; rw [h]; rfl
theorem noVar_no {t : GT} (h : t.v = true) : noVar t = false := by unfold noVar; rw [h]; rfl

set_option maxRecDepth 100000 in
set_option maxHeartbeats 1000000 in
theorem l3Ground_any (a : GA) (v : Value) (w : World) {S : Nat → Prop} (hs : a.n.size ≤ maxLen) (hv : TermsR S w v a.args) :
    Calls Tryz.prog 131 #[.agg #[.string a.n, v]] w fun e w' => e = .returned (.bool (factB a)) ∧ Ext w w' := by
  obtain ⟨A, c, rfl, hc1, hc2⟩ := SliceR.form hv
  have HV := Lib.hid (hv.ext ((Ext.refl w).alloc (.cells #[.string a.n, .slice A a.args.length c] 67)))
  clear hv
  go_enter Tryz.func131, Tryz.ntmps131
  go_wp2
  go_loopw [3] (fun i wr => ∃ k : Nat, k ≤ a.args.length ∧ i = .int .i64 k ∧ Hid ((a.args.take k).all noVar = true) ∧ wr = w.alloc (.cells #[.string a.n, .slice A a.args.length c] 67)) (fun i _ => a.args.length - (intOf i).toNat)
  case atStart => exact ⟨0, Nat.zero_le _, rfl, rfl, rfl⟩
  case round =>
    obtain ⟨k, hk, rfl, hp, rfl⟩ := hrel
    by_cases hlt : k < a.args.length
    · obtain ⟨b, off, x, rfl, hb, hxk, hxs, hc0, hc1⟩ := TermsR.at_ HV.out hlt
      have HK := Lib.hid hxk
      clear hxk
      cases ht : x.v
      · have HP := Lib.hid (show (a.args.take (k + 1)).all noVar = true from by rw [all_snoc _ _ k x HK.out, hp.out, noVar_yes ht]; rfl)
        rw [ht] at hc0
        clear ht
        go_wp2
        go_roundw
        case rel => exact ⟨k + 1, by omega, by go_num, HP, trivial⟩
        case measure => simp [intOf]; omega
      · have HF := Lib.hid (show factB a = false from by unfold factB; rw [show (a.args.all fun t => !t.v) = false from all_false noVar _ k x HK.out (noVar_no ht), Bool.and_false])
        rw [ht] at hc0
        clear ht
        go_wp2
        go_ret
        exact ⟨by rw [HF.out]; rfl, (Ext.refl _).alloc _⟩
    · have HF := Lib.hid (show factB a = atomOkB a from by unfold factB; rw [show (a.args.all fun t => !t.v) = true from all_whole noVar _ k hlt hp.out, Bool.and_true])
      go_wp2_with (go_at_call 133; refine (specAtomOk_any a _ _ hs HV.out).mono ?_; rintro e w1 ⟨rfl, hx1⟩)
      go_ret
      exact ⟨by rw [HF.out]; rfl, ((Ext.refl _).alloc _).trans' hx1⟩

def ltA (a b : GA) : Bool := decide (cmpA a b < 0)
/-- In order, each once. -/
def ascB : List GA → Bool
  | [] => true
  | [_] => true
  | a :: b :: l => ltA a b && ascB (b :: l)
def factsB (l : List GA) (most : Nat) : Bool := l.all factB && ascB l && decide (l.length ≤ most)

theorem ascB_snoc : ∀ (l : List GA) (a b : GA), ascB (l ++ [a, b]) = (ascB (l ++ [a]) && ltA a b)
  | [], a, b => by simp [ascB]
  | [c], a, b => by simp [ascB]
  | c :: d :: l, a, b => by
    have := ascB_snoc (d :: l) a b
    simp only [List.cons_append] at this ⊢
    simp only [ascB, this, Bool.and_assoc]

theorem ascB_false_append : ∀ (l m : List GA), ascB l = false → ascB (l ++ m) = false
  | [], m, h => by simp [ascB] at h
  | [c], m, h => by simp [ascB] at h
  | c :: d :: l, m, h => by
    simp only [List.cons_append, ascB, Bool.and_eq_false_iff] at h ⊢
    rcases h with h | h
    · exact .inl h
    · exact .inr (ascB_false_append (d :: l) m h)

/-- The first k are in order. -/
def ascTo (l : List GA) (k : Nat) : Bool := ascB (l.take k)
theorem ascTo_one {l : List GA} {a : GA} (h : l[0]? = some a) : ascTo l 1 = true := by
  unfold ascTo; cases l with
  | nil => simp at h
  | cons b l => rfl
theorem take_two {l : List GA} {k : Nat} {a b : GA} (ha : l[k]? = some a) (hb : l[k + 1]? = some b) : l.take (k + 2) = l.take k ++ [a, b] ∧ l.take (k + 1) = l.take k ++ [a] := by
  obtain ⟨h1, rfl⟩ := List.getElem?_eq_some_iff.1 ha
  obtain ⟨h2, rfl⟩ := List.getElem?_eq_some_iff.1 hb
  have e1 := List.take_succ_eq_append_getElem h1
  have e2 := List.take_succ_eq_append_getElem h2
  exact ⟨by rw [e2, e1, List.append_assoc]; rfl, e1⟩
theorem ascTo_step {l : List GA} {k : Nat} {a b : GA} (ha : l[k]? = some a) (hb : l[k + 1]? = some b) : ascTo l (k + 2) = (ascTo l (k + 1) && ltA a b) := by
  obtain ⟨e1, e2⟩ := take_two ha hb
  unfold ascTo; rw [e1, e2, ascB_snoc]
theorem ascTo_false {l : List GA} {k : Nat} (h : ascTo l k = false) : ascB l = false := by
  rw [← List.take_append_drop k l]; exact ascB_false_append _ _ h

set_option maxRecDepth 100000 in
set_option maxHeartbeats 2000000 in
theorem l3Ok_any (v : Value) (xs : List GA) (most : Nat) (w : World) {S : Nat → Prop} (hv : AtomsR S w v xs) :
    Calls Tryz.prog 87 #[v, .int .i64 most] w fun e w' => e = .returned (.bool (factsB xs most)) ∧ Ext w w' := by
  obtain ⟨A, c, rfl, hc1, hc2⟩ := SliceR.form hv
  have HV := Lib.hid hv
  clear hv
  go_enter Tryz.func87, Tryz.ntmps87
  go_wp2
  go_loopw [5] (fun i wr => ∃ k : Nat, k ≤ xs.length ∧ i = .int .i64 k ∧ Hid ((xs.take k).all factB = true) ∧ Hid (ascTo xs k = true) ∧ Ext w wr) (fun i _ => xs.length - (intOf i).toNat)
  case atStart => exact ⟨0, Nat.zero_le _, rfl, rfl, rfl, Ext.refl _⟩
  case round =>
    obtain ⟨k, hk, rfl, hp, ha, hx⟩ := hrel
    have hk0 : (0 : Int) ≤ (k : Int) := Int.natCast_nonneg _
    by_cases hlt : k < xs.length
    · obtain ⟨b, off, x, v1, rfl, hb, hxk, hxs, ht, hc0, hc1⟩ := AtomsR.at_ (HV.out.ext hx) hlt
      have hk1 : (k : Int) < (xs.length : Int) := by omega
      have HK := Lib.hid hxk
      have HT := Lib.hid ht
      clear hxk ht
      cases hf : factB x
      · have HF := Lib.hid (show factsB xs most = false from by unfold factsB; rw [all_false factB _ k x HK.out hf]; rfl)
        have HW := Lib.hid (fun (W : World) (h : Ext wr W) => (bool_ways (l3Ground_any x v1 W hxs (HT.out.ext h))).2 hf)
        clear hf
        go_wp2_with fail
        refine calm_region (by kernel_rfl) (by kernel_rfl) ?_
        repeat (go_big_quiet_step ((go_at_call 131; exact calm_call (HW.out _ (Later.ext _)))))
        refine wpQuiet_nil ?_
        rintro w1 ⟨⟨_, hx1⟩, rfl⟩
        go_wp2
        go_ret
        exact ⟨by rw [HF.out]; rfl, hx.trans' hx1⟩
      · have HW := Lib.hid (fun (W : World) (h : Ext wr W) => (bool_ways (l3Ground_any x v1 W hxs (HT.out.ext h))).1 hf)
        have HP := Lib.hid (show (xs.take (k + 1)).all factB = true from by rw [all_snoc _ _ k x HK.out, hp.out, hf]; rfl)
        clear hf hp
        by_cases hk2 : k < 1
        · have HA := Lib.hid (show ascTo xs (k + 1) = true from by
            obtain rfl : k = 0 := by omega
            exact ascTo_one HK.out)
          have hg : decide (0 < k) = false := decide_eq_false (by omega)
          go_wp2_with fail
          refine calm_region (by kernel_rfl) (by kernel_rfl) ?_
          repeat (go_big_quiet_step ((go_at_call 131; exact calm_call (HW.out _ (Later.ext _)))))
          refine wpQuiet_nil ?_
          rintro w1 ⟨⟨_, hx1⟩, rfl⟩
          go_wp2
          go_roundw
          case rel => exact ⟨k + 1, by omega, by go_num, HP, HA, hx.trans' hx1⟩
          case measure => simp [intOf]; omega
        · obtain ⟨j, rfl⟩ : ∃ j, k = j + 1 := ⟨k - 1, by omega⟩
          obtain ⟨b', off', y, v2, hbb, hb', hyk, hys, ht', hd0, hd1⟩ := AtomsR.at_ (HV.out.ext hx) (k := j) (by omega)
          injection hbb with hbb
          injection hbb with e1 e2
          subst e1; subst e2
          have HY := Lib.hid ht'
          have HS := Lib.hid (ascTo_step hyk HK.out)
          have HC := Lib.hid (fun (W : World) (h : Ext wr W) => l1Cmp_any y x v2 v1 W (HY.out.ext h) (HT.out.ext h))
          have hj0 : (0 : Int) ≤ (j : Int) := Int.natCast_nonneg _
          have hj1 : (j : Int) < (xs.length : Int) := by omega
          clear ht' hyk hk0
          by_cases hcmp : cmpA y x < 0
          · have HA := Lib.hid (show ascTo xs (j + 1 + 1) = true from by rw [HS.out, ha.out]; unfold ltA; simp [hcmp])
            go_wp2_with fail
            refine calm_region (by kernel_rfl) (by kernel_rfl) ?_
            repeat (go_big_quiet_step ((first | (go_at_call 131; exact calm_call (HW.out _ (Later.ext _))) | (go_at_call 132; exact calm_call (HC.out _ (Later.ext _))))))
            refine wpQuiet_nil ?_
            rintro w1 ⟨⟨_, hx1⟩, rfl⟩
            go_wp2
            go_roundw
            case rel => exact ⟨j + 1 + 1, by omega, by go_num, HP, HA, hx.trans' hx1⟩
            case measure => simp [intOf]; omega
          · have HF := Lib.hid (show factsB xs most = false from by
              have : ascTo xs (j + 1 + 1) = false := by rw [HS.out]; unfold ltA; simp [hcmp]
              unfold factsB; rw [ascTo_false this]; simp)
            go_wp2_with fail
            refine calm_region (by kernel_rfl) (by kernel_rfl) ?_
            repeat (go_big_quiet_step ((first | (go_at_call 131; exact calm_call (HW.out _ (Later.ext _))) | (go_at_call 132; exact calm_call (HC.out _ (Later.ext _))))))
            refine wpQuiet_nil ?_
            rintro w1 ⟨⟨_, hx1⟩, rfl⟩
            go_wp2
            go_ret
            exact ⟨by rw [HF.out]; rfl, hx.trans' hx1⟩
    · have HF := Lib.hid (show factsB xs most = decide (xs.length ≤ most) from by
        have h1 := all_whole factB _ k hlt hp.out
        have h2 := ha.out
        unfold ascTo at h2
        rw [List.take_of_length_le (by omega)] at h2
        unfold factsB; rw [h1, h2]; rfl)
      go_wp2
      go_ret
      exact ⟨by rw [HF.out]; exact ret_bool (by simp), hx⟩

theorem specFactsOk_any (v : Value) (xs : List GA) (w : World) {S : Nat → Prop} (hv : AtomsR S w v xs) :
    Calls Tryz.prog 43 #[v] w fun e w' => e = .returned (.bool (factsB xs 300)) ∧ Ext w w' := by
  obtain ⟨A, c, rfl, hc1, hc2⟩ := SliceR.form hv
  have HV := Lib.hid hv
  clear hv
  go_enter Tryz.func43, Tryz.ntmps43
  go_wp2_with (go_at_call 87; refine (l3Ok_any _ xs 300 _ HV.out).mono ?_; rintro e w1 ⟨rfl, hx1⟩)
  go_ret
  exact ⟨rfl, hx1⟩

end Go.Proofs.YthndnkafckapnaaGreatDoor
