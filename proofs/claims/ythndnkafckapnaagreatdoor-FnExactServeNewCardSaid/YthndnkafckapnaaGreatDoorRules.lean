/- The walks of the laws' harness for rules: sizes, copies, sameness. -/
import Derived.Test.YthndnkafckapnaaGreatDoorSz
import Derived.Test.YthndnkafckapnaaGreatDoorTo
import Derived.Test.YthndnkafckapnaaGreatDoorEq
namespace Go.Proofs.YthndnkafckapnaaGreatDoor
open Go.RowKit

set_option maxHeartbeats 1000000 in
theorem szPart_any (p : GP) (v : Value) (l : Int) (w : World) (hl : 0 ≤ l ∧ l ≤ 1048576) (hs : p.atom.n.size ≤ maxLen) {S : Nat → Prop} (hv : TermsR S w v p.atom.args) :
    Calls Tryz.prog 135 #[.agg #[.bool p.no, .string p.atom.n, v], .int .i64 l] w fun e w' => e = .returned (.int .i64 (purse l (wPart p))) ∧ Ext w w' := by
  obtain ⟨A, c, rfl, hc1, hc2⟩ := SliceR.form hv
  have hw := two_ways (szAtom_any p.atom _ l _ hl hs (hv.ext ((Ext.refl w).alloc (.cells #[.bool p.no, .string p.atom.n, .slice A p.atom.args.length c] 180))))
  obtain ⟨h0, h1⟩ := hl
  by_cases hq : l < wAtom p.atom
  · have HP := Lib.hid (purse_no (l := l) (n := wPart p) hq)
    have hw1 := Lib.hid (hw.1 hq)
    clear hw
    go_enter Tryz.func135, Tryz.ntmps135
    go_wp2_with (go_at_call 95; go_fit hw1.out; rintro e w1 ⟨rfl, hx1⟩)
    go_ret
    exact ⟨by rw [HP.out]; rfl, ((Ext.refl _).alloc _).trans' hx1⟩
  · have HP := Lib.hid (purse_yes (l := l) (n := wPart p) (by unfold wPart; omega))
    have hw1 := Lib.hid (hw.2 (by omega))
    have hle : (wAtom p.atom : Int) ≤ l := by omega
    clear hw
    go_enter Tryz.func135, Tryz.ntmps135
    go_wp2_with (go_at_call 95; go_fit hw1.out; rintro e w1 ⟨rfl, hx1⟩)
    go_ret
    exact ⟨by rw [HP.out]; rfl, ((Ext.refl _).alloc _).trans' hx1⟩

set_option maxHeartbeats 1000000 in
theorem szPartS_any (v : Value) (xs : List GP) (l : Int) (w : World) (hl : 0 ≤ l ∧ l ≤ 1048576) {S : Nat → Prop} (hv : PartsR S w v xs) :
    Calls Tryz.prog 96 #[v, .int .i64 l] w fun e w' => e = .returned (.int .i64 (purse l (wParts xs))) ∧ Ext w w' := by
  obtain ⟨h0, h1⟩ := hl
  obtain ⟨A, c, rfl, hc1, hc2⟩ := SliceR.form hv
  by_cases hc : l < xs.length
  · have HP := Lib.hid (purse_no (l := l) (n := wParts xs) (by unfold wParts; omega))
    go_enter Tryz.func96, Tryz.ntmps96
    go_wp2
    go_ret
    exact ⟨by rw [HP.out]; rfl, Ext.refl _⟩
  · go_enter Tryz.func96, Tryz.ntmps96
    go_wp2
    go_loopw [1, 5] (fun lf i wr => ∃ k : Nat, ∃ q : Int, k ≤ xs.length ∧ i = .int .i64 k ∧ lf = .int .i64 q ∧ 0 ≤ q ∧ q ≤ l ∧ q = l - xs.length - ((xs.take k).map wPart).sum ∧ Ext w wr) (fun _ i _ => xs.length - (intOf i).toNat)
    case atStart => exact ⟨0, _, Nat.zero_le _, rfl, rfl, by omega, by omega, by simp, Ext.refl _⟩
    case round =>
      obtain ⟨k, q, hk, rfl, rfl, hq0, hq1, hq, hx⟩ := hrel
      have HQ := Lib.hid hq
      clear hq
      by_cases hlt : k < xs.length
      · obtain ⟨b, off, x, v, rfl, hb, hxk, hxs, ht, hc0, hc1, hc2⟩ := PartsR.at_ (hv.ext hx) hlt
        have HS := Lib.hid (sum_snoc wPart xs k x hxk)
        have HL := Lib.hid (sum_take_le wPart xs (k + 1))
        clear hxk hv
        have hw := two_ways (szPart_any x v q wr ⟨by omega, by omega⟩ hxs ht)
        by_cases hs : q < wPart x
        · have HP := Lib.hid (purse_no (l := l) (n := wParts xs) (by have := HS.out; have := HL.out; have := HQ.out; unfold wParts; omega))
          have hw1 := Lib.hid (hw.1 hs)
          clear hw
          go_wp2_with (go_at_call 135; refine hw1.out.mono ?_; rintro e w1 ⟨rfl, hx1⟩)
          go_ret
          exact ⟨by rw [HP.out]; rfl, hx.trans' hx1⟩
        · have hw1 := Lib.hid (hw.2 (by omega))
          have hle : (wPart x : Int) ≤ q := by omega
          clear hw
          go_wp2_with (go_at_call 135; refine hw1.out.mono ?_; rintro e w1 ⟨rfl, hx1⟩)
          go_roundw
          case rel => exact ⟨k + 1, _, by omega, by go_num, rfl, by omega, by omega, by have := HS.out; have := HQ.out; omega, hx.trans' hx1⟩
          case measure => simp [intOf]; omega
      · have HP := Lib.hid (purse_yes (l := l) (n := wParts xs) (by
          have := HQ.out; rw [List.take_of_length_le (by omega)] at this; unfold wParts; omega))
        go_wp2
        go_ret
        exact ⟨by rw [HP.out]; have := HQ.out; rw [List.take_of_length_le (by omega)] at this; rw [this]; unfold wParts; exact congrArg (fun z => Ending.returned (.int .i64 z)) (by push_cast; omega), hx⟩

set_option maxHeartbeats 1000000 in
theorem szRule_any (r : GR) (v u : Value) (l : Int) (w : World) (hl : 0 ≤ l ∧ l ≤ 1048576) (hs : r.head.n.size ≤ maxLen) {S : Nat → Prop} (hv : TermsR S w v r.head.args) (hu : PartsR S w u r.body) :
    Calls Tryz.prog 50 #[.agg #[.string r.head.n, v, u], .int .i64 l] w fun e w' => e = .returned (.int .i64 (purse l (wRule r))) ∧ Ext w w' := by
  obtain ⟨A, c, rfl, hc1, hc2⟩ := SliceR.form hv
  obtain ⟨B, d, rfl, hd1, hd2⟩ := SliceR.form hu
  have hw := two_ways (szAtom_any r.head _ l _ hl hs (hv.ext ((Ext.refl w).alloc (.cells #[.string r.head.n, .slice A r.head.args.length c, .slice B r.body.length d] 90))))
  obtain ⟨h0, h1⟩ := hl
  have HU := Lib.hid (hu.ext ((Ext.refl w).alloc (.cells #[.string r.head.n, .slice A r.head.args.length c, .slice B r.body.length d] 90)))
  have HB := Lib.hid (Blk.new w 90 #[.string r.head.n, .slice A r.head.args.length c, .slice B r.body.length d])
  clear hv hu
  by_cases hq : l < wAtom r.head
  · have HP := Lib.hid (purse_no (l := l) (n := wRule r) (by unfold wRule; omega))
    have hw1 := Lib.hid (hw.1 hq)
    clear hw
    go_enter Tryz.func50, Tryz.ntmps50
    go_wp2_with (go_at_call 95; go_fit hw1.out; rintro e w1 ⟨rfl, hx1⟩)
    go_ret
    exact ⟨by rw [HP.out]; rfl, ((Ext.refl _).alloc _).trans' hx1⟩
  · have hle : (wAtom r.head : Int) ≤ l := by omega
    have hw1 := Lib.hid (hw.2 hle)
    have hP2 := fun W hW => two_ways (szPartS_any _ r.body (l - wAtom r.head) W ⟨by omega, by omega⟩ (HU.out.ext hW))
    clear hw
    by_cases hq2 : l - wAtom r.head < wParts r.body
    · have HP := Lib.hid (purse_no (l := l) (n := wRule r) (by unfold wRule; omega))
      have hw2 := Lib.hid (fun W hW => (hP2 W hW).1 hq2)
      clear hP2
      go_enter Tryz.func50, Tryz.ntmps50
      go_wp2_with (first
        | (go_at_call 95; go_fit hw1.out; rintro e w1 ⟨rfl, hx1⟩; have HX1 := Lib.hid hx1; have hb1 := HB.out.ext hx1; have q2 := hb1.cell 2; have hl1 := hb1.lt; clear hx1 hb1)
        | (go_at_call 96; refine (hw2.out _ HX1.out).mono ?_; rintro e w2 ⟨rfl, hx2⟩))
      go_ret
      exact ⟨by rw [HP.out]; rfl, ((Ext.refl _).alloc _).trans' (HX1.out.trans' hx2)⟩
    · have HP := Lib.hid (purse_yes (l := l) (n := wRule r) (by unfold wRule; omega))
      have hw2 := Lib.hid (fun W hW => (hP2 W hW).2 (by omega))
      have hle2 : (wParts r.body : Int) ≤ l - wAtom r.head := by omega
      clear hP2
      go_enter Tryz.func50, Tryz.ntmps50
      go_wp2_with (first
        | (go_at_call 95; go_fit hw1.out; rintro e w1 ⟨rfl, hx1⟩; have HX1 := Lib.hid hx1; have hb1 := HB.out.ext hx1; have q2 := hb1.cell 2; have hl1 := hb1.lt; clear hx1 hb1)
        | (go_at_call 96; refine (hw2.out _ HX1.out).mono ?_; rintro e w2 ⟨rfl, hx2⟩))
      go_ret
      exact ⟨by rw [HP.out]; unfold wRule; exact congrArg (fun z => Ending.returned (.int .i64 z)) (by push_cast; omega), ((Ext.refl _).alloc _).trans' (HX1.out.trans' hx2)⟩

set_option maxHeartbeats 1000000 in
theorem szRuleS_any (v : Value) (xs : List GR) (l : Int) (w : World) (hl : 0 ≤ l ∧ l ≤ 1048576) {S : Nat → Prop} (hv : RulesR S w v xs) :
    Calls Tryz.prog 15 #[v, .int .i64 l] w fun e w' => e = .returned (.int .i64 (purse l (wRules xs))) ∧ Ext w w' := by
  obtain ⟨h0, h1⟩ := hl
  obtain ⟨A, c, rfl, hc1, hc2⟩ := SliceR.form hv
  by_cases hc : l < xs.length
  · have HP := Lib.hid (purse_no (l := l) (n := wRules xs) (by unfold wRules; omega))
    go_enter Tryz.func15, Tryz.ntmps15
    go_wp2
    go_ret
    exact ⟨by rw [HP.out]; rfl, Ext.refl _⟩
  · go_enter Tryz.func15, Tryz.ntmps15
    go_wp2
    go_loopw [1, 5] (fun lf i wr => ∃ k : Nat, ∃ q : Int, k ≤ xs.length ∧ i = .int .i64 k ∧ lf = .int .i64 q ∧ 0 ≤ q ∧ q ≤ l ∧ q = l - xs.length - ((xs.take k).map wRule).sum ∧ Ext w wr) (fun _ i _ => xs.length - (intOf i).toNat)
    case atStart => exact ⟨0, _, Nat.zero_le _, rfl, rfl, by omega, by omega, by simp, Ext.refl _⟩
    case round =>
      obtain ⟨k, q, hk, rfl, rfl, hq0, hq1, hq, hx⟩ := hrel
      have HQ := Lib.hid hq
      clear hq
      by_cases hlt : k < xs.length
      · obtain ⟨b, off, x, v, u, rfl, hb, hxk, hxs, ht, hu, hc0, hc1, hc2⟩ := RulesR.at_ (hv.ext hx) hlt
        have HS := Lib.hid (sum_snoc wRule xs k x hxk)
        have HL := Lib.hid (sum_take_le wRule xs (k + 1))
        clear hxk hv
        have hw := two_ways (szRule_any x v u q wr ⟨by omega, by omega⟩ hxs ht hu)
        by_cases hs : q < wRule x
        · have HP := Lib.hid (purse_no (l := l) (n := wRules xs) (by have := HS.out; have := HL.out; have := HQ.out; unfold wRules; omega))
          have hw1 := Lib.hid (hw.1 hs)
          clear hw
          go_wp2_with (go_at_call 50; refine hw1.out.mono ?_; rintro e w1 ⟨rfl, hx1⟩)
          go_ret
          exact ⟨by rw [HP.out]; rfl, hx.trans' hx1⟩
        · have hw1 := Lib.hid (hw.2 (by omega))
          have hle : (wRule x : Int) ≤ q := by omega
          clear hw
          go_wp2_with (go_at_call 50; refine hw1.out.mono ?_; rintro e w1 ⟨rfl, hx1⟩)
          go_roundw
          case rel => exact ⟨k + 1, _, by omega, by go_num, rfl, by omega, by omega, by have := HS.out; have := HQ.out; omega, hx.trans' hx1⟩
          case measure => simp [intOf]; omega
      · have HP := Lib.hid (purse_yes (l := l) (n := wRules xs) (by
          have := HQ.out; rw [List.take_of_length_le (by omega)] at this; unfold wRules; omega))
        go_wp2
        go_ret
        exact ⟨by rw [HP.out]; have := HQ.out; rw [List.take_of_length_le (by omega)] at this; rw [this]; unfold wRules; exact congrArg (fun z => Ending.returned (.int .i64 z)) (by push_cast; omega), hx⟩

set_option maxHeartbeats 1000000 in
theorem eqPart_same (p : GP) (v u : Value) (w : World) {S T : Nat → Prop} (hv : TermsR S w v p.atom.args) (hu : TermsR T w u p.atom.args) :
    Calls Tryz.prog 148 #[.agg #[.bool p.no, .string p.atom.n, v], .agg #[.bool p.no, .string p.atom.n, u]] w fun e w' => e = .returned (.bool true) ∧ Ext w w' := by
  obtain ⟨A, c, rfl, hc1, hc2⟩ := SliceR.form hv
  obtain ⟨B, d, rfl, hd1, hd2⟩ := SliceR.form hu
  have HV := Lib.hid hv
  have HU := Lib.hid hu
  have hbb : (p.no == p.no) = true := beq_self_eq_true _
  clear hv hu
  go_enter Tryz.func148, Tryz.ntmps148
  go_wp2_with (go_at_call 107; refine (eqAtom_same p.atom _ _ _ (HV.out.ext (((Ext.refl _).alloc _).alloc _)) (HU.out.ext (((Ext.refl _).alloc _).alloc _))).mono ?_; rintro e w1 ⟨rfl, hx1⟩)
  go_ret
  exact ⟨rfl, (((Ext.refl _).alloc _).alloc _).trans' hx1⟩

set_option maxRecDepth 100000 in
set_option maxHeartbeats 1000000 in
theorem eqPartS_same (v u : Value) (xs : List GP) (w : World) {S T : Nat → Prop} (hv : PartsR S w v xs) (hu : PartsR T w u xs) :
    Calls Tryz.prog 108 #[v, u] w fun e w' => e = .returned (.bool true) ∧ Ext w w' := by
  obtain ⟨A, c, rfl, hc1, hc2⟩ := SliceR.form hv
  obtain ⟨B, d, rfl, hd1, hd2⟩ := SliceR.form hu
  have HV := Lib.hid hv
  have HU := Lib.hid hu
  clear hv hu
  go_enter Tryz.func108, Tryz.ntmps108
  go_wp2
  go_loopw [5] (fun i wr => ∃ k : Nat, k ≤ xs.length ∧ i = .int .i64 k ∧ Ext w wr) (fun i _ => xs.length - (intOf i).toNat)
  case atStart => exact ⟨0, Nat.zero_le _, rfl, Ext.refl _⟩
  case round =>
    obtain ⟨k, hk, rfl, hx⟩ := hrel
    by_cases hlt : k < xs.length
    · obtain ⟨b, off, x, v1, rfl, hb, hxk, hxs, ht1, hc0, hc1, hc2⟩ := PartsR.at_ (HV.out.ext hx) hlt
      obtain ⟨b', off', x', v2, rfl, hb', hxk', hxs', ht2, hc0', hc1', hc2'⟩ := PartsR.at_ (HU.out.ext hx) hlt
      obtain rfl : x = x' := Option.some.inj (hxk.symm.trans hxk')
      clear hxk hxk'
      have hk0 : (0 : Int) ≤ (k : Int) := Int.natCast_nonneg _
      have hk1 : (k : Int) < (xs.length : Int) := by omega
      go_wp2_with fail
      go_still_tail 8, (by kernel_rfl)
      change wpList _ _ _ _ _ wr.drew
      clear hb hb' hc0 hc1 hc2 hc0' hc1' hc2'
      go_wp2_with (go_at_call 148; refine (eqPart_same x _ _ _ ht1.drew_ ht2.drew_).mono ?_; rintro e w1 ⟨rfl, hx1⟩)
      go_roundw
      case rel => exact ⟨k + 1, by omega, by go_num, hx.drew.trans' hx1⟩
      case measure => simp [intOf]; omega
    · go_wp2
      go_ret
      exact ⟨rfl, hx⟩

set_option maxHeartbeats 1000000 in
theorem eqRule_same (r : GR) (v1 u1 v2 u2 : Value) (w : World) {S T S' T' : Nat → Prop} (hv1 : TermsR S w v1 r.head.args) (hu1 : PartsR T w u1 r.body) (hv2 : TermsR S' w v2 r.head.args) (hu2 : PartsR T' w u2 r.body) :
    Calls Tryz.prog 57 #[.agg #[.string r.head.n, v1, u1], .agg #[.string r.head.n, v2, u2]] w fun e w' => e = .returned (.bool true) ∧ Ext w w' := by
  obtain ⟨A1, c1, rfl, hc1, hc1'⟩ := SliceR.form hv1
  obtain ⟨B1, d1, rfl, hd1, hd1'⟩ := SliceR.form hu1
  obtain ⟨A2, c2, rfl, hc2, hc2'⟩ := SliceR.form hv2
  obtain ⟨B2, d2, rfl, hd2, hd2'⟩ := SliceR.form hu2
  have HV1 := Lib.hid hv1
  have HU1 := Lib.hid hu1
  have HV2 := Lib.hid hv2
  have HU2 := Lib.hid hu2
  clear hv1 hu1 hv2 hu2
  go_enter Tryz.func57, Tryz.ntmps57
  go_wp2_with (first
    | (go_at_call 107; refine (eqAtom_same r.head _ _ _ (HV1.out.ext (((Ext.refl _).alloc _).alloc _)) (HV2.out.ext (((Ext.refl _).alloc _).alloc _))).mono ?_; rintro e w1 ⟨rfl, hx1⟩; obtain ⟨hcc, hcf⟩ := hx1.cells)
    | (go_at_call 108; refine (eqPartS_same _ _ r.body _ (HU1.out.ext ((((Ext.refl _).alloc _).alloc _).trans' hx1)) (HU2.out.ext ((((Ext.refl _).alloc _).alloc _).trans' hx1))).mono ?_; rintro e w2 ⟨rfl, hx2⟩))
  go_ret
  exact ⟨rfl, ((((Ext.refl _).alloc _).alloc _).trans' hx1).trans' hx2⟩

set_option maxRecDepth 100000 in
set_option maxHeartbeats 1000000 in
theorem eqRuleS_same (v u : Value) (xs : List GR) (w : World) {S T : Nat → Prop} (hv : RulesR S w v xs) (hu : RulesR T w u xs) :
    Calls Tryz.prog 20 #[v, u] w fun e w' => e = .returned (.bool true) ∧ Ext w w' := by
  obtain ⟨A, c, rfl, hc1, hc2⟩ := SliceR.form hv
  obtain ⟨B, d, rfl, hd1, hd2⟩ := SliceR.form hu
  have HV := Lib.hid hv
  have HU := Lib.hid hu
  clear hv hu
  go_enter Tryz.func20, Tryz.ntmps20
  go_wp2
  go_loopw [5] (fun i wr => ∃ k : Nat, k ≤ xs.length ∧ i = .int .i64 k ∧ Ext w wr) (fun i _ => xs.length - (intOf i).toNat)
  case atStart => exact ⟨0, Nat.zero_le _, rfl, Ext.refl _⟩
  case round =>
    obtain ⟨k, hk, rfl, hx⟩ := hrel
    by_cases hlt : k < xs.length
    · obtain ⟨b, off, x, v1, u1, rfl, hb, hxk, hxs, ht1, hp1, hc0, hc1, hc2⟩ := RulesR.at_ (HV.out.ext hx) hlt
      obtain ⟨b', off', x', v2, u2, rfl, hb', hxk', hxs', ht2, hp2, hc0', hc1', hc2'⟩ := RulesR.at_ (HU.out.ext hx) hlt
      obtain rfl : x = x' := Option.some.inj (hxk.symm.trans hxk')
      clear hxk hxk'
      have hk0 : (0 : Int) ≤ (k : Int) := Int.natCast_nonneg _
      have hk1 : (k : Int) < (xs.length : Int) := by omega
      go_wp2_with fail
      go_still_tail 8, (by kernel_rfl)
      change wpList _ _ _ _ _ wr.drew
      clear hb hb' hc0 hc1 hc2 hc0' hc1' hc2'
      go_wp2_with (go_at_call 57; refine (eqRule_same x _ _ _ _ _ ht1.drew_ hp1.drew_ ht2.drew_ hp2.drew_).mono ?_; rintro e w1 ⟨rfl, hx1⟩)
      go_roundw
      case rel => exact ⟨k + 1, by omega, by go_num, hx.drew.trans' hx1⟩
      case measure => simp [intOf]; omega
    · go_wp2
      go_ret
      exact ⟨rfl, hx⟩

end Go.Proofs.YthndnkafckapnaaGreatDoor
