/- The walks of the laws' measures: szTerm, szTermS, szAtom, szAtomS, szChange. -/
import Derived.Test.YthndnkafckapnaaGreatDoorRows
import Derived.Test.YthndnkafckapnaaGreatDoorRep
namespace Go.Proofs.YthndnkafckapnaaGreatDoor
open Go.RowKit

/-- What is left of a purse behind a weight; -1 if it does not suffice. -/
def purse (left : Int) (n : Nat) : Int := if (n : Int) ≤ left then left - n else -1


theorem purse_yes {l : Int} {n : Nat} (h : (n : Int) ≤ l) : purse l n = l - n := if_pos h
theorem purse_no {l : Int} {n : Nat} (h : l < n) : purse l n = -1 := if_neg (by omega)

set_option maxHeartbeats 400000 in
theorem szTerm_any (t : GT) (l : Int) (w : World) (hl : 0 ≤ l ∧ l ≤ 1048576) (hs : t.n.size ≤ maxLen) :
    Calls Tryz.prog 177 #[.agg #[.bool t.v, .string t.n], .int .i64 l] w fun e w' => e = .returned (.int .i64 (purse l (wTerm t))) ∧ Ext w w' := by
  unfold maxLen at hs
  obtain ⟨h0, h1⟩ := hl
  by_cases hc : l < t.n.size
  · have HP := Lib.hid (purse_no (l := l) (n := wTerm t) hc)
    go_enter Tryz.func177, Tryz.ntmps177
    go_wp2
    go_ret
    exact ⟨by rw [HP.out]; rfl, (Ext.refl _).alloc _⟩
  · have HP := Lib.hid (purse_yes (l := l) (n := wTerm t) (by unfold wTerm; omega))
    go_enter Tryz.func177, Tryz.ntmps177
    go_wp2
    go_ret
    exact ⟨by rw [HP.out]; rfl, (Ext.refl _).alloc _⟩

theorem sum_snoc {α : Type} (f : α → Nat) (l : List α) (k : Nat) (x : α) (h : l[k]? = some x) : ((l.take (k + 1)).map f).sum = ((l.take k).map f).sum + f x := by
  obtain ⟨hk, rfl⟩ := List.getElem?_eq_some_iff.1 h
  rw [List.take_succ_eq_append_getElem hk, List.map_append, List.sum_append]; simp only [List.map_cons, List.map_nil, List.sum_cons, List.sum_nil, Nat.add_zero]
theorem sum_take_le {α : Type} (f : α → Nat) (l : List α) (k : Nat) : ((l.take k).map f).sum ≤ (l.map f).sum := by
  have h : (l.map f).sum = ((l.take k ++ l.drop k).map f).sum := by rw [List.take_append_drop]
  rw [h, List.map_append, List.sum_append]; omega

theorem two_ways {P : Program} {f : FuncId} {args : Array Value} {w : World} {l : Int} {n : Nat} (h : Calls P f args w fun e w' => e = .returned (.int .i64 (purse l n)) ∧ Ext w w') :
    (l < n → Calls P f args w fun e w' => e = .returned (.int .i64 (-1)) ∧ Ext w w') ∧ ((n : Int) ≤ l → Calls P f args w fun e w' => e = .returned (.int .i64 (l - n)) ∧ Ext w w') :=
  ⟨fun hc => by rw [purse_no hc] at h; exact h, fun hc => by rw [purse_yes hc] at h; exact h⟩

set_option maxHeartbeats 1000000 in
theorem szTermS_any (v : Value) (xs : List GT) (l : Int) (w : World) (hl : 0 ≤ l ∧ l ≤ 1048576) {S : Nat → Prop} (hv : TermsR S w v xs) :
    Calls Tryz.prog 134 #[v, .int .i64 l] w fun e w' => e = .returned (.int .i64 (purse l (wTerms xs))) ∧ Ext w w' := by
  obtain ⟨h0, h1⟩ := hl
  obtain ⟨A, c, rfl, hc1, hc2⟩ := SliceR.form hv
  by_cases hc : l < xs.length
  · have HP := Lib.hid (purse_no (l := l) (n := wTerms xs) (by unfold wTerms; omega))
    go_enter Tryz.func134, Tryz.ntmps134
    go_wp2
    go_ret
    exact ⟨by rw [HP.out]; rfl, Ext.refl _⟩
  · go_enter Tryz.func134, Tryz.ntmps134
    go_wp2
    go_loopw [1, 5] (fun lf i wr => ∃ k : Nat, ∃ q : Int, k ≤ xs.length ∧ i = .int .i64 k ∧ lf = .int .i64 q ∧ 0 ≤ q ∧ q ≤ l ∧ q = l - xs.length - ((xs.take k).map wTerm).sum ∧ Ext w wr) (fun _ i _ => xs.length - (intOf i).toNat)
    case atStart => exact ⟨0, _, Nat.zero_le _, rfl, rfl, by omega, by omega, by simp, Ext.refl _⟩
    case round =>
      obtain ⟨k, q, hk, rfl, rfl, hq0, hq1, hq, hx⟩ := hrel
      have HQ := Lib.hid hq
      clear hq
      by_cases hlt : k < xs.length
      · obtain ⟨b, off, x, rfl, hb, hxk, hxs, hc0, hc1⟩ := TermsR.at_ (hv.ext hx) hlt
        have HS := Lib.hid (sum_snoc wTerm xs k x hxk)
        have HL := Lib.hid (sum_take_le wTerm xs (k + 1))
        clear hxk hv
        have hw := two_ways (szTerm_any x q wr ⟨by omega, by omega⟩ hxs)
        by_cases hs : q < wTerm x
        · have HP := Lib.hid (purse_no (l := l) (n := wTerms xs) (by have := HS.out; have := HL.out; have := HQ.out; unfold wTerms; omega))
          have hw1 := Lib.hid (hw.1 hs)
          clear hw
          go_wp2_with (go_at_call 177; refine hw1.out.mono ?_; rintro e w1 ⟨rfl, hx1⟩)
          go_ret
          exact ⟨by rw [HP.out]; rfl, hx.trans' hx1⟩
        · have hw1 := Lib.hid (hw.2 (by omega))
          have hle : (wTerm x : Int) ≤ q := by omega
          clear hw
          go_wp2_with (go_at_call 177; refine hw1.out.mono ?_; rintro e w1 ⟨rfl, hx1⟩)
          go_roundw
          case rel => exact ⟨k + 1, _, by omega, by go_num, rfl, by omega, by omega, by have := HS.out; have := HQ.out; omega, hx.trans' hx1⟩
          case measure => simp [intOf]; omega
      · have HP := Lib.hid (purse_yes (l := l) (n := wTerms xs) (by
          have := HQ.out; rw [List.take_of_length_le (by omega)] at this; unfold wTerms; omega))
        go_wp2
        go_ret
        exact ⟨by rw [HP.out]; have := HQ.out; rw [List.take_of_length_le (by omega)] at this; rw [this]; unfold wTerms; exact congrArg (fun z => Ending.returned (.int .i64 z)) (by push_cast; omega), hx⟩

set_option maxHeartbeats 1000000 in
theorem szAtom_any (a : GA) (v : Value) (l : Int) (w : World) (hl : 0 ≤ l ∧ l ≤ 1048576) (hs : a.n.size ≤ maxLen) {S : Nat → Prop} (hv : TermsR S w v a.args) :
    Calls Tryz.prog 95 #[.agg #[.string a.n, v], .int .i64 l] w fun e w' => e = .returned (.int .i64 (purse l (wAtom a))) ∧ Ext w w' := by
  unfold maxLen at hs
  obtain ⟨h0, h1⟩ := hl
  obtain ⟨A, c, rfl, hc1, hc2⟩ := SliceR.form hv
  by_cases hc : l < a.n.size
  · have HP := Lib.hid (purse_no (l := l) (n := wAtom a) (by unfold wAtom; omega))
    go_enter Tryz.func95, Tryz.ntmps95
    go_wp2
    go_ret
    exact ⟨by rw [HP.out]; rfl, (Ext.refl _).alloc _⟩
  · have hw := two_ways (szTermS_any _ a.args (l - a.n.size) _ ⟨by omega, by omega⟩ (hv.ext ((Ext.refl w).alloc (.cells #[.string a.n, .slice A a.args.length c] 87))))
    by_cases hq : l - a.n.size < wTerms a.args
    · have HP := Lib.hid (purse_no (l := l) (n := wAtom a) (by unfold wAtom; omega))
      have hw1 := Lib.hid (hw.1 hq)
      clear hw
      go_enter Tryz.func95, Tryz.ntmps95
      go_wp2_with (go_at_call 134; go_fit hw1.out; rintro e w1 ⟨rfl, hx1⟩)
      go_ret
      exact ⟨by rw [HP.out]; rfl, ((Ext.refl _).alloc _).trans' hx1⟩
    · have HP := Lib.hid (purse_yes (l := l) (n := wAtom a) (by unfold wAtom; omega))
      have hw1 := Lib.hid (hw.2 (by omega))
      clear hw
      go_enter Tryz.func95, Tryz.ntmps95
      go_wp2_with (go_at_call 134; go_fit hw1.out; rintro e w1 ⟨rfl, hx1⟩)
      go_ret
      exact ⟨by rw [HP.out]; unfold wAtom; exact congrArg (fun z => Ending.returned (.int .i64 z)) (by push_cast; omega), ((Ext.refl _).alloc _).trans' hx1⟩

end Go.Proofs.YthndnkafckapnaaGreatDoor
