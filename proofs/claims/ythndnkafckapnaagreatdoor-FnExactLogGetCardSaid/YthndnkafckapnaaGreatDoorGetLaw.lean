/- For every text FnExactChangeGet returns true: the walk. -/
import Derived.Test.YthndnkafckapnaaGreatDoorReadI
import Derived.Test.YthndnkafckapnaaGreatDoorMark
import Derived.Test.YthndnkafckapnaaGreatDoorEq
namespace Go.Proofs.YthndnkafckapnaaGreatDoor
open Go.RowKit

/-- What reading a change hands back, be there one or not. -/
def GotC (N : Nat) (g : GC) (b : Bool) (n m : Nat) (e : Ending) (w' : World) : Prop :=
  ∃ (A B : Option Addr) (c d : Nat) (S T : Nat → Prop), e = .returned (.tuple #[.agg #[.slice A n c, .slice B m d], .bool b]) ∧ (n ≤ c ∧ c ≤ 9223372036854775807 ∧ m ≤ d ∧ d ≤ 9223372036854775807) ∧
    AtomsO S w' (.slice A n c) g.comes ∧ AtomsO T w' (.slice B m d) g.goes ∧ (∀ b, S b → N ≤ b ∧ b < w'.heap.size) ∧ (∀ b, T b → N ≤ b ∧ b < w'.heap.size) ∧ ∀ b, S b → ¬ T b
theorem GotChange.toC {N : Nat} {o : Option GC} {e : Ending} {w' : World} (h : GotChange N o e w') {n m : Nat} (hn : n = (o.getD noneC).comes.length) (hm : m = (o.getD noneC).goes.length) : GotC N (o.getD noneC) o.isSome n m e w' := by
  subst hn; subst hm
  cases o with
  | none => exact ⟨none, none, 0, 0, fun _ => False, fun _ => False, h, ⟨Nat.le_refl _, by omega, Nat.le_refl _, by omega⟩, SliceO.nil 0 (Nat.zero_le _) none, SliceO.nil 0 (Nat.zero_le _) none, fun _ h => h.elim, fun _ h => h.elim, fun _ h => h.elim⟩
  | some g =>
    obtain ⟨v, u, S, T, he, hv, hu, h1, h2, h3⟩ := h
    obtain ⟨A, c, rfl, k1, k2⟩ := SliceO.form hv
    obtain ⟨B, d, rfl, k3, k4⟩ := SliceO.form hu
    exact ⟨A, B, c, d, _, _, he, ⟨k1, k2, k3, k4⟩, SliceO.low hv, SliceO.low hu, fun b hb => ⟨h1 b hb.1, hb.2⟩, fun b hb => ⟨h2 b hb.1, hb.2⟩, fun b hb ht => h3 b hb.1 ht.1⟩
theorem costAs_le : ∀ {l : List GA}, (∀ a ∈ l, atomOkB a = true) → costAs l ≤ 7 * l.length
  | [], _ => by simp [costAs]
  | a :: l, h => by
    have h1 := (atom_parts (h a (by simp))).2.1
    have h2 := costAs_le (l := l) (fun a ha => h a (List.mem_cons_of_mem _ ha))
    simp only [costAs, List.map_cons, List.sum_cons, List.length_cons, costA] at *
    omega
theorem facts_few {l : List GA} {n : Nat} (h : factsB l n = true) : l.length ≤ n := by
  unfold factsB at h
  simp only [Bool.and_eq_true, decide_eq_true_eq] at h
  omega
theorem change_cost (l : List UInt8) : costAs ((changeOf l).getD noneC).comes + costAs ((changeOf l).getD noneC).goes ≤ 4200 := by
  cases h : changeOf l with
  | none => decide
  | some g =>
    have h1 := (changeOf_is h).1
    obtain ⟨h2, h3⟩ := changeOk_ok h1
    have h4 := costAs_le h2
    have h5 := costAs_le h3
    unfold changeOkB at h1
    simp only [Bool.and_eq_true] at h1
    have h6 := facts_few h1.1.1
    have h7 := facts_few h1.1.2
    show costAs g.comes + costAs g.goes ≤ 4200
    omega

end Go.Proofs.YthndnkafckapnaaGreatDoor
