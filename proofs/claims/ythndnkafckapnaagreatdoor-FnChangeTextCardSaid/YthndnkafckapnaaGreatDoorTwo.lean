/- Two own slices of atoms, apart from each other. No program in sight. -/
import Derived.Test.YthndnkafckapnaaGreatDoorOwnO
namespace Go.Proofs.YthndnkafckapnaaGreatDoor
open Go.RowKit

/-- Two own slices of atoms under construction, all below block hi, no part of the one in the other. -/
structure TwoO (base hi : Nat) (e : TypeId) (Sc Sg : Nat → Prop) (w : World) (vc : Value) (gc : List GA) (vg : Value) (gg : List GA) : Prop where
  c : OwnO kAtomO base e Sc w vc gc
  g : OwnO kAtomO base e Sg w vg gg
  lc : ∀ b, Sc b → base ≤ b ∧ b < hi
  lg : ∀ b, Sg b → base ≤ b ∧ b < hi
  oc : ∀ b, vc.ownBlock = some b → b < hi ∧ ¬ Sg b ∧ vg.ownBlock ≠ some b
  og : ∀ b, vg.ownBlock = some b → b < hi ∧ ¬ Sc b ∧ vc.ownBlock ≠ some b
  dis : ∀ b, Sc b → ¬ Sg b

section
variable {base hi : Nat} {e : TypeId} {Sc Sg T : Nat → Prop} {w w' : World} {vc vg : Value} {gc gg : List GA}
theorem TwoO.swap (h : TwoO base hi e Sc Sg w vc gc vg gg) : TwoO base hi e Sg Sc w vg gg vc gc := ⟨h.g, h.c, h.lg, h.lc, h.og, h.oc, fun b h1 h2 => h.dis b h2 h1⟩
theorem TwoO.nil (base hi : Nat) (e : TypeId) (w : World) : TwoO base hi e (fun _ => False) (fun _ => False) w (.slice none 0 0) [] (.slice none 0 0) [] :=
  ⟨OwnO.nil, OwnO.nil, fun _ h => h.elim, fun _ h => h.elim, fun b h => by simp [Value.ownBlock] at h, fun b h => by simp [Value.ownBlock] at h, fun _ h => h.elim⟩
theorem TwoO.ext (h : TwoO base hi e Sc Sg w vc gc vg gg) (he : Ext w w') : TwoO base hi e Sc Sg w' vc gc vg gg := ⟨h.c.ext he, h.g.ext he, h.lc, h.lg, h.oc, h.og, h.dis⟩
theorem TwoO.up (h : TwoO base hi e Sc Sg w vc gc vg gg) {hi' : Nat} (hh : hi ≤ hi') : TwoO base hi' e Sc Sg w vc gc vg gg :=
  ⟨h.c, h.g, fun b hb => ⟨(h.lc b hb).1, Nat.lt_of_lt_of_le (h.lc b hb).2 hh⟩, fun b hb => ⟨(h.lg b hb).1, Nat.lt_of_lt_of_le (h.lg b hb).2 hh⟩, fun b hb => ⟨Nat.lt_of_lt_of_le (h.oc b hb).1 hh, (h.oc b hb).2⟩, fun b hb => ⟨Nat.lt_of_lt_of_le (h.og b hb).1 hh, (h.og b hb).2⟩, h.dis⟩
theorem TwoO.set (h : TwoO base hi e Sc Sg w vc gc vg gg) {p : Addr} (hp : p.block < base) (u : Value) : TwoO base hi e Sc Sg (w.setCell p u) vc gc vg gg := by
  have key : ∀ {S : Nat → Prop} {v : Value} {l : List GA}, (∀ b, S b → base ≤ b ∧ b < hi) → OwnO kAtomO base e S w v l → OwnO kAtomO base e S (w.setCell p u) v l := fun hS ho =>
    ho.agree ((Agree.refl _ _).setCell (fun hb => absurd (hS _ hb).1 (Nat.not_le.2 hp)) u) (fun g hg => Below.heap_setCell w p u g (by have := (ho.at_ g hg).1; omega)) (by simp [World.setCell])
  exact ⟨key h.lc h.c, key h.lg h.g, h.lc, h.lg, h.oc, h.og, h.dis⟩
/-- One more in the first. -/
theorem TwoO.app (h : TwoO base hi e Sc Sg w vc gc vg gg) {x : GA} {v' : Value} {m : Nat} (hap : AppedO kAtomO base e (fun b => Sc b ∨ (T b ∧ b < m)) w vc (gc ++ [x]) v' w') (hm : m = w.heap.size) (hT : ∀ b, T b → hi ≤ b) (hb : base ≤ hi) (hh : hi ≤ w.heap.size) :
    TwoO base w'.heap.size e (fun b => Sc b ∨ (T b ∧ b < m)) Sg w' v' (gc ++ [x]) vg gg := by
  subst hm
  have hz := hap.grown.size
  have hlt : ∀ b, v'.ownBlock = some b → b < w'.heap.size := fun b hb => (hap.own.at_ b hb).2
  refine ⟨hap.own, ?_, fun b hb' => ?_, fun b hb' => ⟨(h.lg b hb').1, by have := (h.lg b hb').2; omega⟩, fun b hb' => ?_, fun b hb' => ?_, fun b hb' hg => ?_⟩
  · exact h.g.agree (fun b hb' hlt' => hap.grown.block b hlt' (fun e => (h.oc b e.symm).2.1 hb')) (fun g hg => hap.grown.block g (h.g.at_ g hg).2 (fun e => (h.oc g e.symm).2.2 hg)) hz
  · rcases hb' with hb' | ⟨hb', hlt'⟩
    · exact ⟨(h.lc b hb').1, by have := (h.lc b hb').2; omega⟩
    · exact ⟨Nat.le_trans hb (hT b hb'), by omega⟩
  · refine ⟨hlt b hb', ?_, ?_⟩
    · rcases hap.at_ with e | e
      · exact (h.oc b (e ▸ hb')).2.1
      · rw [e] at hb'; injection hb' with hb'
        intro hg; have := (h.lg b hg).2; omega
    · rcases hap.at_ with e | e
      · exact (h.oc b (e ▸ hb')).2.2
      · rw [e] at hb'; injection hb' with hb'
        intro hg; have := (h.og b hg).1; omega
  · refine ⟨by have := (h.og b hb').1; omega, ?_, ?_⟩
    · rintro (h1 | ⟨h1, _⟩)
      · exact (h.og b hb').2.1 h1
      · have := hT b h1; have := (h.og b hb').1; omega
    · rcases hap.at_ with e | e
      · rw [e]; exact (h.og b hb').2.2
      · rw [e]; intro e2; injection e2 with e2; have := (h.og b hb').1; omega
  · rcases hb' with h1 | ⟨h1, _⟩
    · exact h.dis b h1 hg
    · have := hT b h1; have := (h.lg b hg).2; omega

theorem OwnO.slice2 {α : Type} {k : Kind α} {S : Nat → Prop} {v : Value} {xs : List α} (h : OwnO k base e S w v xs) : SliceO k (fun b => S b ∨ v.ownBlock = some b) w v xs := by
  obtain ⟨rows, F, k1, k2, k3, k4, k5, k6⟩ := h
  rcases k1.2 with ⟨rfl, h0⟩ | ⟨g, cap, cur, rfl, hb, hc, h2, h3, h4, h5⟩
  · have : xs = [] := List.eq_nil_of_length_eq_zero h0
    subst this
    exact SliceO.nil 0 (Nat.zero_le _) none
  · have hblk : Blk w g e cur := hc
    refine ⟨_, cap, rfl, h2, h3, fun _ => ⟨g, 0, F, rfl, hblk.lt, .inr rfl, fun j _ => hblk.frozen _, fun i n hn => ⟨.inl (k4 i n hn).1, fun e => k6 g rfl i (e ▸ hn), (k4 i n hn).2⟩, k5, fun i x hx => ?_⟩⟩
    obtain ⟨l, m1, m2, m3⟩ := k3 i x hx
    refine ⟨l, m1, fun j u hu => ?_, m3⟩
    have h6 := m2 j u hu
    rw [← h5, List.getElem?_take] at h6
    split at h6
    · rw [hblk.cell, Nat.zero_add]
      simpa using h6
    · cases h6

/-- What reading a change hands back. -/
def GotChange (N : Nat) (o : Option GC) (e : Ending) (w' : World) : Prop :=
  match o with
  | none => e = .returned (.tuple #[.agg #[.slice none 0 0, .slice none 0 0], .bool false])
  | some g => ∃ (v u : Value) (Sc Sg : Nat → Prop), e = .returned (.tuple #[.agg #[v, u], .bool true]) ∧ AtomsO Sc w' v g.comes ∧ AtomsO Sg w' u g.goes ∧ (∀ b, Sc b → N ≤ b) ∧ (∀ b, Sg b → N ≤ b) ∧ ∀ b, Sc b → ¬ Sg b
theorem TwoO.got (h : TwoO base hi e Sc Sg w vc gc vg gg) {N : Nat} (hN : N ≤ base) {g : GC} (h1 : g.comes = gc) (h2 : g.goes = gg) : GotChange N (some g) (.returned (.tuple #[.agg #[vc, vg], .bool true])) w := by
  subst h1; subst h2
  refine ⟨vc, vg, _, _, rfl, h.c.slice2, h.g.slice2, fun b hb => ?_, fun b hb => ?_, fun b hb hg => ?_⟩
  · rcases hb with hb | hb
    · exact Nat.le_trans hN (h.lc b hb).1
    · exact Nat.le_trans hN (h.c.at_ b hb).1
  · rcases hb with hb | hb
    · exact Nat.le_trans hN (h.lg b hb).1
    · exact Nat.le_trans hN (h.g.at_ b hb).1
  · rcases hb with hb | hb <;> rcases hg with hg | hg
    · exact h.dis b hb hg
    · exact (h.og b hg).2.1 hb
    · exact (h.oc b hb).2.1 hg
    · exact (h.oc b hb).2.2 hg
end

end Go.Proofs.YthndnkafckapnaaGreatDoor
