/- The kinds of elements: parts, rules, changes, to be read and owned whole. No program in sight. -/
import Derived.Test.YthndnkafckapnaaGreatDoorOwnO
namespace Go.Proofs.YthndnkafckapnaaGreatDoor
open Go.RowKit

section
variable {α : Type} {k : Kind α} {S S' T : Nat → Prop} {w w' : World} {v u : Value} {xs : List α}
theorem SliceO.set (h : SliceO k S w v xs) {p : Addr} (hp : ¬ S p.block) (u : Value) : SliceO k S (w.setCell p u) v xs :=
  h.imp (fun _ h _ => h) ((Agree.refl _ _).setCell hp u) (by simp [World.setCell])
theorem SliceO.setAt (h : SliceO k S w v xs) {b o : Nat} (hp : ¬ S b) (u : Value) : SliceO k S (w.setCell ⟨b, o, none⟩ u) v xs := h.set (p := ⟨b, o, none⟩) hp u
theorem SliceO.one {v : Value} {xs : List α} (h : SliceO k S w v xs) : v.oneCell' = true := by obtain ⟨A, c, rfl, _⟩ := h.form; rfl
theorem ListK.one {v : Value} {xs : List α} (h : ListK k S w v xs) : v.oneCell' = true := by obtain ⟨A, c, rfl, _⟩ := SliceR.form h; rfl
end

theorem AtomsR.impL {S S' : Nat → Prop} {w w' : World} {v : Value} {xs : List GA} (h : AtomsR S w v xs) (hS : ∀ b, S b → b < w.heap.size → S' b) (he : Agree S w w') (hsz : w.heap.size ≤ w'.heap.size) : AtomsR S' w' v xs := ListK.imp (k := kAtom) h hS he hsz
def kPart : Kind GP := ⟨3, PartE, by decide, fun h hS he hsz => by obtain ⟨v, h1, h2, h3⟩ := h; exact ⟨v, h1, h2, h3.impL hS he hsz⟩,
  fun {_ _ l x} h => by obtain ⟨v, rfl, _, ht⟩ := h; intro u hu; simp at hu; rcases hu with rfl | rfl | rfl <;> first | rfl | exact ListK.one (k := kTerm) ht, fun h => by obtain ⟨v, rfl, _⟩ := h; rfl⟩
theorem PartsR.impL {S S' : Nat → Prop} {w w' : World} {v : Value} {xs : List GP} (h : PartsR S w v xs) (hS : ∀ b, S b → b < w.heap.size → S' b) (he : Agree S w w') (hsz : w.heap.size ≤ w'.heap.size) : PartsR S' w' v xs := ListK.imp (k := kPart) h hS he hsz
def kRule : Kind GR := ⟨3, RuleE, by decide, fun h hS he hsz => by obtain ⟨v, u, h1, h2, h3, h4⟩ := h; exact ⟨v, u, h1, h2, h3.impL hS he hsz, h4.impL hS he hsz⟩,
  fun {_ _ l x} h => by obtain ⟨v, u, rfl, _, ht, hp⟩ := h; intro y hy; simp at hy; rcases hy with rfl | rfl | rfl <;> first | rfl | exact ListK.one (k := kTerm) ht | exact ListK.one (k := kPart) hp, fun h => by obtain ⟨v, u, rfl, _⟩ := h; rfl⟩
theorem RulesR.impL {S S' : Nat → Prop} {w w' : World} {v : Value} {xs : List GR} (h : RulesR S w v xs) (hS : ∀ b, S b → b < w.heap.size → S' b) (he : Agree S w w') (hsz : w.heap.size ≤ w'.heap.size) : RulesR S' w' v xs := ListK.imp (k := kRule) h hS he hsz
def kChange : Kind GC := ⟨2, ChangeE, by decide, fun h hS he hsz => by obtain ⟨v, u, h1, h2, h3⟩ := h; exact ⟨v, u, h1, h2.impL hS he hsz, h3.impL hS he hsz⟩,
  fun {_ _ l x} h => by obtain ⟨v, u, rfl, ht, hp⟩ := h; intro y hy; simp at hy; rcases hy with rfl | rfl <;> first | exact ListK.one (k := kAtom) ht | exact ListK.one (k := kAtom) hp, fun h => by obtain ⟨v, u, rfl, _⟩ := h; rfl⟩
def ChangesR (S : Nat → Prop) : World → Value → List GC → Prop := SliceR S 2 (ChangeE S)
theorem ChangesR.impL {S S' : Nat → Prop} {w w' : World} {v : Value} {xs : List GC} (h : ChangesR S w v xs) (hS : ∀ b, S b → b < w.heap.size → S' b) (he : Agree S w w') (hsz : w.heap.size ≤ w'.heap.size) : ChangesR S' w' v xs := ListK.imp (k := kChange) h hS he hsz
theorem ChangesR.ext {S : Nat → Prop} {w w' : World} {v : Value} {xs : List GC} (h : ChangesR S w v xs) (he : Ext w w') : ChangesR S w' v xs := h.impL (fun _ h _ => h) (.of_ext he) he.size
theorem ChangesR.sub {S S' : Nat → Prop} {w : World} {v : Value} {xs : List GC} (h : ChangesR S w v xs) (hS : ∀ b, S b → S' b) : ChangesR S' w v xs := h.impL (fun b hb _ => hS b hb) (.refl _ _) (Nat.le_refl _)
theorem ChangesR.at_ {S : Nat → Prop} {w : World} {A : Option Addr} {n c : Nat} {xs : List GC} (h : ChangesR S w (.slice A n c) xs) {k : Nat} (hk : k < n) :
    ∃ (b off : Nat) (x : GC) (v u : Value), A = some ⟨b, off, none⟩ ∧ b < w.heap.size ∧ xs[k]? = some x ∧ AtomsR S w v x.comes ∧ AtomsR S w u x.goes ∧
      w.cell? ⟨b, off + k * 2, none⟩ = some v ∧ w.cell? ⟨b, off + k * 2 + 1, none⟩ = some u := by
  obtain ⟨b, off, x, cs, hA, hb, hx, _, hc, v, u, rfl, ht, hp⟩ := SliceR.at_ h hk
  exact ⟨b, off, x, v, u, hA, hb, hx, ht, hp, hc 0 _ rfl, hc 1 _ rfl⟩

/-! ### Owned whole -/
def PartEO (S : Nat → Prop) (w : World) (cs : List Value) (p : GP) : Prop := ∃ v, cs = [.bool p.no, .string p.atom.n, v] ∧ p.atom.n.size ≤ maxLen ∧ TermsO S w v p.atom.args
def kPartO : Kind GP := ⟨3, PartEO, by decide, fun h hS he hsz => by obtain ⟨v, h1, h2, h3⟩ := h; exact ⟨v, h1, h2, h3.imp hS he hsz⟩,
  fun {_ _ l x} h => by obtain ⟨v, rfl, _, ht⟩ := h; intro u hu; simp at hu; rcases hu with rfl | rfl | rfl <;> first | rfl | exact SliceO.one ht, fun h => by obtain ⟨v, rfl, _⟩ := h; rfl⟩
def PartsO (S : Nat → Prop) : World → Value → List GP → Prop := SliceO kPartO S
theorem PartEO.read {S T : Nat → Prop} {w : World} {l : List Value} {a : GP} (h : PartEO T w l a) (hS : ∀ b, T b → S b) : PartE S w l a := by
  obtain ⟨v, h1, h2, h3⟩ := h
  exact ⟨v, h1, h2, TermsR.sub h3.read hS⟩
theorem PartsO.read {S : Nat → Prop} {w : World} {v : Value} {xs : List GP} (h : PartsO S w v xs) : PartsR S w v xs := SliceO.read (k := kPartO) (E' := PartE) h (fun _ _ _ h hS => PartEO.read h hS)
def RuleEO (S : Nat → Prop) (w : World) (cs : List Value) (r : GR) : Prop := ∃ (v u : Value) (S1 S2 : Nat → Prop), cs = [.string r.head.n, v, u] ∧ r.head.n.size ≤ maxLen ∧ TermsO S1 w v r.head.args ∧ PartsO S2 w u r.body ∧ (∀ b, S1 b → S b) ∧ (∀ b, S2 b → S b) ∧ ∀ b, S1 b → ¬ S2 b
theorem RuleEO.imp {S S' : Nat → Prop} {w w' : World} {cs : List Value} {x : GR} (h : RuleEO S w cs x) (hS : ∀ b, S b → b < w.heap.size → S' b) (he : Agree S w w') (hsz : w.heap.size ≤ w'.heap.size) : RuleEO S' w' cs x := by
  obtain ⟨v, u, S1, S2, h1, h2, h3, h4, h5, h6, h7⟩ := h
  exact ⟨v, u, fun b => S1 b ∧ b < w.heap.size, fun b => S2 b ∧ b < w.heap.size, h1, h2, SliceO.imp h3 (fun b hb hlt => ⟨hb, hlt⟩) (fun b hb hlt => he b (h5 b hb) hlt) hsz,
    SliceO.imp h4 (fun b hb hlt => ⟨hb, hlt⟩) (fun b hb hlt => he b (h6 b hb) hlt) hsz, fun b hb => hS b (h5 b hb.1) hb.2, fun b hb => hS b (h6 b hb.1) hb.2, fun b hb hc => h7 b hb.1 hc.1⟩
def kRuleO : Kind GR := ⟨3, RuleEO, by decide, RuleEO.imp,
  fun {_ _ l x} h => by obtain ⟨v, u, _, _, rfl, _, ht, hp, _⟩ := h; intro y hy; simp at hy; rcases hy with rfl | rfl | rfl <;> first | rfl | exact SliceO.one ht | exact SliceO.one hp, fun h => by obtain ⟨v, u, _, _, rfl, _⟩ := h; rfl⟩
def RulesO (S : Nat → Prop) : World → Value → List GR → Prop := SliceO kRuleO S
theorem RuleEO.read {S T : Nat → Prop} {w : World} {l : List Value} {a : GR} (h : RuleEO T w l a) (hS : ∀ b, T b → S b) : RuleE S w l a := by
  obtain ⟨v, u, S1, S2, h1, h2, h3, h4, h5, h6, h7⟩ := h
  exact ⟨v, u, h1, h2, TermsR.sub h3.read (fun b hb => hS b (h5 b hb)), PartsR.sub h4.read (fun b hb => hS b (h6 b hb))⟩
theorem RulesO.read {S : Nat → Prop} {w : World} {v : Value} {xs : List GR} (h : RulesO S w v xs) : RulesR S w v xs := SliceO.read (k := kRuleO) (E' := RuleE) h (fun _ _ _ h hS => RuleEO.read h hS)
def ChangeEO (S : Nat → Prop) (w : World) (cs : List Value) (c : GC) : Prop := ∃ (v u : Value) (S1 S2 : Nat → Prop), cs = [v, u] ∧ AtomsO S1 w v c.comes ∧ AtomsO S2 w u c.goes ∧ (∀ b, S1 b → S b) ∧ (∀ b, S2 b → S b) ∧ ∀ b, S1 b → ¬ S2 b
theorem ChangeEO.imp {S S' : Nat → Prop} {w w' : World} {cs : List Value} {x : GC} (h : ChangeEO S w cs x) (hS : ∀ b, S b → b < w.heap.size → S' b) (he : Agree S w w') (hsz : w.heap.size ≤ w'.heap.size) : ChangeEO S' w' cs x := by
  obtain ⟨v, u, S1, S2, h1, h3, h4, h5, h6, h7⟩ := h
  exact ⟨v, u, fun b => S1 b ∧ b < w.heap.size, fun b => S2 b ∧ b < w.heap.size, h1, SliceO.imp h3 (fun b hb hlt => ⟨hb, hlt⟩) (fun b hb hlt => he b (h5 b hb) hlt) hsz,
    SliceO.imp h4 (fun b hb hlt => ⟨hb, hlt⟩) (fun b hb hlt => he b (h6 b hb) hlt) hsz, fun b hb => hS b (h5 b hb.1) hb.2, fun b hb => hS b (h6 b hb.1) hb.2, fun b hb hc => h7 b hb.1 hc.1⟩
def kChangeO : Kind GC := ⟨2, ChangeEO, by decide, ChangeEO.imp,
  fun {_ _ l x} h => by obtain ⟨v, u, _, _, rfl, ht, hp, _⟩ := h; intro y hy; simp at hy; rcases hy with rfl | rfl <;> first | exact SliceO.one ht | exact SliceO.one hp, fun h => by obtain ⟨v, u, _, _, rfl, _⟩ := h; rfl⟩
def ChangesO (S : Nat → Prop) : World → Value → List GC → Prop := SliceO kChangeO S
theorem ChangeEO.read {S T : Nat → Prop} {w : World} {l : List Value} {a : GC} (h : ChangeEO T w l a) (hS : ∀ b, T b → S b) : ChangeE S w l a := by
  obtain ⟨v, u, S1, S2, h1, h3, h4, h5, h6, h7⟩ := h
  exact ⟨v, u, h1, AtomsR.sub h3.read (fun b hb => hS b (h5 b hb)), AtomsR.sub h4.read (fun b hb => hS b (h6 b hb))⟩
theorem ChangesO.read {S : Nat → Prop} {w : World} {v : Value} {xs : List GC} (h : ChangesO S w v xs) : ChangesR S w v xs := SliceO.read (k := kChangeO) (E' := ChangeE) h (fun _ _ _ h hS => ChangeEO.read h hS)

end Go.Proofs.YthndnkafckapnaaGreatDoor
