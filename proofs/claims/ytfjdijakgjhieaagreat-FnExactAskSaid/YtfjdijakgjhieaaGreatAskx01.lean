/- Texts of the proof: Rep, Read, Own. -/
import Derived.WalkKit
import Derived.WalkSpells
import Derived.Lib.Hide
import Derived.Deep.Draws
import Derived.Handy
import Derived.Test.YtfjdijakgjhieaaGreatRows
import Derived.ProofKit
import Derived.Deep.Slices
import Derived.Deep.Fields
import Derived.ChangeSame
import Derived.Deep.AppendLies
namespace Go.Proofs.YtfjdijakgjhieaaGreat
open Go.RowKit

structure GT where
  v : Bool
  n : ByteArray
structure GA where
  n : ByteArray
  args : List GT
structure GP where
  no : Bool
  atom : GA
structure GR where
  head : GA
  body : List GP
structure GC where
  comes : List GA
  goes : List GA

def wTerm (t : GT) : Nat := t.n.size
def wTerms (l : List GT) : Nat := l.length + (l.map wTerm).sum
def wAtom (a : GA) : Nat := a.n.size + wTerms a.args
def wAtoms (l : List GA) : Nat := l.length + (l.map wAtom).sum
def wPart (p : GP) : Nat := wAtom p.atom
def wParts (l : List GP) : Nat := l.length + (l.map wPart).sum
def wRule (r : GR) : Nat := wAtom r.head + wParts r.body
def wRules (l : List GR) : Nat := l.length + (l.map wRule).sum
def wChange (c : GC) : Nat := wAtoms c.comes + wAtoms c.goes

theorem le_sum {α : Type} (f : α → Nat) {l : List α} {x : α} (h : x ∈ l) : f x ≤ (l.map f).sum := by
  induction l with
  | nil => cases h
  | cons y l ih =>
    rw [List.map_cons, List.sum_cons]
    rcases List.mem_cons.1 h with rfl | h
    · omega
    · have := ih h; omega
theorem wAtoms_mem {l : List GA} {x : GA} (h : x ∈ l) : wAtom x ≤ wAtoms l := Nat.le_trans (le_sum wAtom h) (Nat.le_add_left _ _)
theorem wTerms_mem {l : List GT} {x : GT} (h : x ∈ l) : wTerm x ≤ wTerms l := Nat.le_trans (le_sum wTerm h) (Nat.le_add_left _ _)
theorem wParts_mem {l : List GP} {x : GP} (h : x ∈ l) : wPart x ≤ wParts l := Nat.le_trans (le_sum wPart h) (Nat.le_add_left _ _)
theorem wRules_mem {l : List GR} {x : GR} (h : x ∈ l) : wRule x ≤ wRules l := Nat.le_trans (le_sum wRule h) (Nat.le_add_left _ _)

theorem ret_bool {a b : Bool} (h : a = b) : Ending.returned (.bool a) = .returned (.bool b) := by rw [h]
theorem ret_int {k : IntKind} {a b : Int} (h : a = b) : Ending.returned (.int k a) = .returned (.int k b) := by rw [h]
theorem ret_str {a b : ByteArray} (h : a = b) : Ending.returned (.string a) = .returned (.string b) := by rw [h]

/-- Nothing that was there has turned. -/
abbrev Ext (w w' : World) : Prop := Below w.heap.size w w'

theorem Ext.refl (w : World) : Ext w w := Below.refl _ _
theorem Ext.trans' {a b c : World} (h : Ext a b) (k : Ext b c) : Ext a c := Below.trans h (Below.mono k h.size)
theorem Ext.alloc {a w : World} (h : Ext a w) (o : Obj) : Ext a (w.alloc o) := Below.alloc h h.size o
theorem Ext.drew {a w : World} (h : Ext a w) : Ext a w.drew := Below.drew h
theorem Ext.drewN {a w : World} (h : Ext a w) (n : Nat) : Ext a (w.drewN n) := ⟨h.os, h.tape, h.output, h.size, h.block⟩
theorem Ext.setNew {a w : World} (h : Ext a w) {p : Addr} (hp : a.heap.size ≤ p.block) (u : Value) : Ext a (w.setCell p u) := Below.setCell h hp u

theorem Ext.cells {w w1 : World} (hb : Ext w w1) : (∀ b o, b < w.heap.size → w1.cell? ⟨b, o, none⟩ = w.cell? ⟨b, o, none⟩) ∧ (∀ b o, b < w.heap.size → w1.frozen? ⟨b, o, none⟩ = w.frozen? ⟨b, o, none⟩) :=
  ⟨fun b o h => Below.cell hb (p := ⟨b, o, none⟩) h, fun b o h => Below.frozen hb (p := ⟨b, o, none⟩) h⟩

/-- The blocks of S that were there are as they were. -/
def Agree (S : Nat → Prop) (w w' : World) : Prop := ∀ b, S b → b < w.heap.size → w'.heap[b]? = w.heap[b]?

theorem Agree.of_ext {S : Nat → Prop} {w w' : World} (h : Ext w w') : Agree S w w' := fun b _ hb => h.block b hb
theorem Agree.refl (S : Nat → Prop) (w : World) : Agree S w w := fun _ _ _ => rfl
theorem Agree.trans' {S : Nat → Prop} {a b c : World} (h : Agree S a b) (k : Agree S b c) (hs : a.heap.size ≤ b.heap.size) : Agree S a c :=
  fun i hi hb => (k i hi (by omega)).trans (h i hi hb)
theorem Agree.setCell {S : Nat → Prop} {a w : World} (h : Agree S a w) {p : Addr} (hp : ¬ S p.block) (u : Value) : Agree S a (w.setCell p u) :=
  fun i hi hb => (Below.heap_setCell w p u i (fun e => hp (e ▸ hi))).trans (h i hi hb)

theorem cell_lt {w : World} {b o : Nat} {u : Value} (h : w.cell? ⟨b, o, none⟩ = some u) : b < w.heap.size := by
  rcases Nat.lt_or_ge b w.heap.size with hlt | hge
  · exact hlt
  · simp [World.cell?, Array.getElem?_eq_none hge] at h

/-- A slice value whose elements (size cells each, in blocks of S) are held as E says. -/
def SliceR {α : Type} (S : Nat → Prop) (size : Nat) (E : World → List Value → α → Prop) (w : World) (v : Value) (xs : List α) : Prop :=
  ∃ A c, v = .slice A xs.length c ∧ xs.length ≤ c ∧ c ≤ maxLen ∧
    (0 < xs.length → ∃ b off, A = some ⟨b, off, none⟩ ∧ b < w.heap.size ∧ S b ∧
      ∀ (i : Nat) (x : α), xs[i]? = some x → ∃ cs : List Value, cs.length = size ∧ (∀ (j : Nat) (u : Value), cs[j]? = some u → w.cell? ⟨b, off + (i * size + j), none⟩ = some u) ∧ E w cs x)

theorem SliceR.imp {α : Type} {S S' : Nat → Prop} {size : Nat} {E E' : World → List Value → α → Prop} {w w' : World} {v : Value} {xs : List α}
    (hE : ∀ cs x, x ∈ xs → E w cs x → E' w' cs x) (hS : ∀ b, S b → S' b) (h : SliceR S size E w v xs) (he : Agree S w w') (hsz : w.heap.size ≤ w'.heap.size) : SliceR S' size E' w' v xs := by
  obtain ⟨A, c, hv, h1, h2, h3⟩ := h
  refine ⟨A, c, hv, h1, h2, fun h0 => ?_⟩
  obtain ⟨b, off, ha, hb, hs, hc⟩ := h3 h0
  refine ⟨b, off, ha, Nat.lt_of_lt_of_le hb hsz, hS b hs, fun i x hx => ?_⟩
  obtain ⟨cs, hl, hcs, hEx⟩ := hc i x hx
  exact ⟨cs, hl, fun j u hu => (World.cell?_of_block (w := w) (a := ⟨b, _, none⟩) (he b hs hb)).trans (hcs j u hu), hE _ _ (List.mem_of_getElem? hx) hEx⟩

abbrev Any : Nat → Prop := fun _ => True
abbrev From (n : Nat) : Nat → Prop := fun b => n ≤ b

theorem notFrom {N b : Nat} (h : b < N) : ¬ From N b := Nat.not_le.2 h
theorem Agree.set {N : Nat} {a w : World} (h : Agree (From N) a w) {p : Addr} (hp : p.block < N) (u : Value) : Agree (From N) a (w.setCell p u) := h.setCell (notFrom hp) u
theorem fromLe {N M : Nat} (h : M ≤ N) : ∀ b, From N b → From M b := fun _ hb => Nat.le_trans h hb

def TermE (_ : World) (cs : List Value) (t : GT) : Prop := cs = [.bool t.v, .string t.n] ∧ t.n.size ≤ maxLen
def TermsR (S : Nat → Prop) : World → Value → List GT → Prop := SliceR S 2 TermE
def AtomE (S : Nat → Prop) (w : World) (cs : List Value) (a : GA) : Prop := ∃ v, cs = [.string a.n, v] ∧ a.n.size ≤ maxLen ∧ TermsR S w v a.args
def AtomsR (S : Nat → Prop) : World → Value → List GA → Prop := SliceR S 2 (AtomE S)
def PartE (S : Nat → Prop) (w : World) (cs : List Value) (p : GP) : Prop := ∃ v, cs = [.bool p.no, .string p.atom.n, v] ∧ p.atom.n.size ≤ maxLen ∧ TermsR S w v p.atom.args
def PartsR (S : Nat → Prop) : World → Value → List GP → Prop := SliceR S 3 (PartE S)
def RuleE (S : Nat → Prop) (w : World) (cs : List Value) (r : GR) : Prop := ∃ v u, cs = [.string r.head.n, v, u] ∧ r.head.n.size ≤ maxLen ∧ TermsR S w v r.head.args ∧ PartsR S w u r.body
def RulesR (S : Nat → Prop) : World → Value → List GR → Prop := SliceR S 3 (RuleE S)
def ChangeE (S : Nat → Prop) (w : World) (cs : List Value) (c : GC) : Prop := ∃ v u, cs = [v, u] ∧ AtomsR S w v c.comes ∧ AtomsR S w u c.goes

section
variable {S S' : Nat → Prop} {w w' : World}
theorem TermsR.imp {v : Value} {xs : List GT} (h : TermsR S w v xs) (hS : ∀ b, S b → S' b) (he : Agree S w w') (hsz : w.heap.size ≤ w'.heap.size) : TermsR S' w' v xs :=
  SliceR.imp (E := TermE) (w := w) (fun _ _ _ h => h) hS h he hsz
theorem AtomE.imp {cs : List Value} {a : GA} (h : AtomE S w cs a) (hS : ∀ b, S b → S' b) (he : Agree S w w') (hsz : w.heap.size ≤ w'.heap.size) : AtomE S' w' cs a := by
  obtain ⟨v, h1, h2, h3⟩ := h; exact ⟨v, h1, h2, h3.imp hS he hsz⟩
theorem AtomsR.imp {v : Value} {xs : List GA} (h : AtomsR S w v xs) (hS : ∀ b, S b → S' b) (he : Agree S w w') (hsz : w.heap.size ≤ w'.heap.size) : AtomsR S' w' v xs :=
  SliceR.imp (fun _ _ _ h => h.imp hS he hsz) hS h he hsz
theorem PartE.imp {cs : List Value} {a : GP} (h : PartE S w cs a) (hS : ∀ b, S b → S' b) (he : Agree S w w') (hsz : w.heap.size ≤ w'.heap.size) : PartE S' w' cs a := by
  obtain ⟨v, h1, h2, h3⟩ := h; exact ⟨v, h1, h2, h3.imp hS he hsz⟩
theorem PartsR.imp {v : Value} {xs : List GP} (h : PartsR S w v xs) (hS : ∀ b, S b → S' b) (he : Agree S w w') (hsz : w.heap.size ≤ w'.heap.size) : PartsR S' w' v xs :=
  SliceR.imp (fun _ _ _ h => h.imp hS he hsz) hS h he hsz
theorem RuleE.imp {cs : List Value} {a : GR} (h : RuleE S w cs a) (hS : ∀ b, S b → S' b) (he : Agree S w w') (hsz : w.heap.size ≤ w'.heap.size) : RuleE S' w' cs a := by
  obtain ⟨v, u, h1, h2, h3, h4⟩ := h; exact ⟨v, u, h1, h2, h3.imp hS he hsz, h4.imp hS he hsz⟩
theorem RulesR.imp {v : Value} {xs : List GR} (h : RulesR S w v xs) (hS : ∀ b, S b → S' b) (he : Agree S w w') (hsz : w.heap.size ≤ w'.heap.size) : RulesR S' w' v xs :=
  SliceR.imp (fun _ _ _ h => h.imp hS he hsz) hS h he hsz
theorem ChangeE.imp {cs : List Value} {a : GC} (h : ChangeE S w cs a) (hS : ∀ b, S b → S' b) (he : Agree S w w') (hsz : w.heap.size ≤ w'.heap.size) : ChangeE S' w' cs a := by
  obtain ⟨v, u, h1, h2, h3⟩ := h; exact ⟨v, u, h1, h2.imp hS he hsz, h3.imp hS he hsz⟩

theorem TermsR.ext {v : Value} {xs : List GT} (h : TermsR S w v xs) (he : Ext w w') : TermsR S w' v xs := h.imp (fun _ h => h) (.of_ext he) he.size
theorem AtomE.ext {cs : List Value} {a : GA} (h : AtomE S w cs a) (he : Ext w w') : AtomE S w' cs a := h.imp (fun _ h => h) (.of_ext he) he.size
theorem AtomsR.ext {v : Value} {xs : List GA} (h : AtomsR S w v xs) (he : Ext w w') : AtomsR S w' v xs := h.imp (fun _ h => h) (.of_ext he) he.size
theorem PartE.ext {cs : List Value} {a : GP} (h : PartE S w cs a) (he : Ext w w') : PartE S w' cs a := h.imp (fun _ h => h) (.of_ext he) he.size
theorem PartsR.ext {v : Value} {xs : List GP} (h : PartsR S w v xs) (he : Ext w w') : PartsR S w' v xs := h.imp (fun _ h => h) (.of_ext he) he.size
theorem RuleE.ext {cs : List Value} {a : GR} (h : RuleE S w cs a) (he : Ext w w') : RuleE S w' cs a := h.imp (fun _ h => h) (.of_ext he) he.size
theorem RulesR.ext {v : Value} {xs : List GR} (h : RulesR S w v xs) (he : Ext w w') : RulesR S w' v xs := h.imp (fun _ h => h) (.of_ext he) he.size
theorem ChangeE.ext {cs : List Value} {a : GC} (h : ChangeE S w cs a) (he : Ext w w') : ChangeE S w' cs a := h.imp (fun _ h => h) (.of_ext he) he.size

theorem TermsR.drew_ {v : Value} {xs : List GT} (h : TermsR S w v xs) : TermsR S w.drew v xs := h.ext (Ext.refl _).drew
theorem AtomsR.drew_ {v : Value} {xs : List GA} (h : AtomsR S w v xs) : AtomsR S w.drew v xs := h.ext (Ext.refl _).drew
theorem PartsR.drew_ {v : Value} {xs : List GP} (h : PartsR S w v xs) : PartsR S w.drew v xs := h.ext (Ext.refl _).drew
theorem RulesR.drew_ {v : Value} {xs : List GR} (h : RulesR S w v xs) : RulesR S w.drew v xs := h.ext (Ext.refl _).drew
theorem TermsR.sub {v : Value} {xs : List GT} (h : TermsR S w v xs) (hS : ∀ b, S b → S' b) : TermsR S' w v xs := h.imp hS (.refl _ _) (Nat.le_refl _)
theorem AtomE.sub {cs : List Value} {a : GA} (h : AtomE S w cs a) (hS : ∀ b, S b → S' b) : AtomE S' w cs a := h.imp hS (.refl _ _) (Nat.le_refl _)
theorem AtomsR.sub {v : Value} {xs : List GA} (h : AtomsR S w v xs) (hS : ∀ b, S b → S' b) : AtomsR S' w v xs := h.imp hS (.refl _ _) (Nat.le_refl _)
theorem PartsR.sub {v : Value} {xs : List GP} (h : PartsR S w v xs) (hS : ∀ b, S b → S' b) : PartsR S' w v xs := h.imp hS (.refl _ _) (Nat.le_refl _)
theorem RulesR.sub {v : Value} {xs : List GR} (h : RulesR S w v xs) (hS : ∀ b, S b → S' b) : RulesR S' w v xs := h.imp hS (.refl _ _) (Nat.le_refl _)
theorem ChangeE.sub {cs : List Value} {a : GC} (h : ChangeE S w cs a) (hS : ∀ b, S b → S' b) : ChangeE S' w cs a := h.imp hS (.refl _ _) (Nat.le_refl _)
end

section
variable {α : Type} {S : Nat → Prop} {size : Nat} {E : World → List Value → α → Prop} {w : World}
/-- The form of a slice value. -/
theorem SliceR.form {v : Value} {xs : List α} (h : SliceR S size E w v xs) :
    ∃ A c, v = .slice A xs.length c ∧ xs.length ≤ c ∧ c ≤ 9223372036854775807 := by
  obtain ⟨A, c, hv, h1, h2, _⟩ := h; exact ⟨A, c, hv, h1, h2⟩

theorem SliceR.at_ {A : Option Addr} {n c : Nat} {xs : List α} (h : SliceR S size E w (.slice A n c) xs) {k : Nat} (hk : k < n) :
    ∃ (b off : Nat) (x : α) (cs : List Value), A = some ⟨b, off, none⟩ ∧ b < w.heap.size ∧ xs[k]? = some x ∧ cs.length = size ∧
      (∀ (j : Nat) (u : Value), cs[j]? = some u → w.cell? ⟨b, off + (k * size + j), none⟩ = some u) ∧ E w cs x := by
  obtain ⟨A', c', hv, h1, h2, h3⟩ := h
  injection hv with hA hn hc
  subst hA; subst hn
  obtain ⟨b, off, ha, hb, _, hcell⟩ := h3 (by omega)
  obtain ⟨cs, hl, hcs, hEx⟩ := hcell k xs[k] (List.getElem?_eq_getElem hk)
  exact ⟨b, off, xs[k], cs, ha, hb, List.getElem?_eq_getElem hk, hl, hcs, hEx⟩

theorem SliceR.nil_ (c : Nat) (hc : c ≤ maxLen) (A : Option Addr) : SliceR S size E w (.slice A 0 c) [] := ⟨A, c, rfl, Nat.zero_le _, hc, fun h => absurd h (by simp)⟩
end

theorem TermsR.at_ {S : Nat → Prop} {w : World} {A : Option Addr} {n c : Nat} {xs : List GT} (h : TermsR S w (.slice A n c) xs) {k : Nat} (hk : k < n) :
    ∃ (b off : Nat) (x : GT), A = some ⟨b, off, none⟩ ∧ b < w.heap.size ∧ xs[k]? = some x ∧ x.n.size ≤ maxLen ∧
      w.cell? ⟨b, off + k * 2, none⟩ = some (.bool x.v) ∧ w.cell? ⟨b, off + k * 2 + 1, none⟩ = some (.string x.n) := by
  obtain ⟨b, off, x, cs, hA, hb, hx, _, hc, rfl, hs⟩ := SliceR.at_ h hk
  exact ⟨b, off, x, hA, hb, hx, hs, hc 0 _ rfl, hc 1 _ rfl⟩

theorem AtomsR.at_ {S : Nat → Prop} {w : World} {A : Option Addr} {n c : Nat} {xs : List GA} (h : AtomsR S w (.slice A n c) xs) {k : Nat} (hk : k < n) :
    ∃ (b off : Nat) (x : GA) (v : Value), A = some ⟨b, off, none⟩ ∧ b < w.heap.size ∧ xs[k]? = some x ∧ x.n.size ≤ maxLen ∧ TermsR S w v x.args ∧
      w.cell? ⟨b, off + k * 2, none⟩ = some (.string x.n) ∧ w.cell? ⟨b, off + k * 2 + 1, none⟩ = some v := by
  obtain ⟨b, off, x, cs, hA, hb, hx, _, hc, v, rfl, hs, ht⟩ := SliceR.at_ h hk
  exact ⟨b, off, x, v, hA, hb, hx, hs, ht, hc 0 _ rfl, hc 1 _ rfl⟩

theorem PartsR.at_ {S : Nat → Prop} {w : World} {A : Option Addr} {n c : Nat} {xs : List GP} (h : PartsR S w (.slice A n c) xs) {k : Nat} (hk : k < n) :
    ∃ (b off : Nat) (x : GP) (v : Value), A = some ⟨b, off, none⟩ ∧ b < w.heap.size ∧ xs[k]? = some x ∧ x.atom.n.size ≤ maxLen ∧ TermsR S w v x.atom.args ∧
      w.cell? ⟨b, off + k * 3, none⟩ = some (.bool x.no) ∧ w.cell? ⟨b, off + k * 3 + 1, none⟩ = some (.string x.atom.n) ∧ w.cell? ⟨b, off + k * 3 + 2, none⟩ = some v := by
  obtain ⟨b, off, x, cs, hA, hb, hx, _, hc, v, rfl, hs, ht⟩ := SliceR.at_ h hk
  exact ⟨b, off, x, v, hA, hb, hx, hs, ht, hc 0 _ rfl, hc 1 _ rfl, hc 2 _ rfl⟩

theorem RulesR.at_ {S : Nat → Prop} {w : World} {A : Option Addr} {n c : Nat} {xs : List GR} (h : RulesR S w (.slice A n c) xs) {k : Nat} (hk : k < n) :
    ∃ (b off : Nat) (x : GR) (v u : Value), A = some ⟨b, off, none⟩ ∧ b < w.heap.size ∧ xs[k]? = some x ∧ x.head.n.size ≤ maxLen ∧ TermsR S w v x.head.args ∧ PartsR S w u x.body ∧
      w.cell? ⟨b, off + k * 3, none⟩ = some (.string x.head.n) ∧ w.cell? ⟨b, off + k * 3 + 1, none⟩ = some v ∧ w.cell? ⟨b, off + k * 3 + 2, none⟩ = some u := by
  obtain ⟨b, off, x, cs, hA, hb, hx, _, hc, v, u, rfl, hs, ht, hp⟩ := SliceR.at_ h hk
  exact ⟨b, off, x, v, u, hA, hb, hx, hs, ht, hp, hc 0 _ rfl, hc 1 _ rfl, hc 2 _ rfl⟩

/-- A block that is known whole, none of it frozen. -/
def Blk (w : World) (g : Nat) (t : TypeId) (cs : Array Value) : Prop := w.heap[g]? = some (.cells cs t (0, 0))

section
variable {w w' : World} {g : Nat} {t : TypeId} {cs : Array Value}
theorem Blk.lt (h : Blk w g t cs) : g < w.heap.size := by
  rcases Nat.lt_or_ge g w.heap.size with hlt | hge
  · exact hlt
  · unfold Blk at h; rw [Array.getElem?_eq_none hge] at h; cases h
theorem Blk.cell (h : Blk w g t cs) (i : Nat) : w.cell? ⟨g, i, none⟩ = cs[i]? := by unfold Blk at h; simp [World.cell?, h]
theorem Blk.frozen (h : Blk w g t cs) (i : Nat) : w.frozen? ⟨g, i, none⟩ = false := by
  unfold Blk at h
  simp [World.frozen?, h]
theorem Blk.new (w : World) (t : TypeId) (cs : Array Value) : Blk (w.alloc (.cells cs t)) w.heap.size t cs := by
  show (w.heap.push _)[w.heap.size]? = _
  rw [Array.getElem?_push, if_pos rfl]
theorem Blk.drew (h : Blk w g t cs) : Blk w.drew g t cs := h
theorem Blk.drewN (h : Blk w g t cs) (n : Nat) : Blk (w.drewN n) g t cs := h
theorem Blk.alloc (h : Blk w g t cs) (o : Obj) : Blk (w.alloc o) g t cs := (Below.heap_alloc w o g h.lt).trans h
theorem Blk.set_ (h : Blk w g t cs) (i : Nat) (u : Value) : Blk (w.setCell ⟨g, i, none⟩ u) g t (cs.setIfInBounds i u) := by
  unfold Blk at h ⊢
  simp [World.setCell, Array.getElem?_modify, h]
theorem Blk.far (h : Blk w g t cs) {p : Addr} (hp : g ≠ p.block) (u : Value) : Blk (w.setCell p u) g t cs := (Below.heap_setCell w p u g hp).trans h
theorem Blk.ext (h : Blk w g t cs) (hb : Ext w w') : Blk w' g t cs := (hb.block g h.lt).trans h
theorem Blk.below {B : Nat} (h : Blk w g t cs) (hb : Below B w w') (hg : g < B) : Blk w' g t cs := (hb.block g hg).trans h
end

/-- make([]T, n): a new block of n rows, whatever lies in it. -/
theorem made {P : Program} (t e : TypeId) (i : TypeInfo) (z : Value) (ht : P.underlying t = some (.slice e)) (hi : P.info? e = some i) (hz : i.zero = some z)
    (n : Nat) (hbytes : i.bytes * n ≤ 281474976710656) (h63 : n ≤ 9223372036854775807) :
    ∃ cs : Array Value, cs.size = n * i.size ∧ ∀ W : World, (Instr.makeSlice t (.int .i64 (n : Int)) (.int .i64 (n : Int))).run P W = .ok (.slice (some ⟨W.heap.size, 0, none⟩) n n) (W.alloc (.cells cs e)) := by
  refine ⟨madeCells z.cells (n * i.size), size_madeCells _ _, fun W => ?_⟩
  have hb : (i.bytes : Int) * (n : Int) ≤ 281474976710656 := by
    have h : ((i.bytes * n : Nat) : Int) ≤ 281474976710656 := by omega
    rwa [Int.natCast_mul] at h
  have hr := run_make (P := P) W t e i z ht hi hz .i64 .i64 n n (by omega) (by omega) hb (by omega)
  simp only [Int.toNat_natCast] at hr
  exact hr

/-- A cell of a known block, ready to be written. -/
theorem Blk.ready {w : World} {g : Nat} {t : TypeId} {cs : Array Value} (h : Blk w g t cs) {i : Nat} (hi : i < cs.size) : (∃ u, w.cell? ⟨g, i, none⟩ = some u) ∧ w.frozen? ⟨g, i, none⟩ = false :=
  ⟨⟨cs[i], by rw [h.cell]; exact Array.getElem?_eq_getElem hi⟩, h.frozen i⟩

/-- The first k elements of a row under construction. -/
def Filled {α : Type} (size : Nat) (E : World → List Value → α → Prop) (w : World) (cs : Array Value) (xs : List α) (k : Nat) : Prop :=
  ∀ (i : Nat) (x : α), i < k → xs[i]? = some x → ∃ l : List Value, l.length = size ∧ (∀ (j : Nat) (u : Value), l[j]? = some u → cs[i * size + j]? = some u) ∧ E w l x

theorem Filled.zero {α : Type} (size : Nat) (E : World → List Value → α → Prop) (w : World) (cs : Array Value) (xs : List α) : Filled size E w cs xs 0 := fun _ _ h => absurd h (by omega)

/-- A full row is a slice. -/
theorem Filled.slice {α : Type} {S : Nat → Prop} {size : Nat} {E : World → List Value → α → Prop} {w : World} {g : Nat} {t : TypeId} {cs : Array Value} {xs : List α} {n c : Nat}
    (h : Filled size E w cs xs n) (hb : Blk w g t cs) (hn : n = xs.length) (hc : n ≤ c) (hm : c ≤ maxLen) (hg : S g) : SliceR S size E w (.slice (some ⟨g, 0, none⟩) n c) xs := by
  subst hn
  refine ⟨_, c, rfl, hc, hm, fun _ => ⟨g, 0, rfl, hb.lt, hg, fun i x hx => ?_⟩⟩
  obtain ⟨l, h1, h2, h3⟩ := h i x (by rcases Nat.lt_or_ge i xs.length with h | h; exact h; rw [List.getElem?_eq_none h] at hx; cases hx) hx
  exact ⟨l, h1, fun j u hu => by rw [hb.cell, Nat.zero_add]; exact h2 j u hu, h3⟩

/-- One element more, of two cells. -/
theorem Filled.two {α : Type} {E E' : World → List Value → α → Prop} {w w' : World} {cs : Array Value} {xs : List α} {k : Nat} {a b : Value} {x : α}
    (h : Filled 2 E w cs xs k) (hE : ∀ cs x, E w cs x → E' w' cs x) (hk : xs[k]? = some x) (hs : k * 2 + 1 < cs.size) (hx : E' w' [a, b] x) :
    Filled 2 E' w' ((cs.setIfInBounds (k * 2) a).setIfInBounds (k * 2 + 1) b) xs (k + 1) := by
  intro i y hi hy
  by_cases hik : i = k
  · subst hik
    rw [hk] at hy; injection hy with hy; subst hy
    refine ⟨[a, b], rfl, fun j u hu => ?_, hx⟩
    match j, hu with
    | 0, hu => simp at hu; subst hu; simp [show i * 2 < cs.size from by omega]
    | 1, hu => simp at hu; subst hu; simp [hs]
  · obtain ⟨l, h1, h2, h3⟩ := h i y (by omega) hy
    refine ⟨l, h1, fun j u hu => ?_, hE _ _ h3⟩
    have hj : j < 2 := by rw [← h1]; rcases Nat.lt_or_ge j l.length with h | h; exact h; rw [List.getElem?_eq_none h] at hu; cases hu
    rw [Array.getElem?_setIfInBounds_ne (by omega), Array.getElem?_setIfInBounds_ne (by omega)]
    exact h2 j u hu

/-- One element more, of three cells. -/
theorem Filled.three {α : Type} {E E' : World → List Value → α → Prop} {w w' : World} {cs : Array Value} {xs : List α} {k : Nat} {a b d : Value} {x : α}
    (h : Filled 3 E w cs xs k) (hE : ∀ cs x, E w cs x → E' w' cs x) (hk : xs[k]? = some x) (hs : k * 3 + 2 < cs.size) (hx : E' w' [a, b, d] x) :
    Filled 3 E' w' (((cs.setIfInBounds (k * 3) a).setIfInBounds (k * 3 + 1) b).setIfInBounds (k * 3 + 2) d) xs (k + 1) := by
  intro i y hi hy
  by_cases hik : i = k
  · subst hik
    rw [hk] at hy; injection hy with hy; subst hy
    refine ⟨[a, b, d], rfl, fun j u hu => ?_, hx⟩
    match j, hu with
    | 0, hu => simp at hu; subst hu; simp [show i * 3 < cs.size from by omega]
    | 1, hu => simp at hu; subst hu; simp [show i * 3 + 1 < cs.size from by omega]
    | 2, hu => simp at hu; subst hu; simp [hs]
  · obtain ⟨l, h1, h2, h3⟩ := h i y (by omega) hy
    refine ⟨l, h1, fun j u hu => ?_, hE _ _ h3⟩
    have hj : j < 3 := by rw [← h1]; rcases Nat.lt_or_ge j l.length with h | h; exact h; rw [List.getElem?_eq_none h] at hu; cases hu
    rw [Array.getElem?_setIfInBounds_ne (by omega), Array.getElem?_setIfInBounds_ne (by omega), Array.getElem?_setIfInBounds_ne (by omega)]
    exact h2 j u hu

end Go.Proofs.YtfjdijakgjhieaaGreat

namespace Go.Proofs.YtfjdijakgjhieaaGreat
open Go.RowKit Go.ChangeShapes Go.WideShapes Go.Deep

section
variable {H : Type} {enc : TypeId × Value → H} {P : Program} {w : World} {base : Nat} {spare : Nat → Bool} {held : Bool}

theorem drop_cons' {α : Type} {l : List α} {k : Nat} {x : α} (h : l[k]? = some x) : l.drop k = x :: l.drop (k + 1) := by
  obtain ⟨hk, rfl⟩ := List.getElem?_eq_some_iff.1 h
  exact List.drop_eq_getElem_cons hk
/-- Elements that can be chosen one by one make a list. -/
theorem choose_rows {α : Type} (R : Nat → α → Prop) : ∀ (n k : Nat), (∀ i, i < n → ∃ x, R (k + i) x) → ∃ xs : List α, xs.length = n ∧ ∀ (i : Nat) (x : α), xs[i]? = some x → R (k + i) x
  | 0, _, _ => ⟨[], rfl, fun i x h => by simp at h⟩
  | n + 1, k, h => by
    obtain ⟨x, hx⟩ := h 0 (by omega)
    obtain ⟨xs, hl, hr⟩ := choose_rows R n (k + 1) (fun i hi => by
      have := h (i + 1) (by omega)
      rwa [show k + (i + 1) = k + 1 + i from by omega] at this)
    refine ⟨x :: xs, by simp [hl], fun i y hy => ?_⟩
    cases i with
    | zero => simp at hy; subst hy; exact hx
    | succ i =>
      have := hr i y (by simpa using hy)
      rwa [show k + 1 + i = k + (i + 1) from by omega] at this

theorem cell_addr {w : World} {a : Addr} {u : Value} (h : w.cell? a = some u) : a = ⟨a.block, a.off, none⟩ := by
  obtain ⟨b, o, s⟩ := a
  cases s with
  | none => rfl
  | some s => simp only [World.cell?] at h; split at h <;> simp at h

/-- A slice of structs of one-cell fields: its elements' cells, field by field. -/
theorem open_rows {t e : TypeId} {fs : Array Field} {fuel : Nat} {v : Value} {x : DataW H × List MemPlace} (ht : P.underlying t = some (.slice e)) (he : P.underlying e = some (.struct fs))
    (hone : oneCellFields P fs = true) (hC : P.cellsOf e = fs.size) (hfs : 0 < fs.size) (h : DataW.trod enc P w base spare held fuel t [v] = some x) :
    ∃ (A : Option Addr) (n c : Nat), v = .slice A n c ∧ n ≤ c ∧ c ≤ maxLen ∧
      (0 < n → ∃ b off, A = some ⟨b, off, none⟩ ∧ b < w.heap.size ∧ ∀ i, i < n → ∃ (k : Nat) (cs : List Value), cs.length = fs.size ∧ (∀ (j : Nat) (u : Value), cs[j]? = some u → w.cell? ⟨b, off + (i * fs.size + j), none⟩ = some u) ∧
        ∀ (j : Nat) (f : Field) (u : Value), fs[j]? = some f → cs[j]? = some u → ∃ y, DataW.trod enc P w base spare held k f.type [u] = some y) := by
  rcases open_slice ht h with ⟨hcs, _⟩ | ⟨a, len, cap, m, n, D, Pl, hcs, hb, hl, hm, hmm, hx, hi⟩
  · injection hcs with hv _
    subst hv
    exact ⟨none, 0, 0, rfl, Nat.le_refl _, Nat.zero_le _, fun h => absurd h (by omega)⟩
  · injection hcs with hv _
    subst hv
    refine ⟨some a, len, cap, rfl, hl, hm, fun h0 => ?_⟩
    have hml : len ≤ m := by rw [hmm]; split <;> omega
    have key : ∀ i, i < len → ∃ (k : Nat) (cs : List Value), cs.length = fs.size ∧ (∀ (j : Nat) (u : Value), cs[j]? = some u → w.cell? (a.add (i * fs.size + j)) = some u) ∧
        ∀ (j : Nat) (f : Field) (u : Value), fs[j]? = some f → cs[j]? = some u → ∃ y, DataW.trod enc P w base spare held k f.type [u] = some y := by
      intro i hilt
      obtain ⟨cs', hc, ht'⟩ := hi i (by omega)
      rw [hC] at hc
      obtain ⟨ys, n', hn', hy, hlen, hyl, hf⟩ := DataW.trod_struct he ht'
      obtain ⟨_, hcl, hat⟩ := World.cells?_some hc
      refine ⟨n', cs', hcl, fun j u hu => ?_, fun j f u hj hu => ?_⟩
      · have hjl : j < fs.size := by rw [← hcl]; exact (List.getElem?_eq_some_iff.1 hu).1
        rw [← Go.Deep.add_add, hat j hjl, hu]
      · obtain ⟨ho, hk⟩ := hone_of hone j f hj
        have hjl : j < fs.size := (Array.getElem?_eq_some_iff.1 hj).1
        have h1 := hf j f hj
        rw [ho, hk] at h1
        have hone' : (cs'.drop j).take 1 = [u] := by
          rw [drop_cons' hu]
          rfl
        rw [hone'] at h1
        have hys : ys[j]? = some (ys[j]'(by omega)) := List.getElem?_eq_getElem (by omega)
        exact ⟨_, h1.trans hys⟩
    obtain ⟨k0, cs0, hl0, hc0, _⟩ := key 0 h0
    have h00 := hc0 0 (cs0[0]'(by omega)) (List.getElem?_eq_getElem (by omega))
    rw [Nat.zero_mul, Nat.add_zero] at h00
    have ha0 : a.add 0 = a := by simp [Addr.add]
    rw [ha0] at h00
    have haa := cell_addr h00
    have hadd : ∀ n, a.add n = ⟨a.block, a.off + n, none⟩ := by
      intro n
      unfold Addr.add
      split
      · rename_i h; subst h; rw [Nat.add_zero]; exact haa
      · rfl
    refine ⟨a.block, a.off, by rw [← haa], ?_, fun i hilt => ?_⟩
    · rw [haa] at h00; exact cell_lt h00
    · obtain ⟨k, cs, hl1, hc1, hf1⟩ := key i hilt
      exact ⟨k, cs, hl1, fun j u hu => by rw [← hadd]; exact hc1 j u hu, hf1⟩
end

section
variable {H : Type} {enc : TypeId × Value → H} {w : World} {base : Nat} {spare : Nat → Bool} {held : Bool} {fuel : Nat} {v : Value} {x : DataW H × List MemPlace}

theorem read_terms (h : DataW.trod enc Tryz.prog w base spare held fuel 66 [v] = some x) : ∃ xs : List GT, TermsR Any w v xs := by
  obtain ⟨A, n, c, rfl, h1, h2, h3⟩ := open_rows Tryz.underlying66 Tryz.underlying157 (by kernel_rfl) (by kernel_rfl) (by decide) h
  by_cases h0 : 0 < n
  · obtain ⟨b, off, hA, hb, hrow⟩ := h3 h0
    obtain ⟨xs, hl, hr⟩ := choose_rows (fun i (t : GT) => w.cell? ⟨b, off + (i * 2 + 0), none⟩ = some (.bool t.v) ∧ w.cell? ⟨b, off + (i * 2 + 1), none⟩ = some (.string t.n) ∧ t.n.size ≤ maxLen) n 0 (fun i hi => by
      rw [Nat.zero_add]
      obtain ⟨k, cs, hcl, hc, hf⟩ := hrow i hi
      match cs, hcl with
      | [c0, c1], _ =>
        obtain ⟨y0, hy0⟩ := hf 0 _ c0 rfl rfl
        obtain ⟨y1, hy1⟩ := hf 1 _ c1 rfl rfl
        obtain ⟨bv, e0, _⟩ := DataW.trod_bool Tryz.underlying4 hy0
        obtain ⟨s, e1, _, hs⟩ := DataW.trod_string Tryz.underlying9 hy1
        injection e0 with e0 _
        injection e1 with e1 _
        subst e0; subst e1
        exact ⟨⟨bv, s⟩, hc 0 _ rfl, hc 1 _ rfl, hs⟩)
    refine ⟨xs, A, c, by rw [hl], by rw [hl]; exact h1, h2, fun _ => ⟨b, off, hA, hb, trivial, fun i x hx => ?_⟩⟩
    obtain ⟨r0, r1, r2⟩ := hr i x hx
    rw [Nat.zero_add] at r0 r1
    refine ⟨[.bool x.v, .string x.n], rfl, fun j u hu => ?_, rfl, r2⟩
    match j, hu with
    | 0, hu => simp at hu; subst hu; exact r0
    | 1, hu => simp at hu; subst hu; exact r1
  · obtain rfl : n = 0 := by omega
    exact ⟨[], SliceR.nil_ c h2 A⟩

theorem read_atoms (h : DataW.trod enc Tryz.prog w base spare held fuel 40 [v] = some x) : ∃ xs : List GA, AtomsR Any w v xs := by
  obtain ⟨A, n, c, rfl, h1, h2, h3⟩ := open_rows Tryz.underlying40 Tryz.underlying68 (by kernel_rfl) (by kernel_rfl) (by decide) h
  by_cases h0 : 0 < n
  · obtain ⟨b, off, hA, hb, hrow⟩ := h3 h0
    obtain ⟨xs, hl, hr⟩ := choose_rows (fun i (a : GA) => ∃ u, w.cell? ⟨b, off + (i * 2 + 0), none⟩ = some (.string a.n) ∧ w.cell? ⟨b, off + (i * 2 + 1), none⟩ = some u ∧ a.n.size ≤ maxLen ∧ TermsR Any w u a.args) n 0 (fun i hi => by
      rw [Nat.zero_add]
      obtain ⟨k, cs, hcl, hc, hf⟩ := hrow i hi
      match cs, hcl with
      | [c0, c1], _ =>
        obtain ⟨y0, hy0⟩ := hf 0 _ c0 rfl rfl
        obtain ⟨y1, hy1⟩ := hf 1 _ c1 rfl rfl
        obtain ⟨s, e1, _, hs⟩ := DataW.trod_string Tryz.underlying9 hy0
        obtain ⟨ts, ht⟩ := read_terms hy1
        injection e1 with e1 _
        subst e1
        exact ⟨⟨s, ts⟩, c1, hc 0 _ rfl, hc 1 _ rfl, hs, ht⟩)
    refine ⟨xs, A, c, by rw [hl], by rw [hl]; exact h1, h2, fun _ => ⟨b, off, hA, hb, trivial, fun i x hx => ?_⟩⟩
    obtain ⟨u, r0, r1, r2, r3⟩ := hr i x hx
    rw [Nat.zero_add] at r0 r1
    refine ⟨[.string x.n, u], rfl, fun j y hy => ?_, u, rfl, r2, r3⟩
    match j, hy with
    | 0, hy => simp at hy; subst hy; exact r0
    | 1, hy => simp at hy; subst hy; exact r1
  · obtain rfl : n = 0 := by omega
    exact ⟨[], SliceR.nil_ c h2 A⟩
end
end Go.Proofs.YtfjdijakgjhieaaGreat

namespace Go.Proofs.YtfjdijakgjhieaaGreat
open Go.RowKit

/-- The values rows are the elements xs, size values each. -/
def RowsE {α : Type} (size : Nat) (E : World → List Value → α → Prop) (w : World) (rows : List Value) (xs : List α) : Prop :=
  rows.length = xs.length * size ∧ ∀ (i : Nat) (x : α), xs[i]? = some x → ∃ l : List Value, l.length = size ∧ (∀ (j : Nat) (u : Value), l[j]? = some u → rows[i * size + j]? = some u) ∧ E w l x

section
variable {α : Type} {size : Nat} {E E' : World → List Value → α → Prop} {w w' : World} {rows news : List Value} {xs ys : List α}
theorem RowsE.nil : RowsE size E w [] ([] : List α) := ⟨by simp, fun i x h => by simp at h⟩
theorem RowsE.one {l : List Value} {x : α} (hl : l.length = size) (h : E w l x) : RowsE size E w l [x] :=
  ⟨by simp [hl], fun i y hy => by
    cases i with
    | zero => simp at hy; subst hy; exact ⟨l, hl, fun j u hu => by simpa using hu, h⟩
    | succ i => simp at hy⟩
theorem RowsE.mono (h : RowsE size E w rows xs) (hE : ∀ l x, x ∈ xs → E w l x → E' w' l x) : RowsE size E' w' rows xs :=
  ⟨h.1, fun i x hx => let ⟨l, h1, h2, h3⟩ := h.2 i x hx; ⟨l, h1, h2, hE l x (List.mem_of_getElem? hx) h3⟩⟩
theorem RowsE.append (h : RowsE size E w rows xs) (k : RowsE size E w news ys) : RowsE size E w (rows ++ news) (xs ++ ys) := by
  refine ⟨by rw [List.length_append, List.length_append, h.1, k.1, Nat.add_mul], fun i x hx => ?_⟩
  rcases Nat.lt_or_ge i xs.length with hi | hi
  · rw [List.getElem?_append_left hi] at hx
    obtain ⟨l, h1, h2, h3⟩ := h.2 i x hx
    refine ⟨l, h1, fun j u hu => ?_, h3⟩
    have := h2 j u hu
    rw [List.getElem?_append_left (List.getElem?_eq_some_iff.1 this).1]
    exact this
  · rw [List.getElem?_append_right hi] at hx
    obtain ⟨l, h1, h2, h3⟩ := k.2 _ x hx
    refine ⟨l, h1, fun j u hu => ?_, h3⟩
    have h4 := h2 j u hu
    have h5 : i * size + j = rows.length + ((i - xs.length) * size + j) := by
      rw [h.1]
      obtain ⟨d, rfl⟩ := Nat.exists_eq_add_of_le hi
      rw [Nat.add_sub_cancel_left, Nat.add_mul]; omega
    rw [h5, List.getElem?_append_right (Nat.le_add_right _ _), Nat.add_sub_cancel_left]
    exact h4
theorem RowsE.oneCell (h : RowsE size E w rows xs) (hsz : 0 < size) (hE : ∀ l x, E w l x → ∀ u ∈ l, u.oneCell' = true) : ∀ u ∈ rows, u.oneCell' = true := by
  intro u hu
  obtain ⟨j, hj, rfl⟩ := List.mem_iff_getElem.1 hu
  have hi : j / size < xs.length := by
    apply (Nat.div_lt_iff_lt_mul hsz).2
    rw [← h.1]; exact hj
  obtain ⟨l, h1, h2, h3⟩ := h.2 (j / size) xs[j / size] (List.getElem?_eq_getElem hi)
  have hm : j % size < l.length := by rw [h1]; exact Nat.mod_lt _ hsz
  have h4 := h2 (j % size) l[j % size] (List.getElem?_eq_getElem hm)
  have h5 : j / size * size + j % size = j := by rw [Nat.mul_comm]; exact Nat.div_add_mod _ _
  rw [h5, List.getElem?_eq_getElem hj] at h4
  injection h4 with h4
  rw [h4]
  exact hE l _ h3 _ (List.getElem_mem hm)

/-- An owned row that reads as xs is a slice of xs. -/
theorem own_slice {base : Nat} {e : TypeId} {v : Value} {n : Nat} (h : w.ownsRow base e size v n rows) (k : RowsE size E w rows xs) (hn : n = xs.length) : SliceR (From base) size E w v xs := by
  subst hn
  obtain ⟨h1, ⟨rfl, h0⟩ | ⟨g, cap, cur, rfl, hb, hc, h2, h3, h4, h5⟩⟩ := h
  · have : xs = [] := List.eq_nil_of_length_eq_zero h0
    subst this
    exact SliceR.nil_ 0 (Nat.zero_le _) none
  · have hblk : Blk w g e cur := hc
    refine ⟨_, cap, rfl, h2, h3, fun _ => ⟨g, 0, rfl, hblk.lt, hb, fun i x hx => ?_⟩⟩
    obtain ⟨l, k1, k2, k3⟩ := k.2 i x hx
    refine ⟨l, k1, fun j u hu => ?_, k3⟩
    have h6 := k2 j u hu
    rw [← h5, List.getElem?_take] at h6
    split at h6
    · rw [hblk.cell, Nat.zero_add]
      simpa using h6
    · cases h6

theorem addr_add (b o j : Nat) : (⟨b, o, none⟩ : Addr).add j = ⟨b, o + j, none⟩ := by unfold Addr.add; split <;> simp_all
/-- The cells of a slice, as values. -/
theorem SliceR.rows_ {S : Nat → Prop} {A : Option Addr} {n c : Nat} (h : SliceR S size E w (.slice A n c) xs) (h0 : 0 < n) (hsz : 0 < size) :
    ∃ (b off : Nat) (rows : List Value), A = some ⟨b, off, none⟩ ∧ b < w.heap.size ∧ S b ∧ n = xs.length ∧ rows.length = n * size ∧ RowsE size E w rows xs ∧ ∀ j u, rows[j]? = some u → w.cell? ⟨b, off + j, none⟩ = some u := by
  obtain ⟨A', c', hv, h1, h2, h3⟩ := h
  injection hv with hA hn hc
  subst hA; subst hn; subst hc
  obtain ⟨b, off, ha, hb, hs, hcell⟩ := h3 h0
  have key : ∀ j, j < xs.length * size → ∃ u, w.cell? ⟨b, off + j, none⟩ = some u := by
    intro j hj
    have hi : j / size < xs.length := (Nat.div_lt_iff_lt_mul hsz).2 hj
    obtain ⟨l, k1, k2, _⟩ := hcell (j / size) xs[j / size] (List.getElem?_eq_getElem hi)
    have hm : j % size < l.length := by rw [k1]; exact Nat.mod_lt _ hsz
    have := k2 (j % size) l[j % size] (List.getElem?_eq_getElem hm)
    have h5 : j / size * size + j % size = j := by rw [Nat.mul_comm]; exact Nat.div_add_mod _ _
    rw [h5] at this
    exact ⟨_, this⟩
  obtain ⟨rows, hl, hr⟩ := choose_rows (fun j (u : Value) => w.cell? ⟨b, off + j, none⟩ = some u) (xs.length * size) 0 (fun j hj => by rw [Nat.zero_add]; exact key j hj)
  refine ⟨b, off, rows, ha, hb, hs, rfl, hl, ⟨hl, fun i x hx => ?_⟩, fun j u hu => by have := hr j u hu; rwa [Nat.zero_add] at this⟩
  obtain ⟨l, k1, k2, k3⟩ := hcell i x hx
  refine ⟨l, k1, fun j u hu => ?_, k3⟩
  have hj : j < size := by rw [← k1]; exact (List.getElem?_eq_some_iff.1 hu).1
  have hi : i < xs.length := (List.getElem?_eq_some_iff.1 hx).1
  have hlt : i * size + j < rows.length := by
    rw [hl]
    calc i * size + j < i * size + size := by omega
      _ = (i + 1) * size := by rw [Nat.add_mul, Nat.one_mul]
      _ ≤ xs.length * size := Nat.mul_le_mul_right _ hi
  have h6 := hr (i * size + j) _ (List.getElem?_eq_getElem hlt)
  rw [Nat.zero_add, k2 j u hu] at h6
  rw [List.getElem?_eq_getElem hlt, h6]
end

theorem TermE.oneCell {w : World} (l : List Value) (x : GT) (h : TermE w l x) : ∀ u ∈ l, u.oneCell' = true := by
  obtain ⟨rfl, _⟩ := h; intro u hu; simp at hu; rcases hu with rfl | rfl <;> rfl
theorem AtomE.oneCell {S : Nat → Prop} {w : World} (l : List Value) (x : GA) (h : AtomE S w l x) : ∀ u ∈ l, u.oneCell' = true := by
  obtain ⟨v, rfl, _, ht⟩ := h
  obtain ⟨A, c, rfl, _⟩ := SliceR.form ht
  intro u hu; simp at hu; rcases hu with rfl | rfl <;> rfl

end Go.Proofs.YtfjdijakgjhieaaGreat
