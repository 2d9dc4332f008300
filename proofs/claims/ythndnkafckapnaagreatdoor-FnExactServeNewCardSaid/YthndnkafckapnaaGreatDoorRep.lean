/- Plain words for memory: how a world holds terms, atoms and slices of them. No program in sight. -/
import Derived.WalkKit
import Derived.WalkSpells
import Derived.Lib.Hide
import Derived.Deep.Draws
import Derived.Handy
namespace Go.Proofs.YthndnkafckapnaaGreatDoor
open Go.RowKit

structure GT where
  v : Bool
  n : ByteArray
structure GA where
  n : ByteArray
  args : List GT
structure GP where
  no : Bool
  atom : GA
structure GR where
  head : GA
  body : List GP
structure GC where
  comes : List GA
  goes : List GA

def wTerm (t : GT) : Nat := t.n.size
def wTerms (l : List GT) : Nat := l.length + (l.map wTerm).sum
def wAtom (a : GA) : Nat := a.n.size + wTerms a.args
def wAtoms (l : List GA) : Nat := l.length + (l.map wAtom).sum
def wPart (p : GP) : Nat := wAtom p.atom
def wParts (l : List GP) : Nat := l.length + (l.map wPart).sum
def wRule (r : GR) : Nat := wAtom r.head + wParts r.body
def wRules (l : List GR) : Nat := l.length + (l.map wRule).sum
def wChange (c : GC) : Nat := wAtoms c.comes + wAtoms c.goes

theorem le_sum {α : Type} (f : α → Nat) {l : List α} {x : α} (h : x ∈ l) : f x ≤ (l.map f).sum := by
  induction l with
  | nil => cases h
  | cons y l ih =>
    rw [List.map_cons, List.sum_cons]
    rcases List.mem_cons.1 h with rfl | h
    · omega
    · have := ih h; omega
theorem wAtoms_mem {l : List GA} {x : GA} (h : x ∈ l) : wAtom x ≤ wAtoms l := Nat.le_trans (le_sum wAtom h) (Nat.le_add_left _ _)
theorem wTerms_mem {l : List GT} {x : GT} (h : x ∈ l) : wTerm x ≤ wTerms l := Nat.le_trans (le_sum wTerm h) (Nat.le_add_left _ _)
theorem wParts_mem {l : List GP} {x : GP} (h : x ∈ l) : wPart x ≤ wParts l := Nat.le_trans (le_sum wPart h) (Nat.le_add_left _ _)
theorem wRules_mem {l : List GR} {x : GR} (h : x ∈ l) : wRule x ≤ wRules l := Nat.le_trans (le_sum wRule h) (Nat.le_add_left _ _)

theorem ret_bool {a b : Bool} (h : a = b) : Ending.returned (.bool a) = .returned (.bool b) := by rw [h]
theorem ret_int {k : IntKind} {a b : Int} (h : a = b) : Ending.returned (.int k a) = .returned (.int k b) := by rw [h]
theorem ret_str {a b : ByteArray} (h : a = b) : Ending.returned (.string a) = .returned (.string b) := by rw [h]

/-- Nothing that was there has turned. -/
abbrev Ext (w w' : World) : Prop := Below w.heap.size w w'

theorem Ext.refl (w : World) : Ext w w := Below.refl _ _
theorem Ext.trans' {a b c : World} (h : Ext a b) (k : Ext b c) : Ext a c := Below.trans h (Below.mono k h.size)
theorem Ext.alloc {a w : World} (h : Ext a w) (o : Obj) : Ext a (w.alloc o) := Below.alloc h h.size o
theorem Ext.drew {a w : World} (h : Ext a w) : Ext a w.drew := Below.drew h
theorem Ext.drewN {a w : World} (h : Ext a w) (n : Nat) : Ext a (w.drewN n) := ⟨h.os, h.tape, h.output, h.size, h.block⟩
theorem Ext.setNew {a w : World} (h : Ext a w) {p : Addr} (hp : a.heap.size ≤ p.block) (u : Value) : Ext a (w.setCell p u) := Below.setCell h hp u

theorem Ext.cells {w w1 : World} (hb : Ext w w1) : (∀ b o, b < w.heap.size → w1.cell? ⟨b, o, none⟩ = w.cell? ⟨b, o, none⟩) ∧ (∀ b o, b < w.heap.size → w1.frozen? ⟨b, o, none⟩ = w.frozen? ⟨b, o, none⟩) :=
  ⟨fun b o h => Below.cell hb (p := ⟨b, o, none⟩) h, fun b o h => Below.frozen hb (p := ⟨b, o, none⟩) h⟩

/-- The blocks of S that were there are as they were. -/
def Agree (S : Nat → Prop) (w w' : World) : Prop := ∀ b, S b → b < w.heap.size → w'.heap[b]? = w.heap[b]?

theorem Agree.of_ext {S : Nat → Prop} {w w' : World} (h : Ext w w') : Agree S w w' := fun b _ hb => h.block b hb
theorem Agree.refl (S : Nat → Prop) (w : World) : Agree S w w := fun _ _ _ => rfl
theorem Agree.trans' {S : Nat → Prop} {a b c : World} (h : Agree S a b) (k : Agree S b c) (hs : a.heap.size ≤ b.heap.size) : Agree S a c :=
  fun i hi hb => (k i hi (by omega)).trans (h i hi hb)
theorem Agree.setCell {S : Nat → Prop} {a w : World} (h : Agree S a w) {p : Addr} (hp : ¬ S p.block) (u : Value) : Agree S a (w.setCell p u) :=
  fun i hi hb => (Below.heap_setCell w p u i (fun e => hp (e ▸ hi))).trans (h i hi hb)

theorem cell_lt {w : World} {b o : Nat} {u : Value} (h : w.cell? ⟨b, o, none⟩ = some u) : b < w.heap.size := by
  rcases Nat.lt_or_ge b w.heap.size with hlt | hge
  · exact hlt
  · simp [World.cell?, Array.getElem?_eq_none hge] at h

/-- A slice value whose elements (size cells each, in blocks of S) are held as E says. -/
def SliceR {α : Type} (S : Nat → Prop) (size : Nat) (E : World → List Value → α → Prop) (w : World) (v : Value) (xs : List α) : Prop :=
  ∃ A c, v = .slice A xs.length c ∧ xs.length ≤ c ∧ c ≤ maxLen ∧
    (0 < xs.length → ∃ b off, A = some ⟨b, off, none⟩ ∧ b < w.heap.size ∧ S b ∧
      ∀ (i : Nat) (x : α), xs[i]? = some x → ∃ cs : List Value, cs.length = size ∧ (∀ (j : Nat) (u : Value), cs[j]? = some u → w.cell? ⟨b, off + (i * size + j), none⟩ = some u) ∧ E w cs x)

theorem SliceR.imp {α : Type} {S S' : Nat → Prop} {size : Nat} {E E' : World → List Value → α → Prop} {w w' : World} {v : Value} {xs : List α}
    (hE : ∀ cs x, x ∈ xs → E w cs x → E' w' cs x) (hS : ∀ b, S b → S' b) (h : SliceR S size E w v xs) (he : Agree S w w') (hsz : w.heap.size ≤ w'.heap.size) : SliceR S' size E' w' v xs := by
  obtain ⟨A, c, hv, h1, h2, h3⟩ := h
  refine ⟨A, c, hv, h1, h2, fun h0 => ?_⟩
  obtain ⟨b, off, ha, hb, hs, hc⟩ := h3 h0
  refine ⟨b, off, ha, Nat.lt_of_lt_of_le hb hsz, hS b hs, fun i x hx => ?_⟩
  obtain ⟨cs, hl, hcs, hEx⟩ := hc i x hx
  exact ⟨cs, hl, fun j u hu => (World.cell?_of_block (w := w) (a := ⟨b, _, none⟩) (he b hs hb)).trans (hcs j u hu), hE _ _ (List.mem_of_getElem? hx) hEx⟩

abbrev Any : Nat → Prop := fun _ => True
abbrev From (n : Nat) : Nat → Prop := fun b => n ≤ b

theorem notFrom {N b : Nat} (h : b < N) : ¬ From N b := Nat.not_le.2 h
theorem Agree.set {N : Nat} {a w : World} (h : Agree (From N) a w) {p : Addr} (hp : p.block < N) (u : Value) : Agree (From N) a (w.setCell p u) := h.setCell (notFrom hp) u
theorem fromLe {N M : Nat} (h : M ≤ N) : ∀ b, From N b → From M b := fun _ hb => Nat.le_trans h hb

def TermE (_ : World) (cs : List Value) (t : GT) : Prop := cs = [.bool t.v, .string t.n] ∧ t.n.size ≤ maxLen
def TermsR (S : Nat → Prop) : World → Value → List GT → Prop := SliceR S 2 TermE
def AtomE (S : Nat → Prop) (w : World) (cs : List Value) (a : GA) : Prop := ∃ v, cs = [.string a.n, v] ∧ a.n.size ≤ maxLen ∧ TermsR S w v a.args
def AtomsR (S : Nat → Prop) : World → Value → List GA → Prop := SliceR S 2 (AtomE S)
def PartE (S : Nat → Prop) (w : World) (cs : List Value) (p : GP) : Prop := ∃ v, cs = [.bool p.no, .string p.atom.n, v] ∧ p.atom.n.size ≤ maxLen ∧ TermsR S w v p.atom.args
def PartsR (S : Nat → Prop) : World → Value → List GP → Prop := SliceR S 3 (PartE S)
def RuleE (S : Nat → Prop) (w : World) (cs : List Value) (r : GR) : Prop := ∃ v u, cs = [.string r.head.n, v, u] ∧ r.head.n.size ≤ maxLen ∧ TermsR S w v r.head.args ∧ PartsR S w u r.body
def RulesR (S : Nat → Prop) : World → Value → List GR → Prop := SliceR S 3 (RuleE S)
def ChangeE (S : Nat → Prop) (w : World) (cs : List Value) (c : GC) : Prop := ∃ v u, cs = [v, u] ∧ AtomsR S w v c.comes ∧ AtomsR S w u c.goes

section
variable {S S' : Nat → Prop} {w w' : World}
theorem TermsR.imp {v : Value} {xs : List GT} (h : TermsR S w v xs) (hS : ∀ b, S b → S' b) (he : Agree S w w') (hsz : w.heap.size ≤ w'.heap.size) : TermsR S' w' v xs :=
  SliceR.imp (E := TermE) (w := w) (fun _ _ _ h => h) hS h he hsz
theorem AtomE.imp {cs : List Value} {a : GA} (h : AtomE S w cs a) (hS : ∀ b, S b → S' b) (he : Agree S w w') (hsz : w.heap.size ≤ w'.heap.size) : AtomE S' w' cs a := by
  obtain ⟨v, h1, h2, h3⟩ := h; exact ⟨v, h1, h2, h3.imp hS he hsz⟩
theorem AtomsR.imp {v : Value} {xs : List GA} (h : AtomsR S w v xs) (hS : ∀ b, S b → S' b) (he : Agree S w w') (hsz : w.heap.size ≤ w'.heap.size) : AtomsR S' w' v xs :=
  SliceR.imp (fun _ _ _ h => h.imp hS he hsz) hS h he hsz
theorem PartE.imp {cs : List Value} {a : GP} (h : PartE S w cs a) (hS : ∀ b, S b → S' b) (he : Agree S w w') (hsz : w.heap.size ≤ w'.heap.size) : PartE S' w' cs a := by
  obtain ⟨v, h1, h2, h3⟩ := h; exact ⟨v, h1, h2, h3.imp hS he hsz⟩
theorem PartsR.imp {v : Value} {xs : List GP} (h : PartsR S w v xs) (hS : ∀ b, S b → S' b) (he : Agree S w w') (hsz : w.heap.size ≤ w'.heap.size) : PartsR S' w' v xs :=
  SliceR.imp (fun _ _ _ h => h.imp hS he hsz) hS h he hsz
theorem RuleE.imp {cs : List Value} {a : GR} (h : RuleE S w cs a) (hS : ∀ b, S b → S' b) (he : Agree S w w') (hsz : w.heap.size ≤ w'.heap.size) : RuleE S' w' cs a := by
  obtain ⟨v, u, h1, h2, h3, h4⟩ := h; exact ⟨v, u, h1, h2, h3.imp hS he hsz, h4.imp hS he hsz⟩
theorem RulesR.imp {v : Value} {xs : List GR} (h : RulesR S w v xs) (hS : ∀ b, S b → S' b) (he : Agree S w w') (hsz : w.heap.size ≤ w'.heap.size) : RulesR S' w' v xs :=
  SliceR.imp (fun _ _ _ h => h.imp hS he hsz) hS h he hsz
theorem ChangeE.imp {cs : List Value} {a : GC} (h : ChangeE S w cs a) (hS : ∀ b, S b → S' b) (he : Agree S w w') (hsz : w.heap.size ≤ w'.heap.size) : ChangeE S' w' cs a := by
  obtain ⟨v, u, h1, h2, h3⟩ := h; exact ⟨v, u, h1, h2.imp hS he hsz, h3.imp hS he hsz⟩

theorem TermsR.ext {v : Value} {xs : List GT} (h : TermsR S w v xs) (he : Ext w w') : TermsR S w' v xs := h.imp (fun _ h => h) (.of_ext he) he.size
theorem AtomE.ext {cs : List Value} {a : GA} (h : AtomE S w cs a) (he : Ext w w') : AtomE S w' cs a := h.imp (fun _ h => h) (.of_ext he) he.size
theorem AtomsR.ext {v : Value} {xs : List GA} (h : AtomsR S w v xs) (he : Ext w w') : AtomsR S w' v xs := h.imp (fun _ h => h) (.of_ext he) he.size
theorem PartE.ext {cs : List Value} {a : GP} (h : PartE S w cs a) (he : Ext w w') : PartE S w' cs a := h.imp (fun _ h => h) (.of_ext he) he.size
theorem PartsR.ext {v : Value} {xs : List GP} (h : PartsR S w v xs) (he : Ext w w') : PartsR S w' v xs := h.imp (fun _ h => h) (.of_ext he) he.size
theorem RuleE.ext {cs : List Value} {a : GR} (h : RuleE S w cs a) (he : Ext w w') : RuleE S w' cs a := h.imp (fun _ h => h) (.of_ext he) he.size
theorem RulesR.ext {v : Value} {xs : List GR} (h : RulesR S w v xs) (he : Ext w w') : RulesR S w' v xs := h.imp (fun _ h => h) (.of_ext he) he.size
theorem ChangeE.ext {cs : List Value} {a : GC} (h : ChangeE S w cs a) (he : Ext w w') : ChangeE S w' cs a := h.imp (fun _ h => h) (.of_ext he) he.size

theorem TermsR.drew_ {v : Value} {xs : List GT} (h : TermsR S w v xs) : TermsR S w.drew v xs := h.ext (Ext.refl _).drew
theorem AtomsR.drew_ {v : Value} {xs : List GA} (h : AtomsR S w v xs) : AtomsR S w.drew v xs := h.ext (Ext.refl _).drew
theorem PartsR.drew_ {v : Value} {xs : List GP} (h : PartsR S w v xs) : PartsR S w.drew v xs := h.ext (Ext.refl _).drew
theorem RulesR.drew_ {v : Value} {xs : List GR} (h : RulesR S w v xs) : RulesR S w.drew v xs := h.ext (Ext.refl _).drew
theorem TermsR.sub {v : Value} {xs : List GT} (h : TermsR S w v xs) (hS : ∀ b, S b → S' b) : TermsR S' w v xs := h.imp hS (.refl _ _) (Nat.le_refl _)
theorem AtomE.sub {cs : List Value} {a : GA} (h : AtomE S w cs a) (hS : ∀ b, S b → S' b) : AtomE S' w cs a := h.imp hS (.refl _ _) (Nat.le_refl _)
theorem AtomsR.sub {v : Value} {xs : List GA} (h : AtomsR S w v xs) (hS : ∀ b, S b → S' b) : AtomsR S' w v xs := h.imp hS (.refl _ _) (Nat.le_refl _)
theorem PartsR.sub {v : Value} {xs : List GP} (h : PartsR S w v xs) (hS : ∀ b, S b → S' b) : PartsR S' w v xs := h.imp hS (.refl _ _) (Nat.le_refl _)
theorem RulesR.sub {v : Value} {xs : List GR} (h : RulesR S w v xs) (hS : ∀ b, S b → S' b) : RulesR S' w v xs := h.imp hS (.refl _ _) (Nat.le_refl _)
theorem ChangeE.sub {cs : List Value} {a : GC} (h : ChangeE S w cs a) (hS : ∀ b, S b → S' b) : ChangeE S' w cs a := h.imp hS (.refl _ _) (Nat.le_refl _)
end

section
variable {α : Type} {S : Nat → Prop} {size : Nat} {E : World → List Value → α → Prop} {w : World}
/-- The form of a slice value. -/
theorem SliceR.form {v : Value} {xs : List α} (h : SliceR S size E w v xs) :
    ∃ A c, v = .slice A xs.length c ∧ xs.length ≤ c ∧ c ≤ 9223372036854775807 := by
  obtain ⟨A, c, hv, h1, h2, _⟩ := h; exact ⟨A, c, hv, h1, h2⟩

theorem SliceR.at_ {A : Option Addr} {n c : Nat} {xs : List α} (h : SliceR S size E w (.slice A n c) xs) {k : Nat} (hk : k < n) :
    ∃ (b off : Nat) (x : α) (cs : List Value), A = some ⟨b, off, none⟩ ∧ b < w.heap.size ∧ xs[k]? = some x ∧ cs.length = size ∧
      (∀ (j : Nat) (u : Value), cs[j]? = some u → w.cell? ⟨b, off + (k * size + j), none⟩ = some u) ∧ E w cs x := by
  obtain ⟨A', c', hv, h1, h2, h3⟩ := h
  injection hv with hA hn hc
  subst hA; subst hn
  obtain ⟨b, off, ha, hb, _, hcell⟩ := h3 (by omega)
  obtain ⟨cs, hl, hcs, hEx⟩ := hcell k xs[k] (List.getElem?_eq_getElem hk)
  exact ⟨b, off, xs[k], cs, ha, hb, List.getElem?_eq_getElem hk, hl, hcs, hEx⟩

theorem SliceR.nil_ (c : Nat) (hc : c ≤ maxLen) (A : Option Addr) : SliceR S size E w (.slice A 0 c) [] := ⟨A, c, rfl, Nat.zero_le _, hc, fun h => absurd h (by simp)⟩
end

theorem TermsR.at_ {S : Nat → Prop} {w : World} {A : Option Addr} {n c : Nat} {xs : List GT} (h : TermsR S w (.slice A n c) xs) {k : Nat} (hk : k < n) :
    ∃ (b off : Nat) (x : GT), A = some ⟨b, off, none⟩ ∧ b < w.heap.size ∧ xs[k]? = some x ∧ x.n.size ≤ maxLen ∧
      w.cell? ⟨b, off + k * 2, none⟩ = some (.bool x.v) ∧ w.cell? ⟨b, off + k * 2 + 1, none⟩ = some (.string x.n) := by
  obtain ⟨b, off, x, cs, hA, hb, hx, _, hc, rfl, hs⟩ := SliceR.at_ h hk
  exact ⟨b, off, x, hA, hb, hx, hs, hc 0 _ rfl, hc 1 _ rfl⟩

theorem AtomsR.at_ {S : Nat → Prop} {w : World} {A : Option Addr} {n c : Nat} {xs : List GA} (h : AtomsR S w (.slice A n c) xs) {k : Nat} (hk : k < n) :
    ∃ (b off : Nat) (x : GA) (v : Value), A = some ⟨b, off, none⟩ ∧ b < w.heap.size ∧ xs[k]? = some x ∧ x.n.size ≤ maxLen ∧ TermsR S w v x.args ∧
      w.cell? ⟨b, off + k * 2, none⟩ = some (.string x.n) ∧ w.cell? ⟨b, off + k * 2 + 1, none⟩ = some v := by
  obtain ⟨b, off, x, cs, hA, hb, hx, _, hc, v, rfl, hs, ht⟩ := SliceR.at_ h hk
  exact ⟨b, off, x, v, hA, hb, hx, hs, ht, hc 0 _ rfl, hc 1 _ rfl⟩

theorem PartsR.at_ {S : Nat → Prop} {w : World} {A : Option Addr} {n c : Nat} {xs : List GP} (h : PartsR S w (.slice A n c) xs) {k : Nat} (hk : k < n) :
    ∃ (b off : Nat) (x : GP) (v : Value), A = some ⟨b, off, none⟩ ∧ b < w.heap.size ∧ xs[k]? = some x ∧ x.atom.n.size ≤ maxLen ∧ TermsR S w v x.atom.args ∧
      w.cell? ⟨b, off + k * 3, none⟩ = some (.bool x.no) ∧ w.cell? ⟨b, off + k * 3 + 1, none⟩ = some (.string x.atom.n) ∧ w.cell? ⟨b, off + k * 3 + 2, none⟩ = some v := by
  obtain ⟨b, off, x, cs, hA, hb, hx, _, hc, v, rfl, hs, ht⟩ := SliceR.at_ h hk
  exact ⟨b, off, x, v, hA, hb, hx, hs, ht, hc 0 _ rfl, hc 1 _ rfl, hc 2 _ rfl⟩

theorem RulesR.at_ {S : Nat → Prop} {w : World} {A : Option Addr} {n c : Nat} {xs : List GR} (h : RulesR S w (.slice A n c) xs) {k : Nat} (hk : k < n) :
    ∃ (b off : Nat) (x : GR) (v u : Value), A = some ⟨b, off, none⟩ ∧ b < w.heap.size ∧ xs[k]? = some x ∧ x.head.n.size ≤ maxLen ∧ TermsR S w v x.head.args ∧ PartsR S w u x.body ∧
      w.cell? ⟨b, off + k * 3, none⟩ = some (.string x.head.n) ∧ w.cell? ⟨b, off + k * 3 + 1, none⟩ = some v ∧ w.cell? ⟨b, off + k * 3 + 2, none⟩ = some u := by
  obtain ⟨b, off, x, cs, hA, hb, hx, _, hc, v, u, rfl, hs, ht, hp⟩ := SliceR.at_ h hk
  exact ⟨b, off, x, v, u, hA, hb, hx, hs, ht, hp, hc 0 _ rfl, hc 1 _ rfl, hc 2 _ rfl⟩

/-- A block that is known whole, none of it frozen. -/
def Blk (w : World) (g : Nat) (t : TypeId) (cs : Array Value) : Prop := w.heap[g]? = some (.cells cs t (0, 0))

section
variable {w w' : World} {g : Nat} {t : TypeId} {cs : Array Value}
theorem Blk.lt (h : Blk w g t cs) : g < w.heap.size := by
  rcases Nat.lt_or_ge g w.heap.size with hlt | hge
  · exact hlt
  · unfold Blk at h; rw [Array.getElem?_eq_none hge] at h; cases h
theorem Blk.cell (h : Blk w g t cs) (i : Nat) : w.cell? ⟨g, i, none⟩ = cs[i]? := by unfold Blk at h; simp [World.cell?, h]
theorem Blk.frozen (h : Blk w g t cs) (i : Nat) : w.frozen? ⟨g, i, none⟩ = false := by
  unfold Blk at h
  simp [World.frozen?, h]
theorem Blk.new (w : World) (t : TypeId) (cs : Array Value) : Blk (w.alloc (.cells cs t)) w.heap.size t cs := by
  show (w.heap.push _)[w.heap.size]? = _
  rw [Array.getElem?_push, if_pos rfl]
theorem Blk.drew (h : Blk w g t cs) : Blk w.drew g t cs := h
theorem Blk.drewN (h : Blk w g t cs) (n : Nat) : Blk (w.drewN n) g t cs := h
theorem Blk.alloc (h : Blk w g t cs) (o : Obj) : Blk (w.alloc o) g t cs := (Below.heap_alloc w o g h.lt).trans h
theorem Blk.set_ (h : Blk w g t cs) (i : Nat) (u : Value) : Blk (w.setCell ⟨g, i, none⟩ u) g t (cs.setIfInBounds i u) := by
  unfold Blk at h ⊢
  simp [World.setCell, Array.getElem?_modify, h]
theorem Blk.far (h : Blk w g t cs) {p : Addr} (hp : g ≠ p.block) (u : Value) : Blk (w.setCell p u) g t cs := (Below.heap_setCell w p u g hp).trans h
theorem Blk.ext (h : Blk w g t cs) (hb : Ext w w') : Blk w' g t cs := (hb.block g h.lt).trans h
theorem Blk.below {B : Nat} (h : Blk w g t cs) (hb : Below B w w') (hg : g < B) : Blk w' g t cs := (hb.block g hg).trans h
end

/-- make([]T, n): a new block of n rows, whatever lies in it. -/
theorem made {P : Program} (t e : TypeId) (i : TypeInfo) (z : Value) (ht : P.underlying t = some (.slice e)) (hi : P.info? e = some i) (hz : i.zero = some z)
    (n : Nat) (hbytes : i.bytes * n ≤ 281474976710656) (h63 : n ≤ 9223372036854775807) :
    ∃ cs : Array Value, cs.size = n * i.size ∧ ∀ W : World, (Instr.makeSlice t (.int .i64 (n : Int)) (.int .i64 (n : Int))).run P W = .ok (.slice (some ⟨W.heap.size, 0, none⟩) n n) (W.alloc (.cells cs e)) := by
  refine ⟨madeCells z.cells (n * i.size), size_madeCells _ _, fun W => ?_⟩
  have hb : (i.bytes : Int) * (n : Int) ≤ 281474976710656 := by
    have h : ((i.bytes * n : Nat) : Int) ≤ 281474976710656 := by omega
    rwa [Int.natCast_mul] at h
  have hr := run_make (P := P) W t e i z ht hi hz .i64 .i64 n n (by omega) (by omega) hb (by omega)
  simp only [Int.toNat_natCast] at hr
  exact hr

/-- A cell of a known block, ready to be written. -/
theorem Blk.ready {w : World} {g : Nat} {t : TypeId} {cs : Array Value} (h : Blk w g t cs) {i : Nat} (hi : i < cs.size) : (∃ u, w.cell? ⟨g, i, none⟩ = some u) ∧ w.frozen? ⟨g, i, none⟩ = false :=
  ⟨⟨cs[i], by rw [h.cell]; exact Array.getElem?_eq_getElem hi⟩, h.frozen i⟩

/-- The first k elements of a row under construction. -/
def Filled {α : Type} (size : Nat) (E : World → List Value → α → Prop) (w : World) (cs : Array Value) (xs : List α) (k : Nat) : Prop :=
  ∀ (i : Nat) (x : α), i < k → xs[i]? = some x → ∃ l : List Value, l.length = size ∧ (∀ (j : Nat) (u : Value), l[j]? = some u → cs[i * size + j]? = some u) ∧ E w l x

theorem Filled.zero {α : Type} (size : Nat) (E : World → List Value → α → Prop) (w : World) (cs : Array Value) (xs : List α) : Filled size E w cs xs 0 := fun _ _ h => absurd h (by omega)

/-- A full row is a slice. -/
theorem Filled.slice {α : Type} {S : Nat → Prop} {size : Nat} {E : World → List Value → α → Prop} {w : World} {g : Nat} {t : TypeId} {cs : Array Value} {xs : List α} {n c : Nat}
    (h : Filled size E w cs xs n) (hb : Blk w g t cs) (hn : n = xs.length) (hc : n ≤ c) (hm : c ≤ maxLen) (hg : S g) : SliceR S size E w (.slice (some ⟨g, 0, none⟩) n c) xs := by
  subst hn
  refine ⟨_, c, rfl, hc, hm, fun _ => ⟨g, 0, rfl, hb.lt, hg, fun i x hx => ?_⟩⟩
  obtain ⟨l, h1, h2, h3⟩ := h i x (by rcases Nat.lt_or_ge i xs.length with h | h; exact h; rw [List.getElem?_eq_none h] at hx; cases hx) hx
  exact ⟨l, h1, fun j u hu => by rw [hb.cell, Nat.zero_add]; exact h2 j u hu, h3⟩

/-- One element more, of two cells. -/
theorem Filled.two {α : Type} {E E' : World → List Value → α → Prop} {w w' : World} {cs : Array Value} {xs : List α} {k : Nat} {a b : Value} {x : α}
    (h : Filled 2 E w cs xs k) (hE : ∀ cs x, E w cs x → E' w' cs x) (hk : xs[k]? = some x) (hs : k * 2 + 1 < cs.size) (hx : E' w' [a, b] x) :
    Filled 2 E' w' ((cs.setIfInBounds (k * 2) a).setIfInBounds (k * 2 + 1) b) xs (k + 1) := by
  intro i y hi hy
  by_cases hik : i = k
  · subst hik
    rw [hk] at hy; injection hy with hy; subst hy
    refine ⟨[a, b], rfl, fun j u hu => ?_, hx⟩
    match j, hu with
    | 0, hu => simp at hu; subst hu; simp [show i * 2 < cs.size from by omega]
    | 1, hu => simp at hu; subst hu; simp [hs]
  · obtain ⟨l, h1, h2, h3⟩ := h i y (by omega) hy
    refine ⟨l, h1, fun j u hu => ?_, hE _ _ h3⟩
    have hj : j < 2 := by rw [← h1]; rcases Nat.lt_or_ge j l.length with h | h; exact h; rw [List.getElem?_eq_none h] at hu; cases hu
    rw [Array.getElem?_setIfInBounds_ne (by omega), Array.getElem?_setIfInBounds_ne (by omega)]
    exact h2 j u hu

/-- One element more, of three cells. -/
theorem Filled.three {α : Type} {E E' : World → List Value → α → Prop} {w w' : World} {cs : Array Value} {xs : List α} {k : Nat} {a b d : Value} {x : α}
    (h : Filled 3 E w cs xs k) (hE : ∀ cs x, E w cs x → E' w' cs x) (hk : xs[k]? = some x) (hs : k * 3 + 2 < cs.size) (hx : E' w' [a, b, d] x) :
    Filled 3 E' w' (((cs.setIfInBounds (k * 3) a).setIfInBounds (k * 3 + 1) b).setIfInBounds (k * 3 + 2) d) xs (k + 1) := by
  intro i y hi hy
  by_cases hik : i = k
  · subst hik
    rw [hk] at hy; injection hy with hy; subst hy
    refine ⟨[a, b, d], rfl, fun j u hu => ?_, hx⟩
    match j, hu with
    | 0, hu => simp at hu; subst hu; simp [show i * 3 < cs.size from by omega]
    | 1, hu => simp at hu; subst hu; simp [show i * 3 + 1 < cs.size from by omega]
    | 2, hu => simp at hu; subst hu; simp [hs]
  · obtain ⟨l, h1, h2, h3⟩ := h i y (by omega) hy
    refine ⟨l, h1, fun j u hu => ?_, hE _ _ h3⟩
    have hj : j < 3 := by rw [← h1]; rcases Nat.lt_or_ge j l.length with h | h; exact h; rw [List.getElem?_eq_none h] at hu; cases hu
    rw [Array.getElem?_setIfInBounds_ne (by omega), Array.getElem?_setIfInBounds_ne (by omega), Array.getElem?_setIfInBounds_ne (by omega)]
    exact h2 j u hu

end Go.Proofs.YthndnkafckapnaaGreatDoor
