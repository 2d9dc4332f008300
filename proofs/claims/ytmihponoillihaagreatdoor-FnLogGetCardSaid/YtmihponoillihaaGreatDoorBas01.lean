/- Part of the texts of a proof: own texts joined in the order of their building; what they say stands at each theorem. -/
import Derived.WalkKit
import Derived.WalkSpells
import Derived.Lib.Hide
import Derived.Deep.Draws
import Derived.Handy
import Derived.Test.YtmihponoillihaaGreatDoorRows
import Derived.ProofKit
import Derived.Deep.Slices
import Derived.Deep.Fields
import Derived.ChangeSame
import Derived.Deep.AppendLies
import Derived.Orders
import Derived.OrdersHeld
set_option linter.unusedSimpArgs false
set_option linter.unusedVariables false
namespace Go.Proofs.YtmihponoillihaaGreatDoor
open Go.RowKit

/-! ### Short words for the printed walks -/
theorem tk {P : Program} {ops : Array Oper} {Q : Exit → Act → World → Prop} {md : Region.Mode} {S : World → Prop} (i : Nat) {oi : Oper} {v : Value} {fuel : Nat} {listed : Array Bool} {a : Act} {w : World} (hi : ops[i]? = some oi)
 (hv : ∀ w, S w → (execOp a.eval oi).run P w = .ok (.value v) w) (h : wpAnyH P md ops Q S fuel (listed.setIfInBounds i true) (a.put oi.dst v) w)
 (hs : Region.noSelect ops = true := by kernel_rfl) (hf : Region.free md ops listed i = true := by kernel_rfl) (hr : (Region.ready md ops listed).contains i = true := by kernel_rfl)
 (hQ : ∀ c a w, Q (.panic c) (a.put oi.dst v) w → Q (.panic c) a w := by exact fun _ _ _ h => h) (hg : Region.wanted oi (yielded ops a.tmps) = true := by kernel_rfl) (hS : S w := by assumption) : wpAnyH P md ops Q S (fuel + 1) listed a w :=
 wpAnyH_take hi hs hf hr hQ (Or.inl ⟨hg, hv⟩) hS h
theorem stz : (∀ (l : List Value) (i : Nat) (a : Value), l.toArray.setIfInBounds i a = (l.set i a).toArray) ∧ (∀ (x : Value) (l : List Value) (a : Value), (x :: l).set 0 a = a :: l) ∧ (∀ (x : Value) (l : List Value) (n : Nat) (a : Value), (x :: l).set (n + 1) a = x :: l.set n a) :=
 ⟨fun _ _ _ => List.setIfInBounds_toArray .., fun _ _ _ => rfl, fun _ _ _ _ => rfl⟩

structure GT where
 v : Bool
 n : ByteArray
structure GA where
 n : ByteArray
 args : List GT
structure GP where
 no : Bool
 atom : GA
structure GR where
 head : GA
 body : List GP
structure GC where
 comes : List GA
 goes : List GA

def wTerm (t : GT) : Nat := t.n.size
def wTerms (l : List GT) : Nat := l.length + (l.map wTerm).sum
def wAtom (a : GA) : Nat := a.n.size + wTerms a.args
def wAtoms (l : List GA) : Nat := l.length + (l.map wAtom).sum
def wPart (p : GP) : Nat := wAtom p.atom
def wParts (l : List GP) : Nat := l.length + (l.map wPart).sum
def wRule (r : GR) : Nat := wAtom r.head + wParts r.body
def wRules (l : List GR) : Nat := l.length + (l.map wRule).sum
def wChange (c : GC) : Nat := wAtoms c.comes + wAtoms c.goes

theorem le_sum {α : Type} (f : α → Nat) {l : List α} {x : α} (h : x ∈ l) : f x ≤ (l.map f).sum := by
 induction l with
 | nil => cases h
 | cons y l ih =>
   rw [List.map_cons, List.sum_cons]
   rcases List.mem_cons.1 h with rfl | h
   · omega
   · have := ih h; omega
theorem wAtoms_mem {l : List GA} {x : GA} (h : x ∈ l) : wAtom x ≤ wAtoms l := Nat.le_trans (le_sum wAtom h) (Nat.le_add_left _ _)
theorem wTerms_mem {l : List GT} {x : GT} (h : x ∈ l) : wTerm x ≤ wTerms l := Nat.le_trans (le_sum wTerm h) (Nat.le_add_left _ _)
theorem wParts_mem {l : List GP} {x : GP} (h : x ∈ l) : wPart x ≤ wParts l := Nat.le_trans (le_sum wPart h) (Nat.le_add_left _ _)
theorem wRules_mem {l : List GR} {x : GR} (h : x ∈ l) : wRule x ≤ wRules l := Nat.le_trans (le_sum wRule h) (Nat.le_add_left _ _)

theorem ret_bool {a b : Bool} (h : a = b) : Ending.returned (.bool a) = .returned (.bool b) := by rw [h]
theorem ret_int {k : IntKind} {a b : Int} (h : a = b) : Ending.returned (.int k a) = .returned (.int k b) := by rw [h]
theorem ret_str {a b : ByteArray} (h : a = b) : Ending.returned (.string a) = .returned (.string b) := by rw [h]

/-- Nothing that was there has turned. -/
abbrev Ext (w w' : World) : Prop := Below w.heap.size w w'

theorem Ext.refl (w : World) : Ext w w := Below.refl _ _
theorem Ext.trans' {a b c : World} (h : Ext a b) (k : Ext b c) : Ext a c := Below.trans h (Below.mono k h.size)
theorem Ext.alloc {a w : World} (h : Ext a w) (o : Obj) : Ext a (w.alloc o) := Below.alloc h h.size o
theorem Ext.drew {a w : World} (h : Ext a w) : Ext a w.drew := Below.drew h
theorem Ext.drewN {a w : World} (h : Ext a w) (n : Nat) : Ext a (w.drewN n) := ⟨h.os, h.tape, h.output, h.size, h.block⟩
theorem Ext.setNew {a w : World} (h : Ext a w) {p : Addr} (hp : a.heap.size ≤ p.block) (u : Value) : Ext a (w.setCell p u) := Below.setCell h hp u

theorem Ext.cells {w w1 : World} (hb : Ext w w1) : (∀ b o, b < w.heap.size → w1.cell? ⟨b, o, none⟩ = w.cell? ⟨b, o, none⟩) ∧ (∀ b o, b < w.heap.size → w1.frozen? ⟨b, o, none⟩ = w.frozen? ⟨b, o, none⟩) :=
 ⟨fun b o h => Below.cell hb (p := ⟨b, o, none⟩) h, fun b o h => Below.frozen hb (p := ⟨b, o, none⟩) h⟩

/-- The blocks of S that were there are as they were. -/
def Agree (S : Nat → Prop) (w w' : World) : Prop := ∀ b, S b → b < w.heap.size → w'.heap[b]? = w.heap[b]?

theorem Agree.of_ext {S : Nat → Prop} {w w' : World} (h : Ext w w') : Agree S w w' := fun b _ hb => h.block b hb
theorem Agree.refl (S : Nat → Prop) (w : World) : Agree S w w := fun _ _ _ => rfl
theorem Agree.trans' {S : Nat → Prop} {a b c : World} (h : Agree S a b) (k : Agree S b c) (hs : a.heap.size ≤ b.heap.size) : Agree S a c :=
 fun i hi hb => (k i hi (by omega)).trans (h i hi hb)
theorem Agree.setCell {S : Nat → Prop} {a w : World} (h : Agree S a w) {p : Addr} (hp : ¬ S p.block) (u : Value) : Agree S a (w.setCell p u) :=
 fun i hi hb => (Below.heap_setCell w p u i (fun e => hp (e ▸ hi))).trans (h i hi hb)

theorem cell_lt {w : World} {b o : Nat} {u : Value} (h : w.cell? ⟨b, o, none⟩ = some u) : b < w.heap.size := by
 rcases Nat.lt_or_ge b w.heap.size with hlt | hge
 · exact hlt
 · simp [World.cell?, Array.getElem?_eq_none hge] at h

/-- A slice value whose elements (size cells each, in blocks of S) are held as E says. -/
def SliceR {α : Type} (S : Nat → Prop) (size : Nat) (E : World → List Value → α → Prop) (w : World) (v : Value) (xs : List α) : Prop :=
 ∃ A c, v = .slice A xs.length c ∧ xs.length ≤ c ∧ c ≤ maxLen ∧
   (0 < xs.length → ∃ b off, A = some ⟨b, off, none⟩ ∧ b < w.heap.size ∧ S b ∧
    ∀ (i : Nat) (x : α), xs[i]? = some x → ∃ cs : List Value, cs.length = size ∧ (∀ (j : Nat) (u : Value), cs[j]? = some u → w.cell? ⟨b, off + (i * size + j), none⟩ = some u) ∧ E w cs x)

theorem SliceR.imp {α : Type} {S S' : Nat → Prop} {size : Nat} {E E' : World → List Value → α → Prop} {w w' : World} {v : Value} {xs : List α}
 (hE : ∀ cs x, x ∈ xs → E w cs x → E' w' cs x) (hS : ∀ b, S b → S' b) (h : SliceR S size E w v xs) (he : Agree S w w') (hsz : w.heap.size ≤ w'.heap.size) : SliceR S' size E' w' v xs := by
 obtain ⟨A, c, hv, h1, h2, h3⟩ := h
 refine ⟨A, c, hv, h1, h2, fun h0 => ?_⟩
 obtain ⟨b, off, ha, hb, hs, hc⟩ := h3 h0
 refine ⟨b, off, ha, Nat.lt_of_lt_of_le hb hsz, hS b hs, fun i x hx => ?_⟩
 obtain ⟨cs, hl, hcs, hEx⟩ := hc i x hx
 exact ⟨cs, hl, fun j u hu => (World.cell?_of_block (w := w) (a := ⟨b, _, none⟩) (he b hs hb)).trans (hcs j u hu), hE _ _ (List.mem_of_getElem? hx) hEx⟩

abbrev Any : Nat → Prop := fun _ => True
abbrev From (n : Nat) : Nat → Prop := fun b => n ≤ b

theorem notFrom {N b : Nat} (h : b < N) : ¬ From N b := Nat.not_le.2 h
theorem Agree.set {N : Nat} {a w : World} (h : Agree (From N) a w) {p : Addr} (hp : p.block < N) (u : Value) : Agree (From N) a (w.setCell p u) := h.setCell (notFrom hp) u
theorem fromLe {N M : Nat} (h : M ≤ N) : ∀ b, From N b → From M b := fun _ hb => Nat.le_trans h hb

def TermE (_ : World) (cs : List Value) (t : GT) : Prop := cs = [.bool t.v, .string t.n] ∧ t.n.size ≤ maxLen
def TermsR (S : Nat → Prop) : World → Value → List GT → Prop := SliceR S 2 TermE
def AtomE (S : Nat → Prop) (w : World) (cs : List Value) (a : GA) : Prop := ∃ v, cs = [.string a.n, v] ∧ a.n.size ≤ maxLen ∧ TermsR S w v a.args
def AtomsR (S : Nat → Prop) : World → Value → List GA → Prop := SliceR S 2 (AtomE S)
def PartE (S : Nat → Prop) (w : World) (cs : List Value) (p : GP) : Prop := ∃ v, cs = [.bool p.no, .string p.atom.n, v] ∧ p.atom.n.size ≤ maxLen ∧ TermsR S w v p.atom.args
def PartsR (S : Nat → Prop) : World → Value → List GP → Prop := SliceR S 3 (PartE S)
def RuleE (S : Nat → Prop) (w : World) (cs : List Value) (r : GR) : Prop := ∃ v u, cs = [.string r.head.n, v, u] ∧ r.head.n.size ≤ maxLen ∧ TermsR S w v r.head.args ∧ PartsR S w u r.body
def RulesR (S : Nat → Prop) : World → Value → List GR → Prop := SliceR S 3 (RuleE S)
def ChangeE (S : Nat → Prop) (w : World) (cs : List Value) (c : GC) : Prop := ∃ v u, cs = [v, u] ∧ AtomsR S w v c.comes ∧ AtomsR S w u c.goes

section
variable {S S' : Nat → Prop} {w w' : World}
theorem TermsR.imp {v : Value} {xs : List GT} (h : TermsR S w v xs) (hS : ∀ b, S b → S' b) (he : Agree S w w') (hsz : w.heap.size ≤ w'.heap.size) : TermsR S' w' v xs :=
 SliceR.imp (E := TermE) (w := w) (fun _ _ _ h => h) hS h he hsz
theorem AtomE.imp {cs : List Value} {a : GA} (h : AtomE S w cs a) (hS : ∀ b, S b → S' b) (he : Agree S w w') (hsz : w.heap.size ≤ w'.heap.size) : AtomE S' w' cs a := by
 obtain ⟨v, h1, h2, h3⟩ := h; exact ⟨v, h1, h2, h3.imp hS he hsz⟩
theorem AtomsR.imp {v : Value} {xs : List GA} (h : AtomsR S w v xs) (hS : ∀ b, S b → S' b) (he : Agree S w w') (hsz : w.heap.size ≤ w'.heap.size) : AtomsR S' w' v xs :=
 SliceR.imp (fun _ _ _ h => h.imp hS he hsz) hS h he hsz
theorem PartE.imp {cs : List Value} {a : GP} (h : PartE S w cs a) (hS : ∀ b, S b → S' b) (he : Agree S w w') (hsz : w.heap.size ≤ w'.heap.size) : PartE S' w' cs a := by
 obtain ⟨v, h1, h2, h3⟩ := h; exact ⟨v, h1, h2, h3.imp hS he hsz⟩
theorem PartsR.imp {v : Value} {xs : List GP} (h : PartsR S w v xs) (hS : ∀ b, S b → S' b) (he : Agree S w w') (hsz : w.heap.size ≤ w'.heap.size) : PartsR S' w' v xs :=
 SliceR.imp (fun _ _ _ h => h.imp hS he hsz) hS h he hsz
theorem RuleE.imp {cs : List Value} {a : GR} (h : RuleE S w cs a) (hS : ∀ b, S b → S' b) (he : Agree S w w') (hsz : w.heap.size ≤ w'.heap.size) : RuleE S' w' cs a := by
 obtain ⟨v, u, h1, h2, h3, h4⟩ := h; exact ⟨v, u, h1, h2, h3.imp hS he hsz, h4.imp hS he hsz⟩
theorem RulesR.imp {v : Value} {xs : List GR} (h : RulesR S w v xs) (hS : ∀ b, S b → S' b) (he : Agree S w w') (hsz : w.heap.size ≤ w'.heap.size) : RulesR S' w' v xs :=
 SliceR.imp (fun _ _ _ h => h.imp hS he hsz) hS h he hsz
theorem ChangeE.imp {cs : List Value} {a : GC} (h : ChangeE S w cs a) (hS : ∀ b, S b → S' b) (he : Agree S w w') (hsz : w.heap.size ≤ w'.heap.size) : ChangeE S' w' cs a := by
 obtain ⟨v, u, h1, h2, h3⟩ := h; exact ⟨v, u, h1, h2.imp hS he hsz, h3.imp hS he hsz⟩

theorem TermsR.ext {v : Value} {xs : List GT} (h : TermsR S w v xs) (he : Ext w w') : TermsR S w' v xs := h.imp (fun _ h => h) (.of_ext he) he.size
theorem AtomsR.ext {v : Value} {xs : List GA} (h : AtomsR S w v xs) (he : Ext w w') : AtomsR S w' v xs := h.imp (fun _ h => h) (.of_ext he) he.size
theorem PartsR.ext {v : Value} {xs : List GP} (h : PartsR S w v xs) (he : Ext w w') : PartsR S w' v xs := h.imp (fun _ h => h) (.of_ext he) he.size
theorem RulesR.ext {v : Value} {xs : List GR} (h : RulesR S w v xs) (he : Ext w w') : RulesR S w' v xs := h.imp (fun _ h => h) (.of_ext he) he.size
theorem ChangeE.ext {cs : List Value} {a : GC} (h : ChangeE S w cs a) (he : Ext w w') : ChangeE S w' cs a := h.imp (fun _ h => h) (.of_ext he) he.size

theorem TermsR.drew_ {v : Value} {xs : List GT} (h : TermsR S w v xs) : TermsR S w.drew v xs := h.ext (Ext.refl _).drew
theorem AtomsR.drew_ {v : Value} {xs : List GA} (h : AtomsR S w v xs) : AtomsR S w.drew v xs := h.ext (Ext.refl _).drew
theorem TermsR.sub {v : Value} {xs : List GT} (h : TermsR S w v xs) (hS : ∀ b, S b → S' b) : TermsR S' w v xs := h.imp hS (.refl _ _) (Nat.le_refl _)
theorem AtomsR.sub {v : Value} {xs : List GA} (h : AtomsR S w v xs) (hS : ∀ b, S b → S' b) : AtomsR S' w v xs := h.imp hS (.refl _ _) (Nat.le_refl _)
theorem PartsR.sub {v : Value} {xs : List GP} (h : PartsR S w v xs) (hS : ∀ b, S b → S' b) : PartsR S' w v xs := h.imp hS (.refl _ _) (Nat.le_refl _)
end

section
variable {α : Type} {S : Nat → Prop} {size : Nat} {E : World → List Value → α → Prop} {w : World}
/-- The form of a slice value. -/
theorem SliceR.form {v : Value} {xs : List α} (h : SliceR S size E w v xs) :
 ∃ A c, v = .slice A xs.length c ∧ xs.length ≤ c ∧ c ≤ 9223372036854775807 := by
 obtain ⟨A, c, hv, h1, h2, _⟩ := h; exact ⟨A, c, hv, h1, h2⟩

theorem SliceR.at_ {A : Option Addr} {n c : Nat} {xs : List α} (h : SliceR S size E w (.slice A n c) xs) {k : Nat} (hk : k < n) :
 ∃ (b off : Nat) (x : α) (cs : List Value), A = some ⟨b, off, none⟩ ∧ b < w.heap.size ∧ xs[k]? = some x ∧ cs.length = size ∧
   (∀ (j : Nat) (u : Value), cs[j]? = some u → w.cell? ⟨b, off + (k * size + j), none⟩ = some u) ∧ E w cs x := by
 obtain ⟨A', c', hv, h1, h2, h3⟩ := h
 injection hv with hA hn hc
 subst hA; subst hn
 obtain ⟨b, off, ha, hb, _, hcell⟩ := h3 (by omega)
 obtain ⟨cs, hl, hcs, hEx⟩ := hcell k xs[k] (List.getElem?_eq_getElem hk)
 exact ⟨b, off, xs[k], cs, ha, hb, List.getElem?_eq_getElem hk, hl, hcs, hEx⟩

theorem SliceR.nil_ (c : Nat) (hc : c ≤ maxLen) (A : Option Addr) : SliceR S size E w (.slice A 0 c) [] := ⟨A, c, rfl, Nat.zero_le _, hc, fun h => absurd h (by simp)⟩
end

theorem TermsR.at_ {S : Nat → Prop} {w : World} {A : Option Addr} {n c : Nat} {xs : List GT} (h : TermsR S w (.slice A n c) xs) {k : Nat} (hk : k < n) :
 ∃ (b off : Nat) (x : GT), A = some ⟨b, off, none⟩ ∧ b < w.heap.size ∧ xs[k]? = some x ∧ x.n.size ≤ maxLen ∧
   w.cell? ⟨b, off + k * 2, none⟩ = some (.bool x.v) ∧ w.cell? ⟨b, off + k * 2 + 1, none⟩ = some (.string x.n) := by
 obtain ⟨b, off, x, cs, hA, hb, hx, _, hc, rfl, hs⟩ := SliceR.at_ h hk
 exact ⟨b, off, x, hA, hb, hx, hs, hc 0 _ rfl, hc 1 _ rfl⟩

theorem AtomsR.at_ {S : Nat → Prop} {w : World} {A : Option Addr} {n c : Nat} {xs : List GA} (h : AtomsR S w (.slice A n c) xs) {k : Nat} (hk : k < n) :
 ∃ (b off : Nat) (x : GA) (v : Value), A = some ⟨b, off, none⟩ ∧ b < w.heap.size ∧ xs[k]? = some x ∧ x.n.size ≤ maxLen ∧ TermsR S w v x.args ∧
   w.cell? ⟨b, off + k * 2, none⟩ = some (.string x.n) ∧ w.cell? ⟨b, off + k * 2 + 1, none⟩ = some v := by
 obtain ⟨b, off, x, cs, hA, hb, hx, _, hc, v, rfl, hs, ht⟩ := SliceR.at_ h hk
 exact ⟨b, off, x, v, hA, hb, hx, hs, ht, hc 0 _ rfl, hc 1 _ rfl⟩

theorem PartsR.at_ {S : Nat → Prop} {w : World} {A : Option Addr} {n c : Nat} {xs : List GP} (h : PartsR S w (.slice A n c) xs) {k : Nat} (hk : k < n) :
 ∃ (b off : Nat) (x : GP) (v : Value), A = some ⟨b, off, none⟩ ∧ b < w.heap.size ∧ xs[k]? = some x ∧ x.atom.n.size ≤ maxLen ∧ TermsR S w v x.atom.args ∧
   w.cell? ⟨b, off + k * 3, none⟩ = some (.bool x.no) ∧ w.cell? ⟨b, off + k * 3 + 1, none⟩ = some (.string x.atom.n) ∧ w.cell? ⟨b, off + k * 3 + 2, none⟩ = some v := by
 obtain ⟨b, off, x, cs, hA, hb, hx, _, hc, v, rfl, hs, ht⟩ := SliceR.at_ h hk
 exact ⟨b, off, x, v, hA, hb, hx, hs, ht, hc 0 _ rfl, hc 1 _ rfl, hc 2 _ rfl⟩

theorem RulesR.at_ {S : Nat → Prop} {w : World} {A : Option Addr} {n c : Nat} {xs : List GR} (h : RulesR S w (.slice A n c) xs) {k : Nat} (hk : k < n) :
 ∃ (b off : Nat) (x : GR) (v u : Value), A = some ⟨b, off, none⟩ ∧ b < w.heap.size ∧ xs[k]? = some x ∧ x.head.n.size ≤ maxLen ∧ TermsR S w v x.head.args ∧ PartsR S w u x.body ∧
   w.cell? ⟨b, off + k * 3, none⟩ = some (.string x.head.n) ∧ w.cell? ⟨b, off + k * 3 + 1, none⟩ = some v ∧ w.cell? ⟨b, off + k * 3 + 2, none⟩ = some u := by
 obtain ⟨b, off, x, cs, hA, hb, hx, _, hc, v, u, rfl, hs, ht, hp⟩ := SliceR.at_ h hk
 exact ⟨b, off, x, v, u, hA, hb, hx, hs, ht, hp, hc 0 _ rfl, hc 1 _ rfl, hc 2 _ rfl⟩

/-- A block that is known whole, none of it frozen. -/
def Blk (w : World) (g : Nat) (t : TypeId) (cs : Array Value) : Prop := w.heap[g]? = some (.cells cs t (0, 0))

section
variable {w w' : World} {g : Nat} {t : TypeId} {cs : Array Value}
theorem Blk.lt (h : Blk w g t cs) : g < w.heap.size := by
 rcases Nat.lt_or_ge g w.heap.size with hlt | hge
 · exact hlt
 · unfold Blk at h; rw [Array.getElem?_eq_none hge] at h; cases h
theorem Blk.cell (h : Blk w g t cs) (i : Nat) : w.cell? ⟨g, i, none⟩ = cs[i]? := by unfold Blk at h; simp [World.cell?, h]
theorem Blk.frozen (h : Blk w g t cs) (i : Nat) : w.frozen? ⟨g, i, none⟩ = false := by
 unfold Blk at h
 simp [World.frozen?, h]
theorem Blk.new (w : World) (t : TypeId) (cs : Array Value) : Blk (w.alloc (.cells cs t)) w.heap.size t cs := by
 show (w.heap.push _)[w.heap.size]? = _
 rw [Array.getElem?_push, if_pos rfl]
theorem Blk.drew (h : Blk w g t cs) : Blk w.drew g t cs := h
theorem Blk.drewN (h : Blk w g t cs) (n : Nat) : Blk (w.drewN n) g t cs := h
theorem Blk.alloc (h : Blk w g t cs) (o : Obj) : Blk (w.alloc o) g t cs := (Below.heap_alloc w o g h.lt).trans h
theorem Blk.set_ (h : Blk w g t cs) (i : Nat) (u : Value) : Blk (w.setCell ⟨g, i, none⟩ u) g t (cs.setIfInBounds i u) := by
 unfold Blk at h ⊢
 simp [World.setCell, Array.getElem?_modify, h]
theorem Blk.far (h : Blk w g t cs) {p : Addr} (hp : g ≠ p.block) (u : Value) : Blk (w.setCell p u) g t cs := (Below.heap_setCell w p u g hp).trans h
theorem Blk.ext (h : Blk w g t cs) (hb : Ext w w') : Blk w' g t cs := (hb.block g h.lt).trans h
theorem Blk.below {B : Nat} (h : Blk w g t cs) (hb : Below B w w') (hg : g < B) : Blk w' g t cs := (hb.block g hg).trans h
end

/-- A cell of a known block, ready to be written. -/
theorem Blk.ready {w : World} {g : Nat} {t : TypeId} {cs : Array Value} (h : Blk w g t cs) {i : Nat} (hi : i < cs.size) : (∃ u, w.cell? ⟨g, i, none⟩ = some u) ∧ w.frozen? ⟨g, i, none⟩ = false :=
 ⟨⟨cs[i], by rw [h.cell]; exact Array.getElem?_eq_getElem hi⟩, h.frozen i⟩

end Go.Proofs.YtmihponoillihaaGreatDoor

namespace Go.Proofs.YtmihponoillihaaGreatDoor
open Go.RowKit Go.ChangeShapes Go.WideShapes Go.Deep

section
variable {H : Type} {enc : TypeId × Value → H} {P : Program} {w : World} {base : Nat} {spare : Nat → Bool} {held : Bool}

/-- Elements that can be chosen one by one make a list. -/
theorem choose_rows {α : Type} (R : Nat → α → Prop) : ∀ (n k : Nat), (∀ i, i < n → ∃ x, R (k + i) x) → ∃ xs : List α, xs.length = n ∧ ∀ (i : Nat) (x : α), xs[i]? = some x → R (k + i) x
 | 0, _, _ => ⟨[], rfl, fun i x h => by simp at h⟩
 | n + 1, k, h => by
   obtain ⟨x, hx⟩ := h 0 (by omega)
   obtain ⟨xs, hl, hr⟩ := choose_rows R n (k + 1) (fun i hi => by
    have := h (i + 1) (by omega)
    rwa [show k + (i + 1) = k + 1 + i from by omega] at this)
   refine ⟨x :: xs, by simp [hl], fun i y hy => ?_⟩
   cases i with
   | zero => simp at hy; subst hy; exact hx
   | succ i =>
     have := hr i y (by simpa using hy)
     rwa [show k + 1 + i = k + (i + 1) from by omega] at this

end

section
variable {H : Type} {enc : TypeId × Value → H} {w : World} {base : Nat} {spare : Nat → Bool} {held : Bool} {fuel : Nat} {v : Value} {x : DataW H × List MemPlace}

end
end Go.Proofs.YtmihponoillihaaGreatDoor

namespace Go.Proofs.YtmihponoillihaaGreatDoor
open Go.RowKit

/-- The values rows are the elements xs, size values each. -/
def RowsE {α : Type} (size : Nat) (E : World → List Value → α → Prop) (w : World) (rows : List Value) (xs : List α) : Prop :=
 rows.length = xs.length * size ∧ ∀ (i : Nat) (x : α), xs[i]? = some x → ∃ l : List Value, l.length = size ∧ (∀ (j : Nat) (u : Value), l[j]? = some u → rows[i * size + j]? = some u) ∧ E w l x

section
variable {α : Type} {size : Nat} {E E' : World → List Value → α → Prop} {w w' : World} {rows news : List Value} {xs ys : List α}
theorem RowsE.nil : RowsE size E w [] ([] : List α) := ⟨by simp, fun i x h => by simp at h⟩
theorem RowsE.one {l : List Value} {x : α} (hl : l.length = size) (h : E w l x) : RowsE size E w l [x] :=
 ⟨by simp [hl], fun i y hy => by
  cases i with
  | zero => simp at hy; subst hy; exact ⟨l, hl, fun j u hu => by simpa using hu, h⟩
  | succ i => simp at hy⟩
theorem RowsE.mono (h : RowsE size E w rows xs) (hE : ∀ l x, x ∈ xs → E w l x → E' w' l x) : RowsE size E' w' rows xs :=
 ⟨h.1, fun i x hx => let ⟨l, h1, h2, h3⟩ := h.2 i x hx; ⟨l, h1, h2, hE l x (List.mem_of_getElem? hx) h3⟩⟩
theorem RowsE.append (h : RowsE size E w rows xs) (k : RowsE size E w news ys) : RowsE size E w (rows ++ news) (xs ++ ys) := by
 refine ⟨by rw [List.length_append, List.length_append, h.1, k.1, Nat.add_mul], fun i x hx => ?_⟩
 rcases Nat.lt_or_ge i xs.length with hi | hi
 · rw [List.getElem?_append_left hi] at hx
   obtain ⟨l, h1, h2, h3⟩ := h.2 i x hx
   refine ⟨l, h1, fun j u hu => ?_, h3⟩
   have := h2 j u hu
   rw [List.getElem?_append_left (List.getElem?_eq_some_iff.1 this).1]
   exact this
 · rw [List.getElem?_append_right hi] at hx
   obtain ⟨l, h1, h2, h3⟩ := k.2 _ x hx
   refine ⟨l, h1, fun j u hu => ?_, h3⟩
   have h4 := h2 j u hu
   have h5 : i * size + j = rows.length + ((i - xs.length) * size + j) := by
    rw [h.1]
    obtain ⟨d, rfl⟩ := Nat.exists_eq_add_of_le hi
    rw [Nat.add_sub_cancel_left, Nat.add_mul]; omega
   rw [h5, List.getElem?_append_right (Nat.le_add_right _ _), Nat.add_sub_cancel_left]
   exact h4
theorem RowsE.oneCell (h : RowsE size E w rows xs) (hsz : 0 < size) (hE : ∀ l x, E w l x → ∀ u ∈ l, u.oneCell' = true) : ∀ u ∈ rows, u.oneCell' = true := by
 intro u hu
 obtain ⟨j, hj, rfl⟩ := List.mem_iff_getElem.1 hu
 have hi : j / size < xs.length := by
  apply (Nat.div_lt_iff_lt_mul hsz).2
  rw [← h.1]; exact hj
 obtain ⟨l, h1, h2, h3⟩ := h.2 (j / size) xs[j / size] (List.getElem?_eq_getElem hi)
 have hm : j % size < l.length := by rw [h1]; exact Nat.mod_lt _ hsz
 have h4 := h2 (j % size) l[j % size] (List.getElem?_eq_getElem hm)
 have h5 : j / size * size + j % size = j := by rw [Nat.mul_comm]; exact Nat.div_add_mod _ _
 rw [h5, List.getElem?_eq_getElem hj] at h4
 injection h4 with h4
 rw [h4]
 exact hE l _ h3 _ (List.getElem_mem hm)

/-- An owned row that reads as xs is a slice of xs. -/
theorem own_slice {base : Nat} {e : TypeId} {v : Value} {n : Nat} (h : w.ownsRow base e size v n rows) (k : RowsE size E w rows xs) (hn : n = xs.length) : SliceR (From base) size E w v xs := by
 subst hn
 obtain ⟨h1, ⟨rfl, h0⟩ | ⟨g, cap, cur, rfl, hb, hc, h2, h3, h4, h5⟩⟩ := h
 · have : xs = [] := List.eq_nil_of_length_eq_zero h0
   subst this
   exact SliceR.nil_ 0 (Nat.zero_le _) none
 · have hblk : Blk w g e cur := hc
   refine ⟨_, cap, rfl, h2, h3, fun _ => ⟨g, 0, rfl, hblk.lt, hb, fun i x hx => ?_⟩⟩
   obtain ⟨l, k1, k2, k3⟩ := k.2 i x hx
   refine ⟨l, k1, fun j u hu => ?_, k3⟩
   have h6 := k2 j u hu
   rw [← h5, List.getElem?_take] at h6
   split at h6
   · rw [hblk.cell, Nat.zero_add]
     simpa using h6
   · cases h6

theorem addr_add (b o j : Nat) : (⟨b, o, none⟩ : Addr).add j = ⟨b, o + j, none⟩ := by unfold Addr.add; split <;> simp_all
/-- The cells of a slice, as values. -/
theorem SliceR.rows_ {S : Nat → Prop} {A : Option Addr} {n c : Nat} (h : SliceR S size E w (.slice A n c) xs) (h0 : 0 < n) (hsz : 0 < size) :
 ∃ (b off : Nat) (rows : List Value), A = some ⟨b, off, none⟩ ∧ b < w.heap.size ∧ S b ∧ n = xs.length ∧ rows.length = n * size ∧ RowsE size E w rows xs ∧ ∀ j u, rows[j]? = some u → w.cell? ⟨b, off + j, none⟩ = some u := by
 obtain ⟨A', c', hv, h1, h2, h3⟩ := h
 injection hv with hA hn hc
 subst hA; subst hn; subst hc
 obtain ⟨b, off, ha, hb, hs, hcell⟩ := h3 h0
 have key : ∀ j, j < xs.length * size → ∃ u, w.cell? ⟨b, off + j, none⟩ = some u := by
  intro j hj
  have hi : j / size < xs.length := (Nat.div_lt_iff_lt_mul hsz).2 hj
  obtain ⟨l, k1, k2, _⟩ := hcell (j / size) xs[j / size] (List.getElem?_eq_getElem hi)
  have hm : j % size < l.length := by rw [k1]; exact Nat.mod_lt _ hsz
  have := k2 (j % size) l[j % size] (List.getElem?_eq_getElem hm)
  have h5 : j / size * size + j % size = j := by rw [Nat.mul_comm]; exact Nat.div_add_mod _ _
  rw [h5] at this
  exact ⟨_, this⟩
 obtain ⟨rows, hl, hr⟩ := choose_rows (fun j (u : Value) => w.cell? ⟨b, off + j, none⟩ = some u) (xs.length * size) 0 (fun j hj => by rw [Nat.zero_add]; exact key j hj)
 refine ⟨b, off, rows, ha, hb, hs, rfl, hl, ⟨hl, fun i x hx => ?_⟩, fun j u hu => by have := hr j u hu; rwa [Nat.zero_add] at this⟩
 obtain ⟨l, k1, k2, k3⟩ := hcell i x hx
 refine ⟨l, k1, fun j u hu => ?_, k3⟩
 have hj : j < size := by rw [← k1]; exact (List.getElem?_eq_some_iff.1 hu).1
 have hi : i < xs.length := (List.getElem?_eq_some_iff.1 hx).1
 have hlt : i * size + j < rows.length := by
  rw [hl]
  calc i * size + j < i * size + size := by omega
   _ = (i + 1) * size := by rw [Nat.add_mul, Nat.one_mul]
   _ ≤ xs.length * size := Nat.mul_le_mul_right _ hi
 have h6 := hr (i * size + j) _ (List.getElem?_eq_getElem hlt)
 rw [Nat.zero_add, k2 j u hu] at h6
 rw [List.getElem?_eq_getElem hlt, h6]
end

theorem TermE.oneCell {w : World} (l : List Value) (x : GT) (h : TermE w l x) : ∀ u ∈ l, u.oneCell' = true := by
 obtain ⟨rfl, _⟩ := h; intro u hu; simp at hu; rcases hu with rfl | rfl <;> rfl
theorem AtomE.oneCell {S : Nat → Prop} {w : World} (l : List Value) (x : GA) (h : AtomE S w l x) : ∀ u ∈ l, u.oneCell' = true := by
 obtain ⟨v, rfl, _, ht⟩ := h
 obtain ⟨A, c, rfl, _⟩ := SliceR.form ht
 intro u hu; simp at hu; rcases hu with rfl | rfl <;> rfl

end Go.Proofs.YtmihponoillihaaGreatDoor

namespace Go.Proofs.YtmihponoillihaaGreatDoor
open Go.RowKit

theorem maxOf {n : Nat} (h : n ≤ 1000000000) : n ≤ maxLen := by unfold maxLen; omega
abbrev None : Nat → Prop := fun _ => False

/-- What an element is: its cells, and how they are held. -/
structure Kind (α : Type) where
 size : Nat
 E : (Nat → Prop) → World → List Value → α → Prop
 pos : 0 < size
 imp : ∀ {S S' : Nat → Prop} {w w' : World} {cs : List Value} {x : α}, E S w cs x → (∀ b, S b → b < w.heap.size → S' b) → Agree S w w' → w.heap.size ≤ w'.heap.size → E S' w' cs x
 one : ∀ {S : Nat → Prop} {w : World} {l : List Value} {x : α}, E S w l x → ∀ u ∈ l, u.oneCell' = true
 len : ∀ {S : Nat → Prop} {w : World} {l : List Value} {x : α}, E S w l x → l.length = size

theorem SliceR.impL {α : Type} {S S' : Nat → Prop} {size : Nat} {E E' : World → List Value → α → Prop} {w w' : World} {v : Value} {xs : List α}
 (hE : ∀ cs x, x ∈ xs → E w cs x → E' w' cs x) (hS : ∀ b, S b → b < w.heap.size → S' b) (h : SliceR S size E w v xs) (he : Agree S w w') (hsz : w.heap.size ≤ w'.heap.size) : SliceR S' size E' w' v xs := by
 obtain ⟨A, c, hv, h1, h2, h3⟩ := h
 refine ⟨A, c, hv, h1, h2, fun h0 => ?_⟩
 obtain ⟨b, off, ha, hb, hs, hc⟩ := h3 h0
 refine ⟨b, off, ha, Nat.lt_of_lt_of_le hb hsz, hS b hs hb, fun i x hx => ?_⟩
 obtain ⟨cs, hl, hcs, hEx⟩ := hc i x hx
 exact ⟨cs, hl, fun j u hu => (World.cell?_of_block (w := w) (a := ⟨b, _, none⟩) (he b hs hb)).trans (hcs j u hu), hE _ _ (List.mem_of_getElem? hx) hEx⟩

/-- A slice value that reads as xs. -/
def ListK {α : Type} (k : Kind α) (S : Nat → Prop) (w : World) (v : Value) (xs : List α) : Prop := SliceR S k.size (k.E S) w v xs

section
variable {α : Type} {k : Kind α} {S S' : Nat → Prop} {w w' : World} {v : Value} {xs : List α}
theorem ListK.imp (h : ListK k S w v xs) (hS : ∀ b, S b → b < w.heap.size → S' b) (he : Agree S w w') (hsz : w.heap.size ≤ w'.heap.size) : ListK k S' w' v xs :=
 SliceR.impL (fun _ _ _ h => k.imp h hS he hsz) hS h he hsz
theorem ListK.ext (h : ListK k S w v xs) (he : Ext w w') : ListK k S w' v xs := h.imp (fun _ h _ => h) (.of_ext he) he.size
theorem ListK.sub (h : ListK k S w v xs) (hS : ∀ b, S b → S' b) : ListK k S' w v xs := h.imp (fun b hb _ => hS b hb) (.refl _ _) (Nat.le_refl _)
/-- Only its elements matter. -/
def ElemsK (k : Kind α) (S : Nat → Prop) (w : World) (v : Value) (xs : List α) : Prop := SliceR Any k.size (k.E S) w v xs
theorem ListK.elems (h : ListK k S w v xs) : ElemsK k S w v xs := SliceR.impL (fun _ _ _ h => h) (fun _ _ _ => trivial) h (.refl _ _) (Nat.le_refl _)
theorem ListK.nil (c : Nat) (hc : c ≤ maxLen) (A : Option Addr) : ListK k S w (.slice A 0 c) [] := SliceR.nil_ c hc A
theorem ElemsK.ext (h : ElemsK k S w v xs) (he : Ext w w') : ElemsK k S w' v xs := SliceR.impL (fun _ _ _ h => k.imp h (fun _ h _ => h) (.of_ext he) he.size) (fun _ _ _ => trivial) h (.of_ext he) he.size
/-- One element, laid down by itself. -/
theorem ElemsK.one {g : Nat} {t : TypeId} {l : List Value} {x : α} (hb : Blk w g t l.toArray) (h : k.E S w l x) : ElemsK k S w (.slice (some ⟨g, 0, none⟩) 1 1) [x] := by
 refine ⟨_, 1, rfl, Nat.le_refl _, by unfold maxLen; omega, fun _ => ⟨g, 0, rfl, hb.lt, trivial, fun i y hy => ?_⟩⟩
 cases i with
 | zero =>
   simp at hy; subst hy
   refine ⟨l, k.len h, fun j u hu => ?_, h⟩
   rw [hb.cell]
   simpa using hu
 | succ i => simp at hy
end

/-- An own slice (from block base on), whose elements lie in S, and not in its own block. -/
def OwnK {α : Type} (k : Kind α) (base : Nat) (e : TypeId) (S : Nat → Prop) (w : World) (v : Value) (xs : List α) : Prop :=
 ∃ rows T, w.ownsRow base e k.size v xs.length rows ∧ RowsE k.size (k.E T) w rows xs ∧ (∀ b, T b → S b ∧ b < w.heap.size) ∧ ∀ g, v.ownBlock = some g → ¬ T g

section
variable {α : Type} {k : Kind α} {S S' : Nat → Prop} {w w' : World} {v : Value} {xs ys : List α} {base : Nat} {e : TypeId}
theorem OwnK.form (h : OwnK k base e S w v xs) : ∃ A c, v = .slice A xs.length c ∧ xs.length ≤ c ∧ c ≤ 9223372036854775807 := by
 obtain ⟨rows, T, h1, _⟩ := h
 rcases h1.2 with ⟨rfl, h0⟩ | ⟨g, cap, cur, rfl, _, _, h2, h3, _⟩
 · exact ⟨none, 0, by rw [h0], by omega, by omega⟩
 · exact ⟨_, _, rfl, h2, h3⟩
theorem OwnK.form2 (h : OwnK k base e S w v xs) : ∃ A n c, v = .slice A n c ∧ Hid (n = xs.length) ∧ n ≤ c ∧ c ≤ 9223372036854775807 := by
 obtain ⟨A, c, h1, h2, h3⟩ := h.form
 exact ⟨A, _, c, h1, Lib.hid rfl, h2, h3⟩
theorem OwnK.nil : OwnK k base e S w (.slice none 0 0) [] := ⟨[], fun _ => False, World.ownsRow_nil _ _ _ _, RowsE.nil, fun _ h => h.elim, fun _ _ h => h⟩
theorem OwnK.empty {g : Nat} (hg : g = w.heap.size) (hb : base ≤ g) : OwnK k base e S (w.alloc (.cells #[] e)) (.slice (some ⟨g, 0, none⟩) 0 0) ([] : List α) := by
 subst hg
 refine ⟨[], fun _ => False, ⟨by simp, .inr ⟨w.heap.size, 0, #[], rfl, hb, Blk.new w e #[], Nat.le_refl _, Nat.zero_le _, by simp, by simp⟩⟩, RowsE.nil, fun _ h => h.elim, fun _ _ h => h⟩
theorem OwnK.at_ (h : OwnK k base e S w v xs) : ∀ g, v.ownBlock = some g → base ≤ g ∧ g < w.heap.size := by
 obtain ⟨rows, T, h1, _⟩ := h
 exact h1.lt
theorem OwnK.agree (h : OwnK k base e S w v xs) (h1 : Agree S w w') (h2 : ∀ g, v.ownBlock = some g → w'.heap[g]? = w.heap[g]?) (hsz : w.heap.size ≤ w'.heap.size) : OwnK k base e S w' v xs := by
 obtain ⟨rows, T, k1, k2, k3, k4⟩ := h
 refine ⟨rows, T, ⟨k1.1, ?_⟩, k2.mono (fun l x _ hx => k.imp hx (fun _ h _ => h) (fun b hb hlt => h1 b (k3 b hb).1 hlt) hsz), fun b hb => ⟨(k3 b hb).1, Nat.lt_of_lt_of_le (k3 b hb).2 hsz⟩, k4⟩
 rcases k1.2 with h0 | ⟨g, cap, cur, rfl, hb, hc, h3⟩
 · exact .inl h0
 · exact .inr ⟨g, cap, cur, rfl, hb, (h2 g rfl).trans hc, h3⟩
theorem OwnK.ext (h : OwnK k base e S w v xs) (he : Ext w w') : OwnK k base e S w' v xs :=
 h.agree (.of_ext he) (fun g hg => he.block g (h.at_ g hg).2) he.size
theorem OwnK.drew (h : OwnK k base e S w v xs) : OwnK k base e S w.drew v xs := h.ext (Ext.refl _).drew
theorem OwnK.alloc (h : OwnK k base e S w v xs) (o : Obj) : OwnK k base e S (w.alloc o) v xs := h.ext ((Ext.refl _).alloc o)
theorem OwnK.set (h : OwnK k base e S w v xs) {p : Addr} (hp : p.block < base) (hS : ¬ S p.block) (u : Value) : OwnK k base e S (w.setCell p u) v xs :=
 h.agree ((Agree.refl _ _).setCell hS u) (fun g hg => Below.heap_setCell w p u g (by have := (h.at_ g hg).1; omega)) (by go_size)
theorem OwnK.sub (h : OwnK k base e S w v xs) {base' : Nat} (hb : base' ≤ base) (hS : ∀ b, S b → S' b) : OwnK k base' e S' w v xs := by
 obtain ⟨rows, T, k1, k2, k3, k4⟩ := h
 refine ⟨rows, T, ⟨k1.1, ?_⟩, k2, fun b hb => ⟨hS b (k3 b hb).1, (k3 b hb).2⟩, k4⟩
 rcases k1.2 with h0 | ⟨g, cap, cur, rfl, hbb, hc, h3⟩
 · exact .inl h0
 · exact .inr ⟨g, cap, cur, rfl, Nat.le_trans hb hbb, hc, h3⟩
theorem OwnK.list (h : OwnK k base e S w v xs) (hS : ∀ b, S b → S' b) (hS' : ∀ b, base ≤ b → S' b) : ListK k S' w v xs := by
 obtain ⟨rows, T, k1, k2, k3, k4⟩ := h
 have h1 := own_slice (E := k.E S') (xs := xs) k1 (k2.mono (fun l x _ hx => k.imp hx (fun b hb _ => hS b (k3 b hb).1) (.refl _ _) (Nat.le_refl _))) rfl
 exact SliceR.impL (fun _ _ _ h => h) (fun b hb _ => hS' b hb) h1 (.refl _ _) (Nat.le_refl _)
end

section
variable {α : Type} {k : Kind α} {S T : Nat → Prop} {v : Value} {xs ys : List α} {base : Nat} {e : TypeId}
theorem run_append_of_nil {P : Program} (w : World) (base : Nat) (t ty e : TypeId) (i : TypeInfo) (size : Nat) (ht : P.underlying t = some (.slice e)) (hi : P.info? e = some i)
 (v : Value) (n : Nat) (xs : List Value) (hown : w.ownsRow base e size v n xs) (c : Nat) : (Builtin.append_ #[t, t] ty #[v, .slice none 0 c]).run P w = .ok v w := by
 rcases hown.2 with ⟨rfl, rfl⟩ | ⟨g, cap, cur, rfl, _, _, hnc, _⟩
 · simp [Builtin.append_, run_underlying ht, sizeOf, typeInfo, hi, Builtin.lenOf, Builtin.firstCells]
 · simp [Builtin.append_, run_underlying ht, sizeOf, typeInfo, hi, Builtin.lenOf, Builtin.firstCells, hnc, storeCells]

/-- What an append leaves. -/
structure Apped (k : Kind α) (base : Nat) (e : TypeId) (S : Nat → Prop) (w : World) (v : Value) (zs : List α) (v' : Value) (w' : World) : Prop where
 own : OwnK k base e S w' v' zs
 below : Below base w w'
 grown : w.grownBy w' v.ownBlock
 at_ : v'.ownBlock = v.ownBlock ∨ v'.ownBlock = some w.heap.size

theorem Apped.toExt {w0 w w' : World} {v v' : Value} {zs : List α} (h : Apped k base e S w v zs v' w') (hx : Ext w0 w) (hb : w0.heap.size ≤ base) : Ext w0 w' := Below.trans hx (h.below.mono hb)
theorem grown_below {w w' : World} {row : Option Nat} (h : w.grownBy w' row) (hr : ∀ g, row = some g → base ≤ g) (hb : base ≤ w.heap.size) : Below base w w' :=
 ⟨h.os, h.tape, h.output, h.size, fun i hi => h.block i (Nat.lt_of_lt_of_le hi hb) (fun e => by have := hr i e.symm; omega)⟩

theorem run_appK {P : Program} (w : World) (t ty : TypeId) (i : TypeInfo) (z : Value) (bytes : Nat) (ht : P.underlying t = some (.slice e)) (hi : P.info? e = some i) (hz : i.zero = some z)
 (hsize : i.size = k.size) (hby : i.bytes = bytes) (hzs : z.cells.size = k.size)
 (hown : OwnK k base e S w v xs) (A : Option Addr) (m c : Nat) (hu : ElemsK k T w (.slice A m c) ys) (hT : ∀ b, T b → b < w.heap.size → S b) (hTv : ∀ g, v.ownBlock = some g → ¬ T g)
 (h63 : xs.length + m ≤ maxLen) (hbytes : (xs.length + m) * bytes ≤ 140737488355328) (hbase : base ≤ w.heap.size) :
 ∃ v' w', (Builtin.append_ #[t, t] ty #[v, .slice A m c]).run P w = .ok v' w' ∧ Apped k base e S w v (xs ++ ys) v' w' := by
 obtain ⟨rows, U, k1, k2, k3, k4⟩ := id hown
 have hlt := k1.lt
 by_cases hm : m = 0
 · subst hm
   have hys : ys = [] := by
    obtain ⟨A', c', hv, _⟩ := hu
    injection hv with _ hn _
    exact List.eq_nil_of_length_eq_zero hn.symm
   subst hys
   rw [List.append_nil]
   rcases A with _ | ad
   · exact ⟨v, w, run_append_of_nil w base t ty e i k.size ht hi v _ rows k1 c, hown, Below.refl _ _, World.grownBy.refl w _, .inl rfl⟩
   · obtain ⟨v', w', hr, h1, h2, h3, h4⟩ := run_append_own_at (P := P) w base t ty e i z k.size bytes ht hi hz hsize hby hzs k.pos v xs.length rows k1 ad 0 c [] (by simp) (by simp) (by simp) h63 hbytes hbase
     have hb := grown_below h2 (fun g hg => (hlt g hg).1) hbase
     rw [Nat.add_zero, List.append_nil] at h1
     refine ⟨v', w', hr, ⟨rows, U, h1, k2.mono (fun l x _ hx => k.imp hx (fun _ h _ => h) (fun b hb hlt' => h2.block b hlt' (fun e => k4 b e.symm hb)) h2.size), fun b hb => ⟨(k3 b hb).1, Nat.lt_of_lt_of_le (k3 b hb).2 h2.size⟩, fun g hg hU => ?_⟩, hb, h2, h4⟩
     rcases h4 with h4 | h4
     · exact k4 g (h4 ▸ hg) hU
     · rw [h4] at hg; injection hg with hg; have := (k3 g hU).2; omega
 · obtain ⟨b, off, news, rfl, hb, _, hn, hl, hrow, hcell⟩ := SliceR.rows_ hu (by omega) k.pos
   obtain ⟨v', w', hr, h1, h2, h3, h4⟩ := run_append_own_at (P := P) w base t ty e i z k.size bytes ht hi hz hsize hby hzs k.pos v xs.length rows k1 ⟨b, off, none⟩ m c news hl (fun j u hj => by rw [addr_add]; exact hcell j u hj)
    (hrow.oneCell k.pos (fun l x hx => k.one hx)) h63 hbytes hbase
   have hbl := grown_below h2 (fun g hg => (hlt g hg).1) hbase
   refine ⟨v', w', hr, ⟨rows ++ news, fun b => (U b ∨ T b) ∧ b < w.heap.size, by rw [List.length_append, ← hn]; exact h1, ?_, fun b hb => ⟨?_, Nat.lt_of_lt_of_le hb.2 h2.size⟩, fun g hg hU => ?_⟩, hbl, h2, h4⟩
   · exact (k2.mono (E' := k.E (fun b => (U b ∨ T b) ∧ b < w.heap.size)) (w' := w') (fun l x _ hx => k.imp hx (fun b hb hlt => ⟨.inl hb, hlt⟩) (fun b hb hlt' => h2.block b hlt' (fun e => k4 b e.symm hb)) h2.size)).append
       (hrow.mono (fun l x _ hx => k.imp hx (fun b hb hlt => ⟨.inr hb, hlt⟩) (fun b hb hlt' => h2.block b hlt' (fun e => hTv b e.symm hb)) h2.size))
   · rcases hb.1 with hb' | hb'
     · exact (k3 b hb').1
     · exact hT b hb' hb.2
   · rcases h4 with h4 | h4
     · rw [h4] at hg
       rcases hU.1 with hU' | hU'
       · exact k4 g hg hU'
       · exact hTv g hg hU'
     · rw [h4] at hg; injection hg with hg; have := hU.2; omega

theorem wp_appK {P : Program} (w : World) {o : Oper} {a : Act} {K : Act → World → Prop} {Q : Exit → Act → World → Prop} (s x : Operand) (t : TypeId)
 (ho : o.op = .call { callee := .builtin .append, args := #[s, x], argTypes := #[t, t] })
 (i : TypeInfo) (z : Value) (bytes : Nat) (ht : P.underlying t = some (.slice e)) (hi : P.info? e = some i) (hz : i.zero = some z)
 (hsize : i.size = k.size) (hby : i.bytes = bytes) (hzs : z.cells.size = k.size)
 (hs : a.eval s = v) (hown : OwnK k base e S w v xs) (A : Option Addr) (m c : Nat) (hx : a.eval x = .slice A m c) (hu : ElemsK k T w (.slice A m c) ys) (hT : ∀ b, T b → b < w.heap.size → S b) (hTv : ∀ g, v.ownBlock = some g → ¬ T g)
 (h63 : xs.length + m ≤ maxLen) (hbytes : (xs.length + m) * bytes ≤ 140737488355328) (hbase : base ≤ w.heap.size)
 (h : ∀ v' w', Apped k base e S w v (xs ++ ys) v' w' → K (a.put o.dst v') w') : o.wp P a w K Q := by
 obtain ⟨v', w', hr, h2⟩ := run_appK (P := P) w t o.type i z bytes ht hi hz hsize hby hzs hown A m c hu hT hTv h63 hbytes hbase
 unfold Oper.wp execOp
 simp only [ho, resolve, invoke, builtin, Sem.run_bind, Sem.run_pure, Result.andThen_ok, List.map_toArray, List.map_cons, List.map_nil, hs, hx, hr]
 exact h v' w' h2

theorem wpList_appK {P : Program} {w : World} {ops : Array Oper} {rest : List Oper} {o : Oper} {a : Act} {Q : Exit → Act → World → Prop} (hgd : o.guard = none) (s x : Operand) (t : TypeId)
 (ho : o.op = .call { callee := .builtin .append, args := #[s, x], argTypes := #[t, t] })
 (i : TypeInfo) (z : Value) (bytes : Nat) (ht : P.underlying t = some (.slice e)) (hi : P.info? e = some i) (hz : i.zero = some z)
 (hsize : i.size = k.size) (hby : i.bytes = bytes) (hzs : z.cells.size = k.size)
 (hs : a.eval s = v) (hown : OwnK k base e S w v xs) (A : Option Addr) (m c : Nat) (hx : a.eval x = .slice A m c) (hu : ElemsK k T w (.slice A m c) ys) (hT : ∀ b, T b → b < w.heap.size → S b) (hTv : ∀ g, v.ownBlock = some g → ¬ T g)
 (h63 : xs.length + m ≤ maxLen) (hbytes : (xs.length + m) * bytes ≤ 140737488355328) (hbase : base ≤ w.heap.size)
 (h : ∀ v' w', Apped k base e S w v (xs ++ ys) v' w' → wpList P ops Q rest (a.put o.dst v') w') : wpList P ops Q (o :: rest) a w :=
 wpList_plain hgd fun _ hK => wp_appK w s x t ho i z bytes ht hi hz hsize hby hzs hs hown A m c hx hu hT hTv h63 hbytes hbase fun v' w' h2 => hK _ _ (h v' w' h2)

theorem step_appK {P : Program} {w : World} {ops : Array Oper} {o : Oper} {a : Act} {K : Act → World → Prop} {Q : Exit → Act → World → Prop} {E : Prop} (hgd : o.guard = none) (s x : Operand) (t : TypeId)
 (ho : o.op = .call { callee := .builtin .append, args := #[s, x], argTypes := #[t, t] })
 (i : TypeInfo) (z : Value) (bytes : Nat) (ht : P.underlying t = some (.slice e)) (hi : P.info? e = some i) (hz : i.zero = some z)
 (hsize : i.size = k.size) (hby : i.bytes = bytes) (hzs : z.cells.size = k.size)
 (hs : a.eval s = v) (hown : OwnK k base e S w v xs) (A : Option Addr) (m c : Nat) (hx : a.eval x = .slice A m c) (hu : ElemsK k T w (.slice A m c) ys) (hT : ∀ b, T b → b < w.heap.size → S b) (hTv : ∀ g, v.ownBlock = some g → ¬ T g)
 (h63 : xs.length + m ≤ maxLen) (hbytes : (xs.length + m) * bytes ≤ 140737488355328) (hbase : base ≤ w.heap.size)
 (h : ∀ v' w', Apped k base e S w v (xs ++ ys) v' w' → K (a.put o.dst v') w') :
 if Region.wanted o (yielded ops a.tmps) = true then Oper.wp P o a w K Q else E := by
 have hw : Region.wanted o (yielded ops a.tmps) = true := by simp [Region.wanted, hgd]
 rw [if_pos hw]
 exact wp_appK w s x t ho i z bytes ht hi hz hsize hby hzs hs hown A m c hx hu hT hTv h63 hbytes hbase h
end

section
variable {α : Type} {k : Kind α} {S T : Nat → Prop} {v : Value} {xs ys : List α} {base : Nat} {e : TypeId}
/-- The elements lie below the own blocks. -/
theorem step_appL {P : Program} {w : World} {ops : Array Oper} {o : Oper} {a : Act} {K : Act → World → Prop} {Q : Exit → Act → World → Prop} {E : Prop} (hgd : o.guard = none) (s x : Operand) (t : TypeId)
 (ho : o.op = .call { callee := .builtin .append, args := #[s, x], argTypes := #[t, t] })
 (i : TypeInfo) (z : Value) (bytes : Nat) (ht : P.underlying t = some (.slice e)) (hi : P.info? e = some i) (hz : i.zero = some z)
 (hsize : i.size = k.size) (hby : i.bytes = bytes) (hzs : z.cells.size = k.size)
 (hs : a.eval s = v) (hown : OwnK k base e S w v xs) (A : Option Addr) (m c : Nat) (hx : a.eval x = .slice A m c) (hu : ElemsK k T w (.slice A m c) ys) (hT : ∀ b, T b → S b ∧ b < base)
 (h63 : xs.length + m ≤ maxLen) (hbytes : (xs.length + m) * bytes ≤ 140737488355328) (hbase : base ≤ w.heap.size)
 (h : ∀ v' w', Apped k base e S w v (xs ++ ys) v' w' → K (a.put o.dst v') w') :
 if Region.wanted o (yielded ops a.tmps) = true then Oper.wp P o a w K Q else E :=
 step_appK hgd s x t ho i z bytes ht hi hz hsize hby hzs hs hown A m c hx hu (fun b hb _ => (hT b hb).1) (fun g hg hb => absurd (hown.at_ g hg).1 (Nat.not_le.2 (hT g hb).2)) h63 hbytes hbase h
theorem wpList_appL {P : Program} {w : World} {ops : Array Oper} {rest : List Oper} {o : Oper} {a : Act} {Q : Exit → Act → World → Prop} (hgd : o.guard = none) (s x : Operand) (t : TypeId)
 (ho : o.op = .call { callee := .builtin .append, args := #[s, x], argTypes := #[t, t] })
 (i : TypeInfo) (z : Value) (bytes : Nat) (ht : P.underlying t = some (.slice e)) (hi : P.info? e = some i) (hz : i.zero = some z)
 (hsize : i.size = k.size) (hby : i.bytes = bytes) (hzs : z.cells.size = k.size)
 (hs : a.eval s = v) (hown : OwnK k base e S w v xs) (A : Option Addr) (m c : Nat) (hx : a.eval x = .slice A m c) (hu : ElemsK k T w (.slice A m c) ys) (hT : ∀ b, T b → S b ∧ b < base)
 (h63 : xs.length + m ≤ maxLen) (hbytes : (xs.length + m) * bytes ≤ 140737488355328) (hbase : base ≤ w.heap.size)
 (h : ∀ v' w', Apped k base e S w v (xs ++ ys) v' w' → wpList P ops Q rest (a.put o.dst v') w') : wpList P ops Q (o :: rest) a w :=
 wpList_appK hgd s x t ho i z bytes ht hi hz hsize hby hzs hs hown A m c hx hu (fun b hb _ => (hT b hb).1) (fun g hg hb => absurd (hown.at_ g hg).1 (Nat.not_le.2 (hT g hb).2)) h63 hbytes hbase h
theorem Apped.blk2 {w w' : World} {v v' : Value} {zs : List α} {g : Nat} {t : TypeId} {cs : Array Value} (h : Apped k base e S w v zs v' w') (hb : Blk w g t cs) (hg : v.ownBlock ≠ some g) : Blk w' g t cs :=
 (h.grown.block g hb.lt (fun e => hg e.symm)).trans hb
theorem Blk.at_new {w : World} {g : Nat} {t : TypeId} {cs : Array Value} (hg : g = w.heap.size) : Blk (w.alloc (.cells cs t)) g t cs := by subst hg; exact Blk.new _ _ _
theorem ListK.low {w : World} (h : ListK k S w v xs) : ListK k (fun b => S b ∧ b < w.heap.size) w v xs := h.imp (fun _ hb hlt => ⟨hb, hlt⟩) (.refl _ _) (Nat.le_refl _)
theorem ElemsK.sub {w : World} (h : ElemsK k S w v xs) (hS : ∀ b, S b → b < w.heap.size → T b) : ElemsK k T w v xs := SliceR.impL (fun _ _ _ h => k.imp h hS (.refl _ _) (Nat.le_refl _)) (fun _ _ _ => trivial) h (.refl _ _) (Nat.le_refl _)
/-- A slice's head. -/
theorem SliceR.fst {size : Nat} {E : World → List Value → α → Prop} {w : World} {A : Option Addr} {n c : Nat} (h : SliceR S size E w (.slice A n c) xs) (j : Nat) (hj : j ≤ n) : SliceR S size E w (.slice A j c) (xs.take j) := by
 obtain ⟨A', c', hv, h1, h2, h3⟩ := h
 injection hv with hA hn hc
 subst hA; subst hn; subst hc
 have hl : (xs.take j).length = j := by rw [List.length_take]; omega
 refine ⟨A, c, by rw [hl], by omega, h2, fun h0 => ?_⟩
 obtain ⟨b, off, ha, hb, hs, hcell⟩ := h3 (by omega)
 exact ⟨b, off, ha, hb, hs, fun i x hx => hcell i x (by
  rw [List.getElem?_take] at hx
  split at hx
  · exact hx
  · cases hx)⟩
/-- A slice's tail. -/
theorem SliceR.drop {size : Nat} {E : World → List Value → α → Prop} {w : World} {A : Option Addr} {n c : Nat} (h : SliceR S size E w (.slice A n c) xs) (j : Nat) (hj : j ≤ n) : SliceR S size E w (.slice (if c = j then A else A.map (·.add (j * size))) (n - j) (c - j)) (xs.drop j) := by
 obtain ⟨A', c', hv, h1, h2, h3⟩ := h
 injection hv with hA hn hc
 subst hA; subst hn; subst hc
 refine ⟨_, c - j, by rw [List.length_drop], by rw [List.length_drop]; omega, by omega, fun h0 => ?_⟩
 rw [List.length_drop] at h0
 obtain ⟨b, off, rfl, hb, hs, hcell⟩ := h3 (by omega)
 refine ⟨b, off + j * size, by rw [if_neg (by omega)]; simp [addr_add], hb, hs, fun i x hx => ?_⟩
 rw [List.getElem?_drop] at hx
 obtain ⟨cs, k1, k2, k3⟩ := hcell (j + i) x hx
 refine ⟨cs, k1, fun q u hu => ?_, k3⟩
 have := k2 q u hu
 rwa [show off + ((j + i) * size + q) = off + j * size + (i * size + q) from by rw [Nat.add_mul]; omega] at this
end

/-! ### The kinds -/
theorem TermsR.impL {S S' : Nat → Prop} {w w' : World} {v : Value} {xs : List GT} (h : TermsR S w v xs) (hS : ∀ b, S b → b < w.heap.size → S' b) (he : Agree S w w') (hsz : w.heap.size ≤ w'.heap.size) : TermsR S' w' v xs :=
 SliceR.impL (E := TermE) (w := w) (fun _ _ _ h => h) hS h he hsz
def kTerm : Kind GT := ⟨2, fun _ => TermE, by decide, fun h _ _ _ => h, fun {_ w l x} h => TermE.oneCell (w := w) l x h, fun h => by obtain ⟨rfl, _⟩ := h; rfl⟩
def kAtom : Kind GA := ⟨2, AtomE, by decide, fun h hS he hsz => by obtain ⟨v, h1, h2, h3⟩ := h; exact ⟨v, h1, h2, h3.impL hS he hsz⟩, fun {_ _ l x} h => AtomE.oneCell l x h, fun h => by obtain ⟨v, rfl, _⟩ := h; rfl⟩
/-- Texts. -/
def StrE (_ : World) (cs : List Value) (s : ByteArray) : Prop := cs = [.string s] ∧ s.size ≤ maxLen
def StrsR (S : Nat → Prop) : World → Value → List ByteArray → Prop := SliceR S 1 StrE
theorem StrsR.at_ {S : Nat → Prop} {w : World} {A : Option Addr} {n c : Nat} {xs : List ByteArray} (h : StrsR S w (.slice A n c) xs) {k : Nat} (hk : k < n) :
 ∃ (b off : Nat) (x : ByteArray), A = some ⟨b, off, none⟩ ∧ b < w.heap.size ∧ xs[k]? = some x ∧ x.size ≤ maxLen ∧ w.cell? ⟨b, off + k, none⟩ = some (.string x) := by
 obtain ⟨b, off, x, cs, hA, hb, hx, _, hc, rfl, hs⟩ := SliceR.at_ h hk
 exact ⟨b, off, x, hA, hb, hx, hs, by simpa using hc 0 _ rfl⟩
theorem StrsR.imp {S S' : Nat → Prop} {w w' : World} {v : Value} {xs : List ByteArray} (h : StrsR S w v xs) (hS : ∀ b, S b → S' b) (he : Agree S w w') (hsz : w.heap.size ≤ w'.heap.size) : StrsR S' w' v xs :=
 SliceR.imp (E := StrE) (w := w) (fun _ _ _ h => h) hS h he hsz

theorem StrsR.ext {S : Nat → Prop} {w w' : World} {v : Value} {xs : List ByteArray} (h : StrsR S w v xs) (he : Ext w w') : StrsR S w' v xs := h.imp (fun _ h => h) (.of_ext he) he.size
def kStr : Kind ByteArray := ⟨1, fun _ => StrE, by decide, fun h _ _ _ => h, fun h => by obtain ⟨rfl, _⟩ := h; intro u hu; simp at hu; subst hu; rfl, fun h => by obtain ⟨rfl, _⟩ := h; rfl⟩
end Go.Proofs.YtmihponoillihaaGreatDoor

namespace Go.Proofs.YtmihponoillihaaGreatDoor
open Go.RowKit

/-- The places not listed yet. -/
def unlisted (n : Nat) (listed : Array Bool) : List Nat := (List.range n).filter fun i => !listed.getD i true

theorem filter_len_lt {α : Type} {p q : α → Bool} : ∀ {l : List α} {x : α}, (∀ y ∈ l, q y = true → p y = true) → x ∈ l → p x = true → q x = false → (l.filter q).length < (l.filter p).length
 | [], x, _, hx, _, _ => by cases hx
 | y :: l, x, h, hx, hp, hq => by
   have hle : (l.filter q).length ≤ (l.filter p).length := by
    clear hx
    induction l with
    | nil => simp
    | cons z l ih =>
      have h1 := ih (fun y hy => h y (by
       rcases List.mem_cons.1 hy with rfl | hy
       · exact List.mem_cons_self
       · exact List.mem_cons_of_mem _ (List.mem_cons_of_mem _ hy)))
      have h2 := h z (by simp)
      cases hqz : q z <;> cases hpz : p z <;> simp [List.filter_cons, hqz, hpz] at h2 ⊢ <;> omega
   rcases List.mem_cons.1 hx with rfl | hx
   · simp [List.filter_cons, hp, hq]; omega
   · have h1 := filter_len_lt (l := l) (fun y hy => h y (List.mem_cons_of_mem _ hy)) hx hp hq
     have h2 := h y List.mem_cons_self
     cases hqz : q y <;> cases hpz : p y <;> simp [List.filter_cons, hqz, hpz] at h2 ⊢ <;> omega

section
variable {P : Program} {ops : Array Oper} {Q : Exit → Act → World → Prop} {md : Region.Mode}

/-- An invariant over what is listed: at a step the operation's own 'after's are listed; at the end all are. -/
theorem wpAny_inv (I : (Nat → Bool) → Act → World → Prop)
 (hac : ∀ i o, ops[i]? = some o → ∀ e ∈ o.after, Region.binds md e = true → e.on < i)
 (hstep : ∀ i o f a w, ops[i]? = some o → f i = false → (∀ e ∈ o.after, Region.binds md e = true → f e.on = true) → I f a w →
  wpOp P ops Q i (I (fun j => j == i || f j)) a w)
 (hend : ∀ f a w, (∀ i, i < ops.size → f i = true) → I f a w → Q .normal a w) :
 ∀ (fuel : Nat) (listed : Array Bool) (a : Act) (w : World), listed.size = ops.size → (unlisted ops.size listed).length ≤ fuel → I (fun j => listed.getD j false) a w →
   wpAny P md ops Q fuel listed a w := by
 have hall : ∀ listed : Array Bool, listed.size = ops.size → Region.ready md ops listed = [] → ∀ i, i < ops.size → listed.getD i false = true := by
  intro listed hsz hr i
  induction i using Nat.strongRecOn with
  | ind i ih =>
    intro hi
    cases hl : listed.getD i false with
    | true => rfl
    | false =>
      exfalso
      have hlt : i < listed.size := by omega
      have : i ∈ Region.ready md ops listed := by
       rw [mem_ready]
       refine ⟨by simpa [hlt] using hl, ops[i], by simp [hi], fun e he hb => ?_⟩
       have h1 := hac i ops[i] (by simp [hi]) e he hb
       exact ih _ h1 (by omega)
      rw [hr] at this; cases this
 intro fuel
 induction fuel with
 | zero =>
   intro listed a w hsz hfu hI
   have hr : Region.ready md ops listed = [] := by
    cases hr : Region.ready md ops listed with
    | nil => rfl
    | cons i rest =>
      exfalso
      have hi : i ∈ Region.ready md ops listed := by rw [hr]; exact List.mem_cons_self
      have hi2 := mem_ready.1 hi
      have : i ∈ unlisted ops.size listed := by
       unfold unlisted
       obtain ⟨h0, o, ho, _⟩ := hi2
       have hlt : i < ops.size := (Array.getElem?_eq_some_iff.1 ho).1
       rw [List.mem_filter, List.mem_range]; exact ⟨hlt, by simpa using h0⟩
      have hn : unlisted ops.size listed = [] := List.eq_nil_of_length_eq_zero (by omega)
      rw [hn] at this; cases this
   exact ⟨hr, hend _ a w (hall listed hsz hr) hI⟩
 | succ fuel ih =>
   intro listed a w hsz hfu hI
   refine ⟨fun hr => hend _ a w (hall listed hsz hr) hI, fun i hi => ?_⟩
   obtain ⟨h0, o, ho, haf⟩ := mem_ready.1 hi
   have hlt : i < ops.size := (Array.getElem?_eq_some_iff.1 ho).1
   have hlt' : i < listed.size := by omega
   have h1 := hstep i o _ a w ho (by simpa [hlt'] using h0) haf hI
   refine wpOp_mono (fun a' w' h => ih _ a' w' (by simpa using hsz) ?_ ?_) h1
   · have := filter_len_lt (l := List.range ops.size) (p := fun j => !listed.getD j true) (q := fun j => !(listed.setIfInBounds i true).getD j true) (x := i)
       (fun y _ hy => by
        by_cases hiy : i = y
        · subst hiy; simp [hlt'] at hy
        · rw [getD_set_ne true hiy] at hy; exact hy)
       (List.mem_range.2 hlt) (by simpa using h0) (by simp [hlt'])
     unfold unlisted at hfu ⊢
     omega
   · have he : (fun j => (listed.setIfInBounds i true).getD j false) = fun j => j == i || listed.getD j false := by
       funext j
       by_cases hj : i = j
       · subst hj; simp [hlt']
       · rw [getD_set_ne false hj]; simp [show (j == i) = false by simpa using Ne.symm hj]
     rw [he]; exact h

/-- A drawn region by an invariant. -/
theorem wp_region_inv {id : Nat} {a : Act} {w : World} (hm : P.follows .mixedOrders = true) (I : (Nat → Bool) → Act → World → Prop)
 (hac : ∀ i o, ops[i]? = some o → ∀ e ∈ o.after, Region.binds .any e = true → e.on < i)
 (hstep : ∀ i o f a w, ops[i]? = some o → f i = false → (∀ e ∈ o.after, Region.binds .any e = true → f e.on = true) → I f a w →
  wpOp P ops Q i (I (fun j => j == i || f j)) a w)
 (hend : ∀ f a w, (∀ i, i < ops.size → f i = true) → I f a w → Q .normal a w)
 (hat : I (fun _ => false) a { w with drawn := w.drawn + 1 }) : (Code.region id ops true).wp P Q a w := by
 refine wp_region_any hm (wpAny_inv I hac hstep hend ops.size _ a _ (by simp) ?_ ?_)
 · unfold unlisted
   exact Nat.le_trans (List.length_filter_le _ _) (by simp)
 · have : (fun j => (Array.replicate ops.size false).getD j false) = fun _ => false := by
     funext j
     by_cases h : j < ops.size <;> simp [Array.getD, h]
   rw [this]; exact hat
end

/-- What is listed is closed. -/
def ClosedF (ops : Array Oper) (f : Nat → Bool) : Prop := ∀ j o, ops[j]? = some o → f j = true → ∀ e ∈ o.after, Region.binds .any e = true → f e.on = true

theorem wp_region_inv2 {P : Program} {ops : Array Oper} {Q : Exit → Act → World → Prop} {id : Nat} {a : Act} {w : World} (hm : P.follows .mixedOrders = true) (I : (Nat → Bool) → Act → World → Prop)
 (hac : ∀ i o, ops[i]? = some o → ∀ e ∈ o.after, Region.binds .any e = true → e.on < i)
 (hstep : ∀ i o f a w, ops[i]? = some o → f i = false → ClosedF ops f → (∀ e ∈ o.after, Region.binds .any e = true → f e.on = true) → I f a w →
  wpOp P ops Q i (I (fun j => j == i || f j)) a w)
 (hend : ∀ f a w, (∀ i, i < ops.size → f i = true) → I f a w → Q .normal a w)
 (hat : I (fun _ => false) a { w with drawn := w.drawn + 1 }) : (Code.region id ops true).wp P Q a w := by
 refine wp_region_inv hm (fun f a w => ClosedF ops f ∧ I f a w) hac ?_ (fun f a w h hI => hend f a w h hI.2) ⟨fun _ _ _ h => by simp at h, hat⟩
 intro i o f a w ho hfi haf hI
 refine wpOp_mono (fun a' w' h => ⟨fun j o' ho' hj e he hb => ?_, h⟩) (hstep i o f a w ho hfi hI.1 haf hI.2)
 by_cases hji : j = i
 · subst hji
   rw [ho] at ho'
   cases ho'
   simp [haf e he hb]
 · have hj' : f j = true := by simpa [hji] using hj
   simp [hI.1 j o' ho' hj' e he hb]

theorem wpOp_of {P : Program} {ops : Array Oper} {Q : Exit → Act → World → Prop} {i : Nat} {o : Oper} {K : Act → World → Prop} {a : Act} {w : World} (ho : ops[i]? = some o) (hg : o.guard = none) (h : o.wp P a w K Q) : wpOp P ops Q i K a w := by
 unfold wpOp
 simp only [ho]
 have hw : Region.wanted o (yielded ops a.tmps) = true := by simp [Region.wanted, hg]
 rw [if_pos hw]
 exact .inl h

/-- Slices of one kind that stand apart, by number. -/
abbrev Lot (α : Type) := Nat → Option (Value × List α)
def Lot.upd {α : Type} (L : Lot α) (i : Nat) (p : Value × List α) : Lot α := fun j => if j = i then some p else L j
def SepK {α : Type} (k : Kind α) (N : Nat) (e : TypeId) (w : World) (L : Lot α) : Prop :=
 (∀ i p, L i = some p → OwnK k N e None w p.1 p.2) ∧ ∀ i j p q, i ≠ j → L i = some p → L j = some q → ∀ g, p.1.ownBlock = some g → q.1.ownBlock ≠ some g

section
variable {α : Type} {k : Kind α} {N : Nat} {e : TypeId} {w w' : World} {L : Lot α}
theorem SepK.at_ (h : SepK k N e w L) {i : Nat} {v : Value} {xs : List α} (hi : L i = some (v, xs)) : OwnK k N e None w v xs := h.1 i _ hi
theorem SepK.none : SepK k N e w (fun _ => .none) := ⟨fun _ _ h => (by cases h), fun _ _ _ _ _ h => (by cases h)⟩
theorem SepK.ext (h : SepK k N e w L) (he : Ext w w') : SepK k N e w' L := ⟨fun i p hp => (h.1 i p hp).ext he, h.2⟩
theorem SepK.put (h : SepK k N e w L) (he : Ext w w') (i : Nat) {v : Value} {xs : List α} (hv : OwnK k N e None w' v xs) (hg : ∀ g, v.ownBlock = some g → w.heap.size ≤ g) : SepK k N e w' (L.upd i (v, xs)) := by
 have hlt : ∀ j q, L j = some q → ∀ g, q.1.ownBlock = some g → g < w.heap.size := fun j q hq g h2 => ((h.1 j q hq).at_ g h2).2
 refine ⟨fun j p hp => ?_, fun a b p q hab hp hq g h1 h2 => ?_⟩
 · unfold Lot.upd at hp
   split at hp
   · cases hp; exact hv
   · exact (h.1 j p hp).ext he
 · unfold Lot.upd at hp hq
   split at hp <;> split at hq
   · omega
   · cases hp; have := hg g h1; have := hlt b q hq g h2; omega
   · cases hq; have := hg g h2; have := hlt a p hp g h1; omega
   · exact h.2 a b p q hab hp hq g h1 h2
theorem SepK.app (h : SepK k N e w L) {i : Nat} {v v' : Value} {xs zs : List α} (hi : L i = some (v, xs)) (ha : Apped k N e None w v zs v' w') : SepK k N e w' (L.upd i (v', zs)) := by
 have hlt : ∀ j q, L j = some q → ∀ g, q.1.ownBlock = some g → g < w.heap.size := fun j q hq g h2 => ((h.1 j q hq).at_ g h2).2
 have hne : ∀ j q, j ≠ i → L j = some q → ∀ g, q.1.ownBlock = some g → v'.ownBlock ≠ some g := fun j q hji hq g h2 h3 => by
  rcases ha.at_ with h4 | h4
  · exact h.2 j i q _ hji hq hi g h2 (h4 ▸ h3)
  · rw [h4] at h3; cases h3; exact absurd (hlt j q hq _ h2) (Nat.lt_irrefl _)
 refine ⟨fun j p hp => ?_, fun a b p q hab hp hq g h1 h2 => ?_⟩
 · unfold Lot.upd at hp
   split at hp
   · cases hp; exact ha.own
   · rename_i hji
     refine (h.1 j p hp).agree (fun b hb => hb.elim) (fun g hg => ?_) ha.grown.size
     exact ha.grown.block g (hlt j p hp g hg) (fun e => h.2 j i p _ hji hp hi g hg e.symm)
 · unfold Lot.upd at hp hq
   split at hp <;> split at hq
   · omega
   · cases hp; exact hne b q (by omega) hq g h2 h1
   · cases hq; exact hne a p (by omega) hp g h1 h2
   · exact h.2 a b p q hab hp hq g h1 h2
end

theorem OwnK.word {N : Nat} {e : TypeId} {w : World} {x : ByteArray} (hb : N ≤ w.heap.size) (hx : x.size ≤ maxLen) :
 OwnK kStr N e None (w.alloc (.cells #[.string x] e)) (.slice (some ⟨w.heap.size, 0, none⟩) 1 1) [x] :=
 ⟨[.string x], fun _ => False, ⟨rfl, .inr ⟨w.heap.size, 1, #[.string x], rfl, hb, Blk.new w e _, Nat.le_refl _, by unfold maxLen; omega, rfl, rfl⟩⟩, RowsE.one rfl ⟨rfl, hx⟩, fun _ h => h.elim, fun _ _ h => h⟩

end Go.Proofs.YtmihponoillihaaGreatDoor
