/- Plain: what is left when memory is marked. No program in sight. -/
import Derived.Test.YthndnkafckapnaaGreatDoorOwnO
import Derived.Test.YthndnkafckapnaaGreatDoorText
import Derived.Lib.ItoaNum
namespace Go.Proofs.YthndnkafckapnaaGreatDoor
open Go.RowKit

/-- Only blocks of S have turned. -/
structure Inside (S : Nat → Prop) (w w' : World) : Prop where
  os : w'.os = w.os
  tape : w'.tape = w.tape
  output : w'.output = w.output
  size : w.heap.size ≤ w'.heap.size
  block : ∀ b, b < w.heap.size → ¬ S b → w'.heap[b]? = w.heap[b]?

section
variable {S T : Nat → Prop} {a b c : World}
theorem Inside.refl (S : Nat → Prop) (w : World) : Inside S w w := ⟨rfl, rfl, rfl, Nat.le_refl _, fun _ _ _ => rfl⟩
theorem Inside.of_ext (h : Ext a b) : Inside S a b := ⟨h.os, h.tape, h.output, h.size, fun k hk _ => h.block k hk⟩
theorem Inside.trans' (h : Inside S a b) (k : Inside S b c) : Inside S a c :=
  ⟨k.os.trans h.os, k.tape.trans h.tape, k.output.trans h.output, Nat.le_trans h.size k.size, fun i hi hn => (k.block i (Nat.lt_of_lt_of_le hi h.size) hn).trans (h.block i hi hn)⟩
theorem Inside.sub (h : Inside S a b) (hS : ∀ i, S i → i < a.heap.size → T i) : Inside T a b := ⟨h.os, h.tape, h.output, h.size, fun k hk hn => h.block k hk (fun hs => hn (hS k hs hk))⟩
theorem Inside.set (w : World) (p : Addr) (u : Value) (h : S p.block) : Inside S w (w.setCell p u) :=
  ⟨rfl, rfl, rfl, by simp [World.setCell], fun k _ hn => Below.heap_setCell w p u k (fun e => hn (e ▸ h))⟩
theorem Inside.toExt (h : Inside S b c) (hx : Ext a b) (hS : ∀ i, S i → a.heap.size ≤ i) : Ext a c :=
  ⟨h.os.trans hx.os, h.tape.trans hx.tape, h.output.trans hx.output, Nat.le_trans hx.size h.size, fun k hk => (h.block k (Nat.lt_of_lt_of_le hk hx.size) (fun hs => absurd (hS k hs) (Nat.not_le.2 hk))).trans (hx.block k hk)⟩
theorem Inside.agree (h : Inside S a b) : Agree (fun i => ¬ S i) a b := fun i hi hlt => h.block i hlt hi
theorem Inside.blk {g : Nat} {t : TypeId} {cs : Array Value} (h : Inside S a b) (hb : Blk a g t cs) (hg : ¬ S g) : Blk b g t cs := (h.block g hb.lt hg).trans hb
end

theorem frozen_set (w : World) (p a : Addr) (u : Value) : (w.setCell p u).frozen? a = w.frozen? a := by
  by_cases h : a.block = p.block
  · unfold World.frozen? World.setCell
    simp only [Array.getElem?_modify]
    by_cases hb : p.block = a.block
    · simp only [hb, if_true]
      cases w.heap[a.block]? with
      | none => rfl
      | some o => cases o <;> (try rfl) <;> (simp only [Option.map_some]; split <;> rfl)
    · exact absurd h.symm hb
  · exact World.frozen?_of_block (Below.heap_setCell w p u a.block h)

def mtext (k : Nat) : ByteArray := strOf (109 :: Lib.decDigits k)
def mTerm (k : Nat) : GT := ⟨((k : Int) % 3 == 0), mtext (k + 1)⟩
def mTerms (k n : Nat) : List GT := (List.range n).map fun i => mTerm (k + 2 * i)
theorem mTerms_len (k n : Nat) : (mTerms k n).length = n := by simp [mTerms]
theorem mTerms_at (k n i : Nat) (h : i < n) : (mTerms k n)[i]? = some (mTerm (k + 2 * i)) := by simp [mTerms, h]
theorem mTerms_succ (k i : Nat) : mTerms k (i + 1) = mTerms k i ++ [mTerm (k + 2 * i)] := by simp [mTerms, List.range_succ]
/-- The first i terms are marked. -/
theorem mTerms_step {xs : List GT} {k i : Nat} (h : i < xs.length) : (mTerms k i ++ xs.drop i).set i (mTerm (k + 2 * i)) = mTerms k (i + 1) ++ xs.drop (i + 1) := by
  have hl := mTerms_len k i
  rw [List.set_append_right _ _ (by omega), hl, Nat.sub_self, List.drop_eq_getElem_cons h, List.set_cons_zero, mTerms_succ, List.append_assoc]
  rfl
def costA (a : GA) : Nat := 1 + 2 * a.args.length
def costAs (l : List GA) : Nat := (l.map costA).sum
def mAtom (k : Nat) (a : GA) : GA := ⟨mtext k, mTerms (k + 1) a.args.length⟩
def mAtoms : Nat → List GA → List GA
  | _, [] => []
  | k, a :: l => mAtom k a :: mAtoms (k + costA a) l
theorem mAtoms_len : ∀ (k : Nat) (l : List GA), (mAtoms k l).length = l.length
  | _, [] => rfl
  | k, a :: l => by simp [mAtoms, mAtoms_len (k + costA a) l]
theorem mAtoms_snoc : ∀ (k : Nat) (l : List GA) (a : GA), mAtoms k (l ++ [a]) = mAtoms k l ++ [mAtom (k + costAs l) a]
  | k, [], a => by simp [mAtoms, costAs]
  | k, b :: l, a => by
    have ih := mAtoms_snoc (k + costA b) l a
    simp only [List.cons_append, mAtoms, ih, costAs, List.map_cons, List.sum_cons]
    rw [Nat.add_assoc]
theorem costAs_snoc (l : List GA) (a : GA) : costAs (l ++ [a]) = costAs l + costA a := by simp [costAs]
theorem mAtoms_step {xs : List GA} {k i : Nat} {x : GA} (h : xs[i]? = some x) : (mAtoms k (xs.take i) ++ xs.drop i).set i (mAtom (k + costAs (xs.take i)) x) = mAtoms k (xs.take (i + 1)) ++ xs.drop (i + 1) := by
  obtain ⟨hi, rfl⟩ := List.getElem?_eq_some_iff.1 h
  have hl : (mAtoms k (xs.take i)).length = i := by rw [mAtoms_len, List.length_take]; omega
  rw [List.set_append_right _ _ (by omega), hl, Nat.sub_self, List.drop_eq_getElem_cons hi, List.set_cons_zero, List.take_succ_eq_append_getElem hi, mAtoms_snoc, List.append_assoc]
  rfl
theorem mAtoms_at : ∀ (k : Nat) (l : List GA) (i : Nat) (x : GA), l[i]? = some x → (mAtoms k l)[i]? = some (mAtom (k + costAs (l.take i)) x)
  | _, [], i, x, h => by simp at h
  | k, a :: l, 0, x, h => by simp at h; subst h; simp [mAtoms, costAs]
  | k, a :: l, i + 1, x, h => by
    have ih := mAtoms_at (k + costA a) l i x (by simpa using h)
    simp only [mAtoms, List.getElem?_cons_succ, ih, List.take_succ_cons, costAs, List.map_cons, List.sum_cons]
    rw [Nat.add_assoc]
theorem costAs_take {xs : List GA} {i : Nat} {x : GA} (h : xs[i]? = some x) : costAs (xs.take (i + 1)) = costAs (xs.take i) + costA x := by
  obtain ⟨hi, rfl⟩ := List.getElem?_eq_some_iff.1 h
  rw [List.take_succ_eq_append_getElem hi, costAs_snoc]
theorem costAs_take_le (xs : List GA) (i : Nat) : costAs (xs.take i) ≤ costAs xs := by
  have h : costAs xs = costAs (xs.take i) + costAs (xs.drop i) := by
    unfold costAs
    rw [← List.sum_append, ← List.map_append, List.take_append_drop]
  omega

theorem TermsO.upd {S : Nat → Prop} {w : World} {A : Option Addr} {n c : Nat} {xs : List GT} (h : TermsO S w (.slice A n c) xs) {i : Nat} (hi : i < n) :
    ∃ (b off : Nat) (x : GT), A = some ⟨b, off, none⟩ ∧ b < w.heap.size ∧ S b ∧ xs[i]? = some x ∧
      w.frozen? ⟨b, off + i * 2, none⟩ = false ∧ w.frozen? ⟨b, off + i * 2 + 1, none⟩ = false ∧ w.cell? ⟨b, off + i * 2, none⟩ = some (.bool x.v) ∧ w.cell? ⟨b, off + i * 2 + 1, none⟩ = some (.string x.n) ∧
      ∀ (w1 : World) (y : GT), Ext (w.setCell ⟨b, off + i * 2, none⟩ (.bool y.v)) w1 → y.n.size ≤ maxLen → TermsO S (w1.setCell ⟨b, off + i * 2 + 1, none⟩ (.string y.n)) (.slice A n c) (xs.set i y) := by
  obtain ⟨b, off, F, x, cs, rfl, hb, hs, hx, hfr, hF, hl, hcs, hE, hup⟩ := SliceO.update h hi
  obtain ⟨rfl, hxs⟩ := hE
  have c0 := hcs 0 _ rfl
  have c1 := hcs 1 _ rfl
  have f0 := hfr 0 (by decide)
  have f1 := hfr 1 (by decide)
  refine ⟨b, off, x, rfl, hb, hs, hx, f0, f1, c0, c1, fun w1 y he hy => ?_⟩
  have hsz := he.size
  have hb1 : b < w1.heap.size := by simp [World.setCell] at hsz; omega
  have d1 : w1.cell? ⟨b, off + i * 2 + 1, none⟩ = some (.string x.n) := by
    have h1 := he.cells.1 b (off + i * 2 + 1) (by simp [World.setCell]; exact hb)
    rw [h1, World.cell?_setCell_other _ _ _ _ (by simp)]
    exact c1
  have d0 : w1.cell? ⟨b, off + i * 2, none⟩ = some (.bool y.v) := by
    have h1 := he.cells.1 b (off + i * 2) (by simp [World.setCell]; exact hb)
    rw [h1]
    exact World.cell?_setCell_same _ _ _ c0
  refine hup _ [.bool y.v, .string y.n] y (by simp [World.setCell] at hsz ⊢; omega) (fun m hm _ hlt => ?_) (fun o ho => ?_) (fun o => ?_) rfl (fun j u hu => ?_) ⟨rfl, hy⟩
  · rw [Below.heap_setCell _ _ _ _ hm, he.block m (by simp [World.setCell]; exact hlt), Below.heap_setCell _ _ _ _ hm]
  · have e1 : o ≠ off + i * 2 := by
      rcases ho with ho | ho
      · have : o < off + i * 2 := ho
        omega
      · have : off + (i + 1) * 2 ≤ o := ho
        omega
    have e2 : o ≠ off + i * 2 + 1 := by
      rcases ho with ho | ho
      · have : o < off + i * 2 := ho
        omega
      · have : off + (i + 1) * 2 ≤ o := ho
        omega
    rw [World.cell?_setCell_other _ _ _ _ (fun e => e2 (congrArg Addr.off e).symm), he.cells.1 b o (by simp [World.setCell]; exact hb), World.cell?_setCell_other _ _ _ _ (fun e => e1 (congrArg Addr.off e).symm)]
  · rw [frozen_set, he.cells.2 b o (by simp [World.setCell]; exact hb), frozen_set]
  · match j, hu with
    | 0, hu =>
      simp at hu; subst hu
      show (w1.setCell _ _).cell? ⟨b, off + (i * 2 + 0), none⟩ = _
      rw [Nat.add_zero, World.cell?_setCell_other _ _ _ _ (by simp)]
      exact d0
    | 1, hu =>
      simp at hu; subst hu
      exact World.cell?_setCell_same _ _ _ d1

theorem AtomsO.upd {S : Nat → Prop} {w : World} {A : Option Addr} {n c : Nat} {xs : List GA} (h : AtomsO S w (.slice A n c) xs) {i : Nat} (hi : i < n) :
    ∃ (b off : Nat) (F : Nat → Prop) (x : GA) (u : Value), A = some ⟨b, off, none⟩ ∧ b < w.heap.size ∧ S b ∧ xs[i]? = some x ∧ (∀ m, F m → S m ∧ m ≠ b ∧ m < w.heap.size) ∧
      w.frozen? ⟨b, off + i * 2, none⟩ = false ∧ w.cell? ⟨b, off + i * 2, none⟩ = some (.string x.n) ∧ w.cell? ⟨b, off + i * 2 + 1, none⟩ = some u ∧ TermsO F w u x.args ∧
      ∀ (w1 w2 : World) (y : GA), Ext w w1 → Inside F (w1.setCell ⟨b, off + i * 2, none⟩ (.string y.n)) w2 → y.n.size ≤ maxLen → TermsO F w2 u y.args → AtomsO S w2 (.slice A n c) (xs.set i y) := by
  obtain ⟨b, off, F, x, cs, rfl, hb, hs, hx, hfr, hF, hl, hcs, hE, hup⟩ := SliceO.update h hi
  obtain ⟨u, rfl, hxs, ht⟩ := hE
  have c0 := hcs 0 _ rfl
  have c1 := hcs 1 _ rfl
  have f0 := hfr 0 (by decide)
  refine ⟨b, off, F, x, u, rfl, hb, hs, hx, hF, f0, c0, c1, ht, fun w1 w2 y he hin hy ht2 => ?_⟩
  have hsz := he.size
  have hsz2 := hin.size
  have hnF : ¬ F b := fun h => (hF b h).2.1 rfl
  have hb1 : b < w1.heap.size := by omega
  have e0 : w1.cell? ⟨b, off + i * 2, none⟩ = some (.string x.n) := (he.cells.1 b _ hb).trans c0
  have hblk : w2.heap[b]? = (w1.setCell ⟨b, off + i * 2, none⟩ (.string y.n)).heap[b]? := hin.block b (by simp [World.setCell]; exact hb1) hnF
  have hcell : ∀ o, w2.cell? ⟨b, o, none⟩ = (w1.setCell ⟨b, off + i * 2, none⟩ (.string y.n)).cell? ⟨b, o, none⟩ := fun o => World.cell?_of_block hblk
  have hfroz : ∀ o, w2.frozen? ⟨b, o, none⟩ = (w1.setCell ⟨b, off + i * 2, none⟩ (.string y.n)).frozen? ⟨b, o, none⟩ := fun o => World.frozen?_of_block hblk
  refine hup _ [.string y.n, u] y (by simp [World.setCell] at hsz2; omega) (fun m hm hn hlt => ?_) (fun o ho => ?_) (fun o => ?_) rfl (fun j v hv => ?_) ⟨u, rfl, hy, ht2⟩
  · rw [hin.block m (by simp [World.setCell]; omega) hn, Below.heap_setCell _ _ _ _ hm, he.block m hlt]
  · have e1 : o ≠ off + i * 2 := by
      rcases ho with ho | ho
      · have : o < off + i * 2 := ho
        omega
      · have : off + (i + 1) * 2 ≤ o := ho
        omega
    rw [hcell, World.cell?_setCell_other _ _ _ _ (fun e => e1 (congrArg Addr.off e).symm), he.cells.1 b o hb]
  · rw [hfroz, frozen_set, he.cells.2 b o hb]
  · match j, hv with
    | 0, hv =>
      simp at hv; subst hv
      show w2.cell? ⟨b, off + (i * 2 + 0), none⟩ = _
      rw [Nat.add_zero, hcell]
      exact World.cell?_setCell_same _ _ _ e0
    | 1, hv =>
      simp at hv; subst hv
      show w2.cell? ⟨b, off + (i * 2 + 1), none⟩ = _
      rw [hcell, World.cell?_setCell_other _ _ _ _ (by simp), he.cells.1 b _ hb]
      exact c1

end Go.Proofs.YthndnkafckapnaaGreatDoor
