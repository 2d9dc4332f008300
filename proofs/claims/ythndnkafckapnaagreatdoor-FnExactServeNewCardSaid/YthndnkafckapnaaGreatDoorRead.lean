/- How the arguments of the laws read: a slice of the laws' terms, atoms. -/
import Derived.Test.YthndnkafckapnaaGreatDoorRows
import Derived.Test.YthndnkafckapnaaGreatDoorRep
import Derived.ProofKit
import Derived.Deep.Slices
import Derived.Deep.Fields
import Derived.ChangeSame
namespace Go.Proofs.YthndnkafckapnaaGreatDoor
open Go.RowKit Go.ChangeShapes Go.WideShapes Go.Deep

section
variable {H : Type} {enc : TypeId × Value → H} {P : Program} {w : World} {base : Nat} {spare : Nat → Bool} {held : Bool}

theorem drop_cons' {α : Type} {l : List α} {k : Nat} {x : α} (h : l[k]? = some x) : l.drop k = x :: l.drop (k + 1) := by
  obtain ⟨hk, rfl⟩ := List.getElem?_eq_some_iff.1 h
  exact List.drop_eq_getElem_cons hk
/-- Elements that can be chosen one by one make a list. -/
theorem choose_rows {α : Type} (R : Nat → α → Prop) : ∀ (n k : Nat), (∀ i, i < n → ∃ x, R (k + i) x) → ∃ xs : List α, xs.length = n ∧ ∀ (i : Nat) (x : α), xs[i]? = some x → R (k + i) x
  | 0, _, _ => ⟨[], rfl, fun i x h => by simp at h⟩
  | n + 1, k, h => by
    obtain ⟨x, hx⟩ := h 0 (by omega)
    obtain ⟨xs, hl, hr⟩ := choose_rows R n (k + 1) (fun i hi => by
      have := h (i + 1) (by omega)
      rwa [show k + (i + 1) = k + 1 + i from by omega] at this)
    refine ⟨x :: xs, by simp [hl], fun i y hy => ?_⟩
    cases i with
    | zero => simp at hy; subst hy; exact hx
    | succ i =>
      have := hr i y (by simpa using hy)
      rwa [show k + 1 + i = k + (i + 1) from by omega] at this

theorem cell_addr {w : World} {a : Addr} {u : Value} (h : w.cell? a = some u) : a = ⟨a.block, a.off, none⟩ := by
  obtain ⟨b, o, s⟩ := a
  cases s with
  | none => rfl
  | some s => simp only [World.cell?] at h; split at h <;> simp at h

/-- A slice of structs of one-cell fields: its elements' cells, field by field. -/
theorem open_rows {t e : TypeId} {fs : Array Field} {fuel : Nat} {v : Value} {x : DataW H × List MemPlace} (ht : P.underlying t = some (.slice e)) (he : P.underlying e = some (.struct fs))
    (hone : oneCellFields P fs = true) (hC : P.cellsOf e = fs.size) (hfs : 0 < fs.size) (h : DataW.trod enc P w base spare held fuel t [v] = some x) :
    ∃ (A : Option Addr) (n c : Nat), v = .slice A n c ∧ n ≤ c ∧ c ≤ maxLen ∧
      (0 < n → ∃ b off, A = some ⟨b, off, none⟩ ∧ b < w.heap.size ∧ ∀ i, i < n → ∃ (k : Nat) (cs : List Value), cs.length = fs.size ∧ (∀ (j : Nat) (u : Value), cs[j]? = some u → w.cell? ⟨b, off + (i * fs.size + j), none⟩ = some u) ∧
        ∀ (j : Nat) (f : Field) (u : Value), fs[j]? = some f → cs[j]? = some u → ∃ y, DataW.trod enc P w base spare held k f.type [u] = some y) := by
  rcases open_slice ht h with ⟨hcs, _⟩ | ⟨a, len, cap, m, n, D, Pl, hcs, hb, hl, hm, hmm, hx, hi⟩
  · injection hcs with hv _
    subst hv
    exact ⟨none, 0, 0, rfl, Nat.le_refl _, Nat.zero_le _, fun h => absurd h (by omega)⟩
  · injection hcs with hv _
    subst hv
    refine ⟨some a, len, cap, rfl, hl, hm, fun h0 => ?_⟩
    have hml : len ≤ m := by rw [hmm]; split <;> omega
    have key : ∀ i, i < len → ∃ (k : Nat) (cs : List Value), cs.length = fs.size ∧ (∀ (j : Nat) (u : Value), cs[j]? = some u → w.cell? (a.add (i * fs.size + j)) = some u) ∧
        ∀ (j : Nat) (f : Field) (u : Value), fs[j]? = some f → cs[j]? = some u → ∃ y, DataW.trod enc P w base spare held k f.type [u] = some y := by
      intro i hilt
      obtain ⟨cs', hc, ht'⟩ := hi i (by omega)
      rw [hC] at hc
      obtain ⟨ys, n', hn', hy, hlen, hyl, hf⟩ := DataW.trod_struct he ht'
      obtain ⟨_, hcl, hat⟩ := World.cells?_some hc
      refine ⟨n', cs', hcl, fun j u hu => ?_, fun j f u hj hu => ?_⟩
      · have hjl : j < fs.size := by rw [← hcl]; exact (List.getElem?_eq_some_iff.1 hu).1
        rw [← Go.Deep.add_add, hat j hjl, hu]
      · obtain ⟨ho, hk⟩ := hone_of hone j f hj
        have hjl : j < fs.size := (Array.getElem?_eq_some_iff.1 hj).1
        have h1 := hf j f hj
        rw [ho, hk] at h1
        have hone' : (cs'.drop j).take 1 = [u] := by
          rw [drop_cons' hu]
          rfl
        rw [hone'] at h1
        have hys : ys[j]? = some (ys[j]'(by omega)) := List.getElem?_eq_getElem (by omega)
        exact ⟨_, h1.trans hys⟩
    obtain ⟨k0, cs0, hl0, hc0, _⟩ := key 0 h0
    have h00 := hc0 0 (cs0[0]'(by omega)) (List.getElem?_eq_getElem (by omega))
    rw [Nat.zero_mul, Nat.add_zero] at h00
    have ha0 : a.add 0 = a := by simp [Addr.add]
    rw [ha0] at h00
    have haa := cell_addr h00
    have hadd : ∀ n, a.add n = ⟨a.block, a.off + n, none⟩ := by
      intro n
      unfold Addr.add
      split
      · rename_i h; subst h; rw [Nat.add_zero]; exact haa
      · rfl
    refine ⟨a.block, a.off, by rw [← haa], ?_, fun i hilt => ?_⟩
    · rw [haa] at h00; exact cell_lt h00
    · obtain ⟨k, cs, hl1, hc1, hf1⟩ := key i hilt
      exact ⟨k, cs, hl1, fun j u hu => by rw [← hadd]; exact hc1 j u hu, hf1⟩
end

section
variable {H : Type} {enc : TypeId × Value → H} {w : World} {base : Nat} {spare : Nat → Bool} {held : Bool} {fuel : Nat} {v : Value} {x : DataW H × List MemPlace}

theorem read_terms (h : DataW.trod enc Tryz.prog w base spare held fuel 85 [v] = some x) : ∃ xs : List GT, TermsR Any w v xs := by
  obtain ⟨A, n, c, rfl, h1, h2, h3⟩ := open_rows Tryz.underlying85 Tryz.underlying217 (by kernel_rfl) (by kernel_rfl) (by decide) h
  by_cases h0 : 0 < n
  · obtain ⟨b, off, hA, hb, hrow⟩ := h3 h0
    obtain ⟨xs, hl, hr⟩ := choose_rows (fun i (t : GT) => w.cell? ⟨b, off + (i * 2 + 0), none⟩ = some (.bool t.v) ∧ w.cell? ⟨b, off + (i * 2 + 1), none⟩ = some (.string t.n) ∧ t.n.size ≤ maxLen) n 0 (fun i hi => by
      rw [Nat.zero_add]
      obtain ⟨k, cs, hcl, hc, hf⟩ := hrow i hi
      match cs, hcl with
      | [c0, c1], _ =>
        obtain ⟨y0, hy0⟩ := hf 0 _ c0 rfl rfl
        obtain ⟨y1, hy1⟩ := hf 1 _ c1 rfl rfl
        obtain ⟨bv, e0, _⟩ := DataW.trod_bool Tryz.underlying4 hy0
        obtain ⟨s, e1, _, hs⟩ := DataW.trod_string Tryz.underlying9 hy1
        injection e0 with e0 _
        injection e1 with e1 _
        subst e0; subst e1
        exact ⟨⟨bv, s⟩, hc 0 _ rfl, hc 1 _ rfl, hs⟩)
    refine ⟨xs, A, c, by rw [hl], by rw [hl]; exact h1, h2, fun _ => ⟨b, off, hA, hb, trivial, fun i x hx => ?_⟩⟩
    obtain ⟨r0, r1, r2⟩ := hr i x hx
    rw [Nat.zero_add] at r0 r1
    refine ⟨[.bool x.v, .string x.n], rfl, fun j u hu => ?_, rfl, r2⟩
    match j, hu with
    | 0, hu => simp at hu; subst hu; exact r0
    | 1, hu => simp at hu; subst hu; exact r1
  · obtain rfl : n = 0 := by omega
    exact ⟨[], SliceR.nil_ c h2 A⟩

end
end Go.Proofs.YthndnkafckapnaaGreatDoor
