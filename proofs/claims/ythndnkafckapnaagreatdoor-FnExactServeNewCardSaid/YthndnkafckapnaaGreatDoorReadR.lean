/- How the arguments of the laws read: a slice of the laws' rules. -/
import Derived.Test.YthndnkafckapnaaGreatDoorRead
namespace Go.Proofs.YthndnkafckapnaaGreatDoor
open Go.RowKit Go.ChangeShapes Go.WideShapes Go.Deep

section
variable {H : Type} {enc : TypeId × Value → H} {P : Program} {w : World} {base : Nat} {spare : Nat → Bool} {held : Bool}
/-- A slice: its elements' cells. -/
theorem open_elems {t e : TypeId} {fuel m : Nat} {v : Value} {x : DataW H × List MemPlace} (ht : P.underlying t = some (.slice e)) (hC : P.cellsOf e = m) (hm0 : 0 < m) (h : DataW.trod enc P w base spare held fuel t [v] = some x) :
    ∃ (A : Option Addr) (n c : Nat), v = .slice A n c ∧ n ≤ c ∧ c ≤ maxLen ∧
      (0 < n → ∃ b off, A = some ⟨b, off, none⟩ ∧ b < w.heap.size ∧ ∀ i, i < n → ∃ (k : Nat) (cs : List Value), cs.length = m ∧ (∀ (j : Nat) (u : Value), cs[j]? = some u → w.cell? ⟨b, off + (i * m + j), none⟩ = some u) ∧
        ∃ y, DataW.trod enc P w base spare held k e cs = some y) := by
  rcases open_slice ht h with ⟨hcs, _⟩ | ⟨a, len, cap, q, n, D, Pl, hcs, hb, hl, hm, hmm, hx, hi⟩
  · injection hcs with hv _
    subst hv
    exact ⟨none, 0, 0, rfl, Nat.le_refl _, Nat.zero_le _, fun h => absurd h (by omega)⟩
  · injection hcs with hv _
    subst hv
    refine ⟨some a, len, cap, rfl, hl, hm, fun h0 => ?_⟩
    have hml : len ≤ q := by rw [hmm]; split <;> omega
    have key : ∀ i, i < len → ∃ (k : Nat) (cs : List Value), cs.length = m ∧ (∀ (j : Nat) (u : Value), cs[j]? = some u → w.cell? (a.add (i * m + j)) = some u) ∧ ∃ y, DataW.trod enc P w base spare held k e cs = some y := by
      intro i hilt
      obtain ⟨cs', hc, ht'⟩ := hi i (by omega)
      rw [hC] at hc
      obtain ⟨_, hcl, hat⟩ := World.cells?_some hc
      refine ⟨n, cs', hcl, fun j u hu => ?_, _, ht'⟩
      have hjl : j < m := by rw [← hcl]; exact (List.getElem?_eq_some_iff.1 hu).1
      rw [← Go.Deep.add_add, hat j hjl, hu]
    obtain ⟨k0, cs0, hl0, hc0, _⟩ := key 0 h0
    have h00 := hc0 0 (cs0[0]'(by omega)) (List.getElem?_eq_getElem (by omega))
    rw [Nat.zero_mul, Nat.add_zero] at h00
    have ha0 : a.add 0 = a := by simp [Addr.add]
    rw [ha0] at h00
    have haa := cell_addr h00
    have hadd : ∀ n, a.add n = ⟨a.block, a.off + n, none⟩ := by
      intro n
      unfold Addr.add
      split
      · rename_i h; subst h; rw [Nat.add_zero]; exact haa
      · rfl
    refine ⟨a.block, a.off, by rw [← haa], ?_, fun i hilt => ?_⟩
    · rw [haa] at h00; exact cell_lt h00
    · obtain ⟨k, cs, hl1, hc1, hf1⟩ := key i hilt
      exact ⟨k, cs, hl1, fun j u hu => by rw [← hadd]; exact hc1 j u hu, hf1⟩
/-- A field of a struct that reads. -/
theorem field_of {e : TypeId} {fs : Array Field} {k m : Nat} {cs l : List Value} {y : DataW H × List MemPlace} (he : P.underlying e = some (.struct fs)) (h : DataW.trod enc P w base spare held k e cs = some y) (j : Nat) (f : Field) (hj : fs[j]? = some f)
    (hm : P.cellsOf f.type = m) (hl : (cs.drop f.offset).take m = l) : ∃ (k' : Nat) (y' : DataW H × List MemPlace), DataW.trod enc P w base spare held k' f.type l = some y' := by
  obtain ⟨ys, n', hn', hy, hlen, hyl, hf⟩ := DataW.trod_struct he h
  have h1 := hf j f hj
  rw [hm, hl] at h1
  have hjl : j < fs.size := (Array.getElem?_eq_some_iff.1 hj).1
  have hys : ys[j]? = some (ys[j]'(by omega)) := List.getElem?_eq_getElem (by omega)
  exact ⟨_, _, h1.trans hys⟩
end

section
variable {H : Type} {enc : TypeId × Value → H} {w : World} {base : Nat} {spare : Nat → Bool} {held : Bool} {fuel : Nat} {v : Value} {x : DataW H × List MemPlace}

theorem read_atom {c0 c1 : Value} (h : DataW.trod enc Tryz.prog w base spare held fuel 87 [c0, c1] = some x) : ∃ (s : ByteArray) (ts : List GT), c0 = .string s ∧ s.size ≤ maxLen ∧ TermsR Any w c1 ts := by
  obtain ⟨k0, y0, h0⟩ := field_of Tryz.underlying87 h 0 _ rfl (m := 1) (l := [c0]) (by kernel_rfl) rfl
  obtain ⟨k1, y1, h1⟩ := field_of Tryz.underlying87 h 1 _ rfl (m := 1) (l := [c1]) (by kernel_rfl) rfl
  obtain ⟨s, e1, _, hs⟩ := DataW.trod_string Tryz.underlying9 h0
  obtain ⟨ts, ht⟩ := read_terms h1
  injection e1 with e1 _
  exact ⟨s, ts, e1, hs, ht⟩

theorem read_parts (h : DataW.trod enc Tryz.prog w base spare held fuel 88 [v] = some x) : ∃ xs : List GP, PartsR Any w v xs := by
  obtain ⟨A, n, c, rfl, h1, h2, h3⟩ := open_elems (m := 3) Tryz.underlying88 (by kernel_rfl) (by decide) h
  by_cases h0 : 0 < n
  · obtain ⟨b, off, hA, hb, hrow⟩ := h3 h0
    obtain ⟨xs, hl, hr⟩ := choose_rows (fun i (a : GP) => ∃ u, w.cell? ⟨b, off + (i * 3 + 0), none⟩ = some (.bool a.no) ∧ w.cell? ⟨b, off + (i * 3 + 1), none⟩ = some (.string a.atom.n) ∧ w.cell? ⟨b, off + (i * 3 + 2), none⟩ = some u ∧ a.atom.n.size ≤ maxLen ∧ TermsR Any w u a.atom.args) n 0 (fun i hi => by
      rw [Nat.zero_add]
      obtain ⟨k, cs, hcl, hc, y, hy⟩ := hrow i hi
      match cs, hcl with
      | [c0, c1, c2], _ =>
        obtain ⟨k0, y0, hy0⟩ := field_of Tryz.underlying180 hy 0 _ rfl (m := 1) (l := [c0]) (by kernel_rfl) rfl
        obtain ⟨k1, y1, hy1⟩ := field_of Tryz.underlying180 hy 1 _ rfl (m := 2) (l := [c1, c2]) (by kernel_rfl) rfl
        obtain ⟨bv, e0, _⟩ := DataW.trod_bool Tryz.underlying4 hy0
        injection e0 with e0 _
        obtain ⟨s, ts, rfl, hs, ht⟩ := read_atom hy1
        subst e0
        exact ⟨⟨bv, ⟨s, ts⟩⟩, c2, hc 0 _ rfl, hc 1 _ rfl, hc 2 _ rfl, hs, ht⟩)
    refine ⟨xs, A, c, by rw [hl], by rw [hl]; exact h1, h2, fun _ => ⟨b, off, hA, hb, trivial, fun i x hx => ?_⟩⟩
    obtain ⟨u, r0, r1, r2, r3, r4⟩ := hr i x hx
    rw [Nat.zero_add] at r0 r1 r2
    refine ⟨[.bool x.no, .string x.atom.n, u], rfl, fun j y hy => ?_, u, rfl, r3, r4⟩
    match j, hy with
    | 0, hy => simp at hy; subst hy; exact r0
    | 1, hy => simp at hy; subst hy; exact r1
    | 2, hy => simp at hy; subst hy; exact r2
  · obtain rfl : n = 0 := by omega
    exact ⟨[], SliceR.nil_ c h2 A⟩

theorem read_rules (h : DataW.trod enc Tryz.prog w base spare held fuel 34 [v] = some x) : ∃ xs : List GR, RulesR Any w v xs := by
  obtain ⟨A, n, c, rfl, h1, h2, h3⟩ := open_elems (m := 3) Tryz.underlying34 (by kernel_rfl) (by decide) h
  by_cases h0 : 0 < n
  · obtain ⟨b, off, hA, hb, hrow⟩ := h3 h0
    obtain ⟨xs, hl, hr⟩ := choose_rows (fun i (a : GR) => ∃ u z, w.cell? ⟨b, off + (i * 3 + 0), none⟩ = some (.string a.head.n) ∧ w.cell? ⟨b, off + (i * 3 + 1), none⟩ = some u ∧ w.cell? ⟨b, off + (i * 3 + 2), none⟩ = some z ∧ a.head.n.size ≤ maxLen ∧ TermsR Any w u a.head.args ∧ PartsR Any w z a.body) n 0 (fun i hi => by
      rw [Nat.zero_add]
      obtain ⟨k, cs, hcl, hc, y, hy⟩ := hrow i hi
      match cs, hcl with
      | [c0, c1, c2], _ =>
        obtain ⟨k0, y0, hy0⟩ := field_of Tryz.underlying90 hy 0 _ rfl (m := 2) (l := [c0, c1]) (by kernel_rfl) rfl
        obtain ⟨k1, y1, hy1⟩ := field_of Tryz.underlying90 hy 1 _ rfl (m := 1) (l := [c2]) (by kernel_rfl) rfl
        obtain ⟨s, ts, rfl, hs, ht⟩ := read_atom hy0
        obtain ⟨ps, hp⟩ := read_parts hy1
        exact ⟨⟨⟨s, ts⟩, ps⟩, c1, c2, hc 0 _ rfl, hc 1 _ rfl, hc 2 _ rfl, hs, ht, hp⟩)
    refine ⟨xs, A, c, by rw [hl], by rw [hl]; exact h1, h2, fun _ => ⟨b, off, hA, hb, trivial, fun i x hx => ?_⟩⟩
    obtain ⟨u, z, r0, r1, r2, r3, r4, r5⟩ := hr i x hx
    rw [Nat.zero_add] at r0 r1 r2
    refine ⟨[.string x.head.n, u, z], rfl, fun j y hy => ?_, u, z, rfl, r3, r4, r5⟩
    match j, hy with
    | 0, hy => simp at hy; subst hy; exact r0
    | 1, hy => simp at hy; subst hy; exact r1
    | 2, hy => simp at hy; subst hy; exact r2
  · obtain rfl : n = 0 := by omega
    exact ⟨[], SliceR.nil_ c h2 A⟩
end
end Go.Proofs.YthndnkafckapnaaGreatDoor
