/- Slices that a call itself makes by append. No program in sight. -/
import Derived.Test.YthndnkafckapnaaGreatDoorRead
import Derived.Deep.AppendLies
namespace Go.Proofs.YthndnkafckapnaaGreatDoor
open Go.RowKit

/-- The values rows are the elements xs, size values each. -/
def RowsE {α : Type} (size : Nat) (E : World → List Value → α → Prop) (w : World) (rows : List Value) (xs : List α) : Prop :=
  rows.length = xs.length * size ∧ ∀ (i : Nat) (x : α), xs[i]? = some x → ∃ l : List Value, l.length = size ∧ (∀ (j : Nat) (u : Value), l[j]? = some u → rows[i * size + j]? = some u) ∧ E w l x

section
variable {α : Type} {size : Nat} {E E' : World → List Value → α → Prop} {w w' : World} {rows news : List Value} {xs ys : List α}
theorem RowsE.nil : RowsE size E w [] ([] : List α) := ⟨by simp, fun i x h => by simp at h⟩
theorem RowsE.one {l : List Value} {x : α} (hl : l.length = size) (h : E w l x) : RowsE size E w l [x] :=
  ⟨by simp [hl], fun i y hy => by
    cases i with
    | zero => simp at hy; subst hy; exact ⟨l, hl, fun j u hu => by simpa using hu, h⟩
    | succ i => simp at hy⟩
theorem RowsE.mono (h : RowsE size E w rows xs) (hE : ∀ l x, x ∈ xs → E w l x → E' w' l x) : RowsE size E' w' rows xs :=
  ⟨h.1, fun i x hx => let ⟨l, h1, h2, h3⟩ := h.2 i x hx; ⟨l, h1, h2, hE l x (List.mem_of_getElem? hx) h3⟩⟩
theorem RowsE.append (h : RowsE size E w rows xs) (k : RowsE size E w news ys) : RowsE size E w (rows ++ news) (xs ++ ys) := by
  refine ⟨by rw [List.length_append, List.length_append, h.1, k.1, Nat.add_mul], fun i x hx => ?_⟩
  rcases Nat.lt_or_ge i xs.length with hi | hi
  · rw [List.getElem?_append_left hi] at hx
    obtain ⟨l, h1, h2, h3⟩ := h.2 i x hx
    refine ⟨l, h1, fun j u hu => ?_, h3⟩
    have := h2 j u hu
    rw [List.getElem?_append_left (List.getElem?_eq_some_iff.1 this).1]
    exact this
  · rw [List.getElem?_append_right hi] at hx
    obtain ⟨l, h1, h2, h3⟩ := k.2 _ x hx
    refine ⟨l, h1, fun j u hu => ?_, h3⟩
    have h4 := h2 j u hu
    have h5 : i * size + j = rows.length + ((i - xs.length) * size + j) := by
      rw [h.1]
      obtain ⟨d, rfl⟩ := Nat.exists_eq_add_of_le hi
      rw [Nat.add_sub_cancel_left, Nat.add_mul]; omega
    rw [h5, List.getElem?_append_right (Nat.le_add_right _ _), Nat.add_sub_cancel_left]
    exact h4
theorem RowsE.oneCell (h : RowsE size E w rows xs) (hsz : 0 < size) (hE : ∀ l x, E w l x → ∀ u ∈ l, u.oneCell' = true) : ∀ u ∈ rows, u.oneCell' = true := by
  intro u hu
  obtain ⟨j, hj, rfl⟩ := List.mem_iff_getElem.1 hu
  have hi : j / size < xs.length := by
    apply (Nat.div_lt_iff_lt_mul hsz).2
    rw [← h.1]; exact hj
  obtain ⟨l, h1, h2, h3⟩ := h.2 (j / size) xs[j / size] (List.getElem?_eq_getElem hi)
  have hm : j % size < l.length := by rw [h1]; exact Nat.mod_lt _ hsz
  have h4 := h2 (j % size) l[j % size] (List.getElem?_eq_getElem hm)
  have h5 : j / size * size + j % size = j := by rw [Nat.mul_comm]; exact Nat.div_add_mod _ _
  rw [h5, List.getElem?_eq_getElem hj] at h4
  injection h4 with h4
  rw [h4]
  exact hE l _ h3 _ (List.getElem_mem hm)

/-- An owned row that reads as xs is a slice of xs. -/
theorem own_slice {base : Nat} {e : TypeId} {v : Value} {n : Nat} (h : w.ownsRow base e size v n rows) (k : RowsE size E w rows xs) (hn : n = xs.length) : SliceR (From base) size E w v xs := by
  subst hn
  obtain ⟨h1, ⟨rfl, h0⟩ | ⟨g, cap, cur, rfl, hb, hc, h2, h3, h4, h5⟩⟩ := h
  · have : xs = [] := List.eq_nil_of_length_eq_zero h0
    subst this
    exact SliceR.nil_ 0 (Nat.zero_le _) none
  · have hblk : Blk w g e cur := hc
    refine ⟨_, cap, rfl, h2, h3, fun _ => ⟨g, 0, rfl, hblk.lt, hb, fun i x hx => ?_⟩⟩
    obtain ⟨l, k1, k2, k3⟩ := k.2 i x hx
    refine ⟨l, k1, fun j u hu => ?_, k3⟩
    have h6 := k2 j u hu
    rw [← h5, List.getElem?_take] at h6
    split at h6
    · rw [hblk.cell, Nat.zero_add]
      simpa using h6
    · cases h6

theorem addr_add (b o j : Nat) : (⟨b, o, none⟩ : Addr).add j = ⟨b, o + j, none⟩ := by unfold Addr.add; split <;> simp_all
/-- The cells of a slice, as values. -/
theorem SliceR.rows_ {S : Nat → Prop} {A : Option Addr} {n c : Nat} (h : SliceR S size E w (.slice A n c) xs) (h0 : 0 < n) (hsz : 0 < size) :
    ∃ (b off : Nat) (rows : List Value), A = some ⟨b, off, none⟩ ∧ b < w.heap.size ∧ S b ∧ n = xs.length ∧ rows.length = n * size ∧ RowsE size E w rows xs ∧ ∀ j u, rows[j]? = some u → w.cell? ⟨b, off + j, none⟩ = some u := by
  obtain ⟨A', c', hv, h1, h2, h3⟩ := h
  injection hv with hA hn hc
  subst hA; subst hn; subst hc
  obtain ⟨b, off, ha, hb, hs, hcell⟩ := h3 h0
  have key : ∀ j, j < xs.length * size → ∃ u, w.cell? ⟨b, off + j, none⟩ = some u := by
    intro j hj
    have hi : j / size < xs.length := (Nat.div_lt_iff_lt_mul hsz).2 hj
    obtain ⟨l, k1, k2, _⟩ := hcell (j / size) xs[j / size] (List.getElem?_eq_getElem hi)
    have hm : j % size < l.length := by rw [k1]; exact Nat.mod_lt _ hsz
    have := k2 (j % size) l[j % size] (List.getElem?_eq_getElem hm)
    have h5 : j / size * size + j % size = j := by rw [Nat.mul_comm]; exact Nat.div_add_mod _ _
    rw [h5] at this
    exact ⟨_, this⟩
  obtain ⟨rows, hl, hr⟩ := choose_rows (fun j (u : Value) => w.cell? ⟨b, off + j, none⟩ = some u) (xs.length * size) 0 (fun j hj => by rw [Nat.zero_add]; exact key j hj)
  refine ⟨b, off, rows, ha, hb, hs, rfl, hl, ⟨hl, fun i x hx => ?_⟩, fun j u hu => by have := hr j u hu; rwa [Nat.zero_add] at this⟩
  obtain ⟨l, k1, k2, k3⟩ := hcell i x hx
  refine ⟨l, k1, fun j u hu => ?_, k3⟩
  have hj : j < size := by rw [← k1]; exact (List.getElem?_eq_some_iff.1 hu).1
  have hi : i < xs.length := (List.getElem?_eq_some_iff.1 hx).1
  have hlt : i * size + j < rows.length := by
    rw [hl]
    calc i * size + j < i * size + size := by omega
      _ = (i + 1) * size := by rw [Nat.add_mul, Nat.one_mul]
      _ ≤ xs.length * size := Nat.mul_le_mul_right _ hi
  have h6 := hr (i * size + j) _ (List.getElem?_eq_getElem hlt)
  rw [Nat.zero_add, k2 j u hu] at h6
  rw [List.getElem?_eq_getElem hlt, h6]
end

theorem TermE.oneCell {w : World} (l : List Value) (x : GT) (h : TermE w l x) : ∀ u ∈ l, u.oneCell' = true := by
  obtain ⟨rfl, _⟩ := h; intro u hu; simp at hu; rcases hu with rfl | rfl <;> rfl
theorem AtomE.oneCell {S : Nat → Prop} {w : World} (l : List Value) (x : GA) (h : AtomE S w l x) : ∀ u ∈ l, u.oneCell' = true := by
  obtain ⟨v, rfl, _, ht⟩ := h
  obtain ⟨A, c, rfl, _⟩ := SliceR.form ht
  intro u hu; simp at hu; rcases hu with rfl | rfl <;> rfl

end Go.Proofs.YthndnkafckapnaaGreatDoor
