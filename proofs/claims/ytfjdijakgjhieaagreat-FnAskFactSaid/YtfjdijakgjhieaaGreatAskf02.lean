/- Texts of the proof: OwnO, Kinds. -/
import Derived.Test.YtfjdijakgjhieaaGreatAskf01
namespace Go.Proofs.YtfjdijakgjhieaaGreat
open Go.RowKit

/-- A slice value whose elements lie apart from each other, and from the slice's own block; all may be written. -/
def SliceO {α : Type} (k : Kind α) (S : Nat → Prop) (w : World) (v : Value) (xs : List α) : Prop :=
  ∃ A c, v = .slice A xs.length c ∧ xs.length ≤ c ∧ c ≤ maxLen ∧
    (0 < xs.length → ∃ (b off : Nat) (F : Nat → Nat → Prop), A = some ⟨b, off, none⟩ ∧ b < w.heap.size ∧ S b ∧
      (∀ j, j < xs.length * k.size → w.frozen? ⟨b, off + j, none⟩ = false) ∧
      (∀ i n, F i n → S n ∧ n ≠ b ∧ n < w.heap.size) ∧ (∀ i j n, F i n → F j n → i = j) ∧
      ∀ (i : Nat) (x : α), xs[i]? = some x → ∃ cs : List Value, cs.length = k.size ∧ (∀ (j : Nat) (u : Value), cs[j]? = some u → w.cell? ⟨b, off + (i * k.size + j), none⟩ = some u) ∧ k.E (F i) w cs x)

section
variable {α : Type} {k : Kind α} {S S' : Nat → Prop} {w w' : World} {v : Value} {xs : List α}
theorem SliceO.imp (h : SliceO k S w v xs) (hS : ∀ b, S b → b < w.heap.size → S' b) (he : Agree S w w') (hsz : w.heap.size ≤ w'.heap.size) : SliceO k S' w' v xs := by
  obtain ⟨A, c, hv, h1, h2, h3⟩ := h
  refine ⟨A, c, hv, h1, h2, fun h0 => ?_⟩
  obtain ⟨b, off, F, ha, hb, hs, hfr, hF, hdis, hc⟩ := h3 h0
  refine ⟨b, off, F, ha, Nat.lt_of_lt_of_le hb hsz, hS b hs hb, fun j hj => (World.frozen?_of_block (w := w) (a := ⟨b, _, none⟩) (he b hs hb)).trans (hfr j hj), fun i n hn => ⟨hS n (hF i n hn).1 (hF i n hn).2.2, (hF i n hn).2.1, Nat.lt_of_lt_of_le (hF i n hn).2.2 hsz⟩, hdis, fun i x hx => ?_⟩
  obtain ⟨cs, hl, hcs, hEx⟩ := hc i x hx
  exact ⟨cs, hl, fun j u hu => (World.cell?_of_block (w := w) (a := ⟨b, _, none⟩) (he b hs hb)).trans (hcs j u hu), k.imp hEx (fun _ h _ => h) (fun n hn hlt => he n (hF i n hn).1 hlt) hsz⟩
theorem SliceO.ext (h : SliceO k S w v xs) (he : Ext w w') : SliceO k S w' v xs := h.imp (fun _ h _ => h) (.of_ext he) he.size
theorem SliceO.sub (h : SliceO k S w v xs) (hS : ∀ b, S b → S' b) : SliceO k S' w v xs := h.imp (fun b hb _ => hS b hb) (.refl _ _) (Nat.le_refl _)
theorem SliceO.nil (c : Nat) (hc : c ≤ maxLen) (A : Option Addr) : SliceO k S w (.slice A 0 c) ([] : List α) := ⟨A, c, rfl, Nat.zero_le _, hc, fun h => absurd h (by simp)⟩
theorem SliceO.form (h : SliceO k S w v xs) : ∃ A c, v = .slice A xs.length c ∧ xs.length ≤ c ∧ c ≤ 9223372036854775807 := by
  obtain ⟨A, c, hv, h1, h2, _⟩ := h; exact ⟨A, c, hv, h1, h2⟩
theorem SliceO.low (h : SliceO k S w v xs) : SliceO k (fun b => S b ∧ b < w.heap.size) w v xs := h.imp (fun _ hb hlt => ⟨hb, hlt⟩) (.refl _ _) (Nat.le_refl _)
/-- To be read. -/
theorem SliceO.read {E' : (Nat → Prop) → World → List Value → α → Prop} (h : SliceO k S w v xs) (hE : ∀ T l x, k.E T w l x → (∀ b, T b → S b) → E' S w l x) : SliceR S k.size (E' S) w v xs := by
  obtain ⟨A, c, hv, h1, h2, h3⟩ := h
  refine ⟨A, c, hv, h1, h2, fun h0 => ?_⟩
  obtain ⟨b, off, F, ha, hb, hs, _, hF, _, hc⟩ := h3 h0
  refine ⟨b, off, ha, hb, hs, fun i x hx => ?_⟩
  obtain ⟨cs, hl, hcs, hEx⟩ := hc i x hx
  exact ⟨cs, hl, hcs, hE _ _ _ hEx (fun n hn => (hF i n hn).1)⟩
/-- One element is turned, and what it alone reaches. -/
theorem SliceO.update {A : Option Addr} {n c : Nat} (h : SliceO k S w (.slice A n c) xs) {i : Nat} (hi : i < n) :
    ∃ (b off : Nat) (F : Nat → Prop) (x : α) (cs : List Value), A = some ⟨b, off, none⟩ ∧ b < w.heap.size ∧ S b ∧ xs[i]? = some x ∧ (∀ j, j < k.size → w.frozen? ⟨b, off + (i * k.size + j), none⟩ = false) ∧ (∀ m, F m → S m ∧ m ≠ b ∧ m < w.heap.size) ∧
      cs.length = k.size ∧ (∀ (j : Nat) (u : Value), cs[j]? = some u → w.cell? ⟨b, off + (i * k.size + j), none⟩ = some u) ∧ k.E F w cs x ∧
      ∀ (w' : World) (cs' : List Value) (y : α), w.heap.size ≤ w'.heap.size → (∀ m, m ≠ b → ¬ F m → m < w.heap.size → w'.heap[m]? = w.heap[m]?) →
        (∀ o, (o < off + i * k.size ∨ off + (i + 1) * k.size ≤ o) → w'.cell? ⟨b, o, none⟩ = w.cell? ⟨b, o, none⟩) → (∀ o, w'.frozen? ⟨b, o, none⟩ = w.frozen? ⟨b, o, none⟩) →
        cs'.length = k.size → (∀ (j : Nat) (u : Value), cs'[j]? = some u → w'.cell? ⟨b, off + (i * k.size + j), none⟩ = some u) → k.E F w' cs' y → SliceO k S w' (.slice A n c) (xs.set i y) := by
  obtain ⟨A', c', hv, h1, h2, h3⟩ := h
  injection hv with hA hn hc
  subst hA; subst hn; subst hc
  obtain ⟨b, off, F, ha, hb, hs, hfr, hF, hdis, hcell⟩ := h3 (by omega)
  obtain ⟨cs, hl, hcs, hEx⟩ := hcell i xs[i] (List.getElem?_eq_getElem hi)
  have hrow : ∀ i' j, j < k.size → i' < i → off + (i' * k.size + j) < off + i * k.size := fun i' j hj hlt => by
    have : (i' + 1) * k.size ≤ i * k.size := Nat.mul_le_mul_right _ hlt
    rw [Nat.add_mul] at this; omega
  have hrow2 : ∀ i' j, i < i' → off + (i + 1) * k.size ≤ off + (i' * k.size + j) := fun i' j hlt => by
    have : (i + 1) * k.size ≤ i' * k.size := Nat.mul_le_mul_right _ hlt
    omega
  refine ⟨b, off, F i, xs[i], cs, ha, hb, hs, List.getElem?_eq_getElem hi, fun j hj => hfr _ ?_, fun m hm => hF i m hm, hl, hcs, hEx, fun w' cs' y hsz hoth hout hfrz hl' hcs' hE' => ?_⟩
  · calc i * k.size + j < i * k.size + k.size := by omega
      _ = (i + 1) * k.size := by rw [Nat.add_mul, Nat.one_mul]
      _ ≤ xs.length * k.size := Nat.mul_le_mul_right _ hi
  · have hlen : (xs.set i y).length = xs.length := List.length_set
    refine ⟨A, c, by rw [hlen], by rw [hlen]; exact h1, h2, fun _ => ⟨b, off, F, ha, Nat.lt_of_lt_of_le hb hsz, hs, fun j hj => (hfrz _).trans (hfr j (by rw [hlen] at hj; exact hj)), fun i' m hm => ⟨(hF i' m hm).1, (hF i' m hm).2.1, Nat.lt_of_lt_of_le (hF i' m hm).2.2 hsz⟩, hdis, fun i' z hz => ?_⟩⟩
    by_cases hii : i' = i
    · subst hii
      rw [List.getElem?_set_self hi] at hz
      injection hz with hz
      subst hz
      exact ⟨cs', hl', hcs', hE'⟩
    · rw [List.getElem?_set_ne (Ne.symm hii)] at hz
      obtain ⟨cs2, hl2, hcs2, hE2⟩ := hcell i' z hz
      refine ⟨cs2, hl2, fun j u hu => ?_, k.imp hE2 (fun _ h _ => h) (fun m hm hlt => hoth m (hF i' m hm).2.1 (fun e => hii (hdis _ _ _ hm e)) hlt) hsz⟩
      have hj : j < k.size := by rw [← hl2]; exact (List.getElem?_eq_some_iff.1 hu).1
      rw [hout _ (by
        rcases Nat.lt_or_gt_of_ne hii with hlt | hlt
        · exact .inl (hrow i' j hj hlt)
        · exact .inr (hrow2 i' j hlt))]
      exact hcs2 j u hu
end

/-- An own slice under construction, whose elements lie apart. -/
def OwnO {α : Type} (k : Kind α) (base : Nat) (e : TypeId) (S : Nat → Prop) (w : World) (v : Value) (xs : List α) : Prop :=
  ∃ (rows : List Value) (F : Nat → Nat → Prop), w.ownsRow base e k.size v xs.length rows ∧ rows.length = xs.length * k.size ∧
    (∀ (i : Nat) (x : α), xs[i]? = some x → ∃ l : List Value, l.length = k.size ∧ (∀ (j : Nat) (u : Value), l[j]? = some u → rows[i * k.size + j]? = some u) ∧ k.E (F i) w l x) ∧
    (∀ i n, F i n → S n ∧ n < w.heap.size) ∧ (∀ i j n, F i n → F j n → i = j) ∧ (∀ g, v.ownBlock = some g → ∀ i, ¬ F i g)

section
variable {α : Type} {k : Kind α} {S S' T : Nat → Prop} {w w' : World} {v : Value} {xs ys : List α} {base : Nat} {e : TypeId}
theorem OwnO.nil : OwnO k base e S w (.slice none 0 0) [] := ⟨[], fun _ _ => False, World.ownsRow_nil _ _ _ _, by simp, fun i x h => by simp at h, fun _ _ h => h.elim, fun _ _ _ h => h.elim, fun _ _ _ h => h⟩
theorem OwnO.empty {g : Nat} (hg : g = w.heap.size) (hb : base ≤ g) : OwnO k base e S (w.alloc (.cells #[] e)) (.slice (some ⟨g, 0, none⟩) 0 0) ([] : List α) := by
  subst hg
  exact ⟨[], fun _ _ => False, ⟨by simp, .inr ⟨w.heap.size, 0, #[], rfl, hb, Blk.new w e #[], Nat.le_refl _, Nat.zero_le _, by simp, by simp⟩⟩, by simp, fun i x h => by simp at h, fun _ _ h => h.elim, fun _ _ _ h => h.elim, fun _ _ _ h => h⟩
theorem OwnO.at_ (h : OwnO k base e S w v xs) : ∀ g, v.ownBlock = some g → base ≤ g ∧ g < w.heap.size := by
  obtain ⟨rows, F, h1, _⟩ := h
  exact h1.lt
theorem OwnO.form2 (h : OwnO k base e S w v xs) : ∃ A n c, v = .slice A n c ∧ Hid (n = xs.length) ∧ n ≤ c ∧ c ≤ 9223372036854775807 := by
  obtain ⟨rows, F, h1, _⟩ := h
  rcases h1.2 with ⟨rfl, h0⟩ | ⟨g, cap, cur, rfl, _, _, h2, h3, _⟩
  · exact ⟨none, 0, 0, rfl, Lib.hid h0.symm, by omega, by omega⟩
  · exact ⟨_, _, _, rfl, Lib.hid rfl, h2, h3⟩
theorem OwnO.agree (h : OwnO k base e S w v xs) (h1 : Agree S w w') (h2 : ∀ g, v.ownBlock = some g → w'.heap[g]? = w.heap[g]?) (hsz : w.heap.size ≤ w'.heap.size) : OwnO k base e S w' v xs := by
  obtain ⟨rows, F, k1, k2, k3, k4, k5, k6⟩ := h
  refine ⟨rows, F, ⟨k1.1, ?_⟩, k2, fun i x hx => ?_, fun i n hn => ⟨(k4 i n hn).1, Nat.lt_of_lt_of_le (k4 i n hn).2 hsz⟩, k5, k6⟩
  · rcases k1.2 with h0 | ⟨g, cap, cur, rfl, hb, hc, h3⟩
    · exact .inl h0
    · exact .inr ⟨g, cap, cur, rfl, hb, (h2 g rfl).trans hc, h3⟩
  · obtain ⟨l, m1, m2, m3⟩ := k3 i x hx
    exact ⟨l, m1, m2, k.imp m3 (fun _ h _ => h) (fun n hn hlt => h1 n (k4 i n hn).1 hlt) hsz⟩
theorem OwnO.ext (h : OwnO k base e S w v xs) (he : Ext w w') : OwnO k base e S w' v xs := h.agree (.of_ext he) (fun g hg => he.block g (h.at_ g hg).2) he.size
theorem OwnO.sub (h : OwnO k base e S w v xs) (hS : ∀ b, S b → b < w.heap.size → S' b) : OwnO k base e S' w v xs := by
  obtain ⟨rows, F, k1, k2, k3, k4, k5, k6⟩ := h
  exact ⟨rows, F, k1, k2, k3, fun i n hn => ⟨hS n (k4 i n hn).1 (k4 i n hn).2, (k4 i n hn).2⟩, k5, k6⟩
theorem OwnO.slice (h : OwnO k base e S w v xs) (hS : ∀ b, S b → S' b) (hS' : ∀ b, base ≤ b → S' b) : SliceO k S' w v xs := by
  obtain ⟨rows, F, k1, k2, k3, k4, k5, k6⟩ := h
  rcases k1.2 with ⟨rfl, h0⟩ | ⟨g, cap, cur, rfl, hb, hc, h2, h3, h4, h5⟩
  · have : xs = [] := List.eq_nil_of_length_eq_zero h0
    subst this
    exact SliceO.nil 0 (Nat.zero_le _) none
  · have hblk : Blk w g e cur := hc
    refine ⟨_, cap, rfl, h2, h3, fun _ => ⟨g, 0, F, rfl, hblk.lt, hS' g hb, fun j _ => hblk.frozen _, fun i n hn => ⟨hS n (k4 i n hn).1, fun e => k6 g rfl i (e ▸ hn), (k4 i n hn).2⟩, k5, fun i x hx => ?_⟩⟩
    obtain ⟨l, m1, m2, m3⟩ := k3 i x hx
    refine ⟨l, m1, fun j u hu => ?_, m3⟩
    have h6 := m2 j u hu
    rw [← h5, List.getElem?_take] at h6
    split at h6
    · rw [hblk.cell, Nat.zero_add]
      simpa using h6
    · cases h6

/-- What an append of one element leaves. -/
structure AppedO (k : Kind α) (base : Nat) (e : TypeId) (S : Nat → Prop) (w : World) (v : Value) (zs : List α) (v' : Value) (w' : World) : Prop where
  own : OwnO k base e S w' v' zs
  below : Below base w w'
  grown : w.grownBy w' v.ownBlock
  at_ : v'.ownBlock = v.ownBlock ∨ v'.ownBlock = some w.heap.size

theorem AppedO.toExt {w0 w w' : World} {v v' : Value} {zs : List α} (h : AppedO k base e S w v zs v' w') (hx : Ext w0 w) (hb : w0.heap.size ≤ base) : Ext w0 w' := Below.trans hx (h.below.mono hb)
theorem AppedO.blk {w w' : World} {v v' : Value} {zs : List α} {g : Nat} {t : TypeId} {cs : Array Value} (h : AppedO k base e S w v zs v' w') (hb : Blk w g t cs) (hg : g < base) : Blk w' g t cs := hb.below h.below hg

theorem run_appO {P : Program} (w : World) (t ty : TypeId) (i : TypeInfo) (z : Value) (bytes : Nat) (ht : P.underlying t = some (.slice e)) (hi : P.info? e = some i) (hz : i.zero = some z)
    (hsize : i.size = k.size) (hby : i.bytes = bytes) (hzs : z.cells.size = k.size)
    (hown : OwnO k base e S w v xs) (l : List Value) (x : α) (gb : Nat) (tb : TypeId) (hE : k.E T w l x) (hb : Blk w gb tb l.toArray) (hT : ∀ b, T b → b < w.heap.size → S' b) (hS : ∀ b, S b → S' b) (hdis : ∀ b, T b → ¬ S b) (hTv : ∀ g, v.ownBlock = some g → ¬ T g)
    (h63 : xs.length + 1 ≤ maxLen) (hbytes : (xs.length + 1) * bytes ≤ 140737488355328) (hbase : base ≤ w.heap.size) :
    ∃ v' w', (Builtin.append_ #[t, t] ty #[v, .slice (some ⟨gb, 0, none⟩) 1 1]).run P w = .ok v' w' ∧ AppedO k base e S' w v (xs ++ [x]) v' w' := by
  obtain ⟨rows, F, k1, k2, k3, k4, k5, k6⟩ := id hown
  have hlt := k1.lt
  have hl := k.len hE
  obtain ⟨v', w', hr, h1, h2, h3, h4⟩ := run_append_own_at (P := P) w base t ty e i z k.size bytes ht hi hz hsize hby hzs k.pos v xs.length rows k1 ⟨gb, 0, none⟩ 1 1 l (by rw [hl]; omega)
    (fun j u hj => by rw [addr_add, Nat.zero_add, hb.cell]; simpa using hj) (fun u hu => k.one hE u hu) h63 hbytes hbase
  have hbl := grown_below h2 (fun g hg => (hlt g hg).1) hbase
  have hlen : (xs ++ [x]).length = xs.length + 1 := by simp
  refine ⟨v', w', hr, ⟨rows ++ l, fun i n => (i < xs.length ∧ F i n) ∨ (i = xs.length ∧ T n ∧ n < w.heap.size), by rw [hlen]; exact h1, by rw [List.length_append, k2, hl, hlen, Nat.add_mul, Nat.one_mul], fun i y hy => ?_, fun i n hn => ?_, fun i j n hi hj => ?_, fun g hg i hn => ?_⟩, hbl, h2, h4⟩
  · rcases Nat.lt_or_ge i xs.length with hix | hix
    · rw [List.getElem?_append_left hix] at hy
      obtain ⟨l', m1, m2, m3⟩ := k3 i y hy
      refine ⟨l', m1, fun j u hu => ?_, k.imp m3 (fun b hb _ => .inl ⟨hix, hb⟩) (fun b hb hlt' => h2.block b hlt' (fun e => k6 b e.symm i hb)) h2.size⟩
      have := m2 j u hu
      rw [List.getElem?_append_left (List.getElem?_eq_some_iff.1 this).1]
      exact this
    · rw [List.getElem?_append_right hix] at hy
      have hi0 : i = xs.length := by
        have := (List.getElem?_eq_some_iff.1 hy).1
        simp at this; omega
      subst hi0
      simp at hy
      subst hy
      refine ⟨l, hl, fun j u hu => ?_, k.imp hE (fun b hb hlt' => .inr ⟨rfl, hb, hlt'⟩) (fun b hb hlt' => h2.block b hlt' (fun e => hTv b e.symm hb)) h2.size⟩
      rw [← k2, List.getElem?_append_right (Nat.le_add_right _ _), Nat.add_sub_cancel_left]
      exact hu
  · rcases hn with ⟨_, hn⟩ | ⟨_, hn, hlt'⟩
    · exact ⟨hS n (k4 i n hn).1, Nat.lt_of_lt_of_le (k4 i n hn).2 h2.size⟩
    · exact ⟨hT n hn hlt', Nat.lt_of_lt_of_le hlt' h2.size⟩
  · rcases hi with ⟨hi1, hi2⟩ | ⟨hi1, hi2, _⟩ <;> rcases hj with ⟨hj1, hj2⟩ | ⟨hj1, hj2, _⟩
    · exact k5 i j n hi2 hj2
    · exact absurd (k4 i n hi2).1 (hdis n hj2)
    · exact absurd (k4 j n hj2).1 (hdis n hi2)
    · omega
  · rcases h4 with h4 | h4
    · rw [h4] at hg
      rcases hn with ⟨_, hn⟩ | ⟨_, hn, _⟩
      · exact k6 g hg i hn
      · exact hTv g hg hn
    · rw [h4] at hg; injection hg with hg
      rcases hn with ⟨_, hn⟩ | ⟨_, hn, hlt'⟩
      · have := (k4 i g hn).2; omega
      · omega

theorem wp_appO {P : Program} (w : World) {o : Oper} {a : Act} {K : Act → World → Prop} {Q : Exit → Act → World → Prop} (s x' : Operand) (t : TypeId)
    (ho : o.op = .call { callee := .builtin .append, args := #[s, x'], argTypes := #[t, t] })
    (i : TypeInfo) (z : Value) (bytes : Nat) (ht : P.underlying t = some (.slice e)) (hi : P.info? e = some i) (hz : i.zero = some z)
    (hsize : i.size = k.size) (hby : i.bytes = bytes) (hzs : z.cells.size = k.size)
    (hs : a.eval s = v) (hown : OwnO k base e S w v xs) (gb : Nat) (hx : a.eval x' = .slice (some ⟨gb, 0, none⟩) 1 1) (l : List Value) (x : α) (tb : TypeId) (hE : k.E T w l x) (hb : Blk w gb tb l.toArray) (hT : ∀ b, T b → b < w.heap.size → S' b) (hS : ∀ b, S b → S' b) (hdis : ∀ b, T b → ¬ S b) (hTv : ∀ g, v.ownBlock = some g → ¬ T g)
    (h63 : xs.length + 1 ≤ maxLen) (hbytes : (xs.length + 1) * bytes ≤ 140737488355328) (hbase : base ≤ w.heap.size)
    (h : ∀ v' w', AppedO k base e S' w v (xs ++ [x]) v' w' → K (a.put o.dst v') w') : o.wp P a w K Q := by
  obtain ⟨v', w', hr, h2⟩ := run_appO (P := P) w t o.type i z bytes ht hi hz hsize hby hzs hown l x gb tb hE hb hT hS hdis hTv h63 hbytes hbase
  unfold Oper.wp execOp
  simp only [ho, resolve, invoke, builtin, Sem.run_bind, Sem.run_pure, Result.andThen_ok, List.map_toArray, List.map_cons, List.map_nil, hs, hx, hr]
  exact h v' w' h2

theorem wpList_appO {P : Program} {w : World} {ops : Array Oper} {rest : List Oper} {o : Oper} {a : Act} {Q : Exit → Act → World → Prop} (hgd : o.guard = none) (s x' : Operand) (t : TypeId)
    (ho : o.op = .call { callee := .builtin .append, args := #[s, x'], argTypes := #[t, t] })
    (i : TypeInfo) (z : Value) (bytes : Nat) (ht : P.underlying t = some (.slice e)) (hi : P.info? e = some i) (hz : i.zero = some z)
    (hsize : i.size = k.size) (hby : i.bytes = bytes) (hzs : z.cells.size = k.size)
    (hs : a.eval s = v) (hown : OwnO k base e S w v xs) (gb : Nat) (hx : a.eval x' = .slice (some ⟨gb, 0, none⟩) 1 1) (l : List Value) (x : α) (tb : TypeId) (hE : k.E T w l x) (hb : Blk w gb tb l.toArray) (hT : ∀ b, T b → b < w.heap.size → S' b) (hS : ∀ b, S b → S' b) (hdis : ∀ b, T b → ¬ S b) (hTv : ∀ g, v.ownBlock = some g → ¬ T g)
    (h63 : xs.length + 1 ≤ maxLen) (hbytes : (xs.length + 1) * bytes ≤ 140737488355328) (hbase : base ≤ w.heap.size)
    (h : ∀ v' w', AppedO k base e S' w v (xs ++ [x]) v' w' → wpList P ops Q rest (a.put o.dst v') w') : wpList P ops Q (o :: rest) a w :=
  wpList_plain hgd fun _ hK => wp_appO w s x' t ho i z bytes ht hi hz hsize hby hzs hs hown gb hx l x tb hE hb hT hS hdis hTv h63 hbytes hbase fun v' w' h2 => hK _ _ (h v' w' h2)
end

/-! ### The kinds -/
def TermsO (S : Nat → Prop) : World → Value → List GT → Prop := SliceO kTerm S
def AtomEO (S : Nat → Prop) (w : World) (cs : List Value) (a : GA) : Prop := ∃ v, cs = [.string a.n, v] ∧ a.n.size ≤ maxLen ∧ TermsO S w v a.args
theorem TermsO.imp {S S' : Nat → Prop} {w w' : World} {v : Value} {xs : List GT} (h : TermsO S w v xs) (hS : ∀ b, S b → b < w.heap.size → S' b) (he : Agree S w w') (hsz : w.heap.size ≤ w'.heap.size) : TermsO S' w' v xs := SliceO.imp h hS he hsz
theorem TermsO.read {S : Nat → Prop} {w : World} {v : Value} {xs : List GT} (h : TermsO S w v xs) : TermsR S w v xs := SliceO.read (E' := fun _ => TermE) h (fun _ _ _ h _ => h)
def kAtomO : Kind GA := ⟨2, AtomEO, by decide, fun h hS he hsz => by obtain ⟨v, h1, h2, h3⟩ := h; exact ⟨v, h1, h2, h3.imp hS he hsz⟩,
  fun {_ _ l x} h => by
    obtain ⟨v, rfl, _, ht⟩ := h
    obtain ⟨A, c, rfl, _⟩ := SliceO.form ht
    intro u hu; simp at hu; rcases hu with rfl | rfl <;> rfl, fun h => by obtain ⟨v, rfl, _⟩ := h; rfl⟩
def AtomsO (S : Nat → Prop) : World → Value → List GA → Prop := SliceO kAtomO S
theorem AtomEO.read {S T : Nat → Prop} {w : World} {l : List Value} {a : GA} (h : AtomEO T w l a) (hS : ∀ b, T b → S b) : AtomE S w l a := by
  obtain ⟨v, h1, h2, h3⟩ := h
  exact ⟨v, h1, h2, TermsR.sub h3.read hS⟩
theorem AtomsO.read {S : Nat → Prop} {w : World} {v : Value} {xs : List GA} (h : AtomsO S w v xs) : AtomsR S w v xs := SliceO.read (k := kAtomO) (E' := AtomE) h (fun _ _ _ h hS => AtomEO.read h hS)

end Go.Proofs.YtfjdijakgjhieaaGreat

namespace Go.Proofs.YtfjdijakgjhieaaGreat
open Go.RowKit

section
variable {α : Type} {k : Kind α} {S S' T : Nat → Prop} {w w' : World} {v u : Value} {xs : List α}
theorem SliceO.set (h : SliceO k S w v xs) {p : Addr} (hp : ¬ S p.block) (u : Value) : SliceO k S (w.setCell p u) v xs :=
  h.imp (fun _ h _ => h) ((Agree.refl _ _).setCell hp u) (by simp [World.setCell])
theorem SliceO.one {v : Value} {xs : List α} (h : SliceO k S w v xs) : v.oneCell' = true := by obtain ⟨A, c, rfl, _⟩ := h.form; rfl
theorem ListK.one {v : Value} {xs : List α} (h : ListK k S w v xs) : v.oneCell' = true := by obtain ⟨A, c, rfl, _⟩ := SliceR.form h; rfl
end

theorem AtomsR.impL {S S' : Nat → Prop} {w w' : World} {v : Value} {xs : List GA} (h : AtomsR S w v xs) (hS : ∀ b, S b → b < w.heap.size → S' b) (he : Agree S w w') (hsz : w.heap.size ≤ w'.heap.size) : AtomsR S' w' v xs := ListK.imp (k := kAtom) h hS he hsz
def kPart : Kind GP := ⟨3, PartE, by decide, fun h hS he hsz => by obtain ⟨v, h1, h2, h3⟩ := h; exact ⟨v, h1, h2, h3.impL hS he hsz⟩,
  fun {_ _ l x} h => by obtain ⟨v, rfl, _, ht⟩ := h; intro u hu; simp at hu; rcases hu with rfl | rfl | rfl <;> first | rfl | exact ListK.one (k := kTerm) ht, fun h => by obtain ⟨v, rfl, _⟩ := h; rfl⟩
theorem PartsR.impL {S S' : Nat → Prop} {w w' : World} {v : Value} {xs : List GP} (h : PartsR S w v xs) (hS : ∀ b, S b → b < w.heap.size → S' b) (he : Agree S w w') (hsz : w.heap.size ≤ w'.heap.size) : PartsR S' w' v xs := ListK.imp (k := kPart) h hS he hsz
def kRule : Kind GR := ⟨3, RuleE, by decide, fun h hS he hsz => by obtain ⟨v, u, h1, h2, h3, h4⟩ := h; exact ⟨v, u, h1, h2, h3.impL hS he hsz, h4.impL hS he hsz⟩,
  fun {_ _ l x} h => by obtain ⟨v, u, rfl, _, ht, hp⟩ := h; intro y hy; simp at hy; rcases hy with rfl | rfl | rfl <;> first | rfl | exact ListK.one (k := kTerm) ht | exact ListK.one (k := kPart) hp, fun h => by obtain ⟨v, u, rfl, _⟩ := h; rfl⟩
theorem RulesR.impL {S S' : Nat → Prop} {w w' : World} {v : Value} {xs : List GR} (h : RulesR S w v xs) (hS : ∀ b, S b → b < w.heap.size → S' b) (he : Agree S w w') (hsz : w.heap.size ≤ w'.heap.size) : RulesR S' w' v xs := ListK.imp (k := kRule) h hS he hsz
def kChange : Kind GC := ⟨2, ChangeE, by decide, fun h hS he hsz => by obtain ⟨v, u, h1, h2, h3⟩ := h; exact ⟨v, u, h1, h2.impL hS he hsz, h3.impL hS he hsz⟩,
  fun {_ _ l x} h => by obtain ⟨v, u, rfl, ht, hp⟩ := h; intro y hy; simp at hy; rcases hy with rfl | rfl <;> first | exact ListK.one (k := kAtom) ht | exact ListK.one (k := kAtom) hp, fun h => by obtain ⟨v, u, rfl, _⟩ := h; rfl⟩
def ChangesR (S : Nat → Prop) : World → Value → List GC → Prop := SliceR S 2 (ChangeE S)
theorem ChangesR.impL {S S' : Nat → Prop} {w w' : World} {v : Value} {xs : List GC} (h : ChangesR S w v xs) (hS : ∀ b, S b → b < w.heap.size → S' b) (he : Agree S w w') (hsz : w.heap.size ≤ w'.heap.size) : ChangesR S' w' v xs := ListK.imp (k := kChange) h hS he hsz
theorem ChangesR.ext {S : Nat → Prop} {w w' : World} {v : Value} {xs : List GC} (h : ChangesR S w v xs) (he : Ext w w') : ChangesR S w' v xs := h.impL (fun _ h _ => h) (.of_ext he) he.size
theorem ChangesR.sub {S S' : Nat → Prop} {w : World} {v : Value} {xs : List GC} (h : ChangesR S w v xs) (hS : ∀ b, S b → S' b) : ChangesR S' w v xs := h.impL (fun b hb _ => hS b hb) (.refl _ _) (Nat.le_refl _)
theorem ChangesR.at_ {S : Nat → Prop} {w : World} {A : Option Addr} {n c : Nat} {xs : List GC} (h : ChangesR S w (.slice A n c) xs) {k : Nat} (hk : k < n) :
    ∃ (b off : Nat) (x : GC) (v u : Value), A = some ⟨b, off, none⟩ ∧ b < w.heap.size ∧ xs[k]? = some x ∧ AtomsR S w v x.comes ∧ AtomsR S w u x.goes ∧
      w.cell? ⟨b, off + k * 2, none⟩ = some v ∧ w.cell? ⟨b, off + k * 2 + 1, none⟩ = some u := by
  obtain ⟨b, off, x, cs, hA, hb, hx, _, hc, v, u, rfl, ht, hp⟩ := SliceR.at_ h hk
  exact ⟨b, off, x, v, u, hA, hb, hx, ht, hp, hc 0 _ rfl, hc 1 _ rfl⟩

/-! ### Owned whole -/
def PartEO (S : Nat → Prop) (w : World) (cs : List Value) (p : GP) : Prop := ∃ v, cs = [.bool p.no, .string p.atom.n, v] ∧ p.atom.n.size ≤ maxLen ∧ TermsO S w v p.atom.args
def kPartO : Kind GP := ⟨3, PartEO, by decide, fun h hS he hsz => by obtain ⟨v, h1, h2, h3⟩ := h; exact ⟨v, h1, h2, h3.imp hS he hsz⟩,
  fun {_ _ l x} h => by obtain ⟨v, rfl, _, ht⟩ := h; intro u hu; simp at hu; rcases hu with rfl | rfl | rfl <;> first | rfl | exact SliceO.one ht, fun h => by obtain ⟨v, rfl, _⟩ := h; rfl⟩
def PartsO (S : Nat → Prop) : World → Value → List GP → Prop := SliceO kPartO S
theorem PartEO.read {S T : Nat → Prop} {w : World} {l : List Value} {a : GP} (h : PartEO T w l a) (hS : ∀ b, T b → S b) : PartE S w l a := by
  obtain ⟨v, h1, h2, h3⟩ := h
  exact ⟨v, h1, h2, TermsR.sub h3.read hS⟩
theorem PartsO.read {S : Nat → Prop} {w : World} {v : Value} {xs : List GP} (h : PartsO S w v xs) : PartsR S w v xs := SliceO.read (k := kPartO) (E' := PartE) h (fun _ _ _ h hS => PartEO.read h hS)
def RuleEO (S : Nat → Prop) (w : World) (cs : List Value) (r : GR) : Prop := ∃ (v u : Value) (S1 S2 : Nat → Prop), cs = [.string r.head.n, v, u] ∧ r.head.n.size ≤ maxLen ∧ TermsO S1 w v r.head.args ∧ PartsO S2 w u r.body ∧ (∀ b, S1 b → S b) ∧ (∀ b, S2 b → S b) ∧ ∀ b, S1 b → ¬ S2 b
theorem RuleEO.imp {S S' : Nat → Prop} {w w' : World} {cs : List Value} {x : GR} (h : RuleEO S w cs x) (hS : ∀ b, S b → b < w.heap.size → S' b) (he : Agree S w w') (hsz : w.heap.size ≤ w'.heap.size) : RuleEO S' w' cs x := by
  obtain ⟨v, u, S1, S2, h1, h2, h3, h4, h5, h6, h7⟩ := h
  exact ⟨v, u, fun b => S1 b ∧ b < w.heap.size, fun b => S2 b ∧ b < w.heap.size, h1, h2, SliceO.imp h3 (fun b hb hlt => ⟨hb, hlt⟩) (fun b hb hlt => he b (h5 b hb) hlt) hsz,
    SliceO.imp h4 (fun b hb hlt => ⟨hb, hlt⟩) (fun b hb hlt => he b (h6 b hb) hlt) hsz, fun b hb => hS b (h5 b hb.1) hb.2, fun b hb => hS b (h6 b hb.1) hb.2, fun b hb hc => h7 b hb.1 hc.1⟩
def kRuleO : Kind GR := ⟨3, RuleEO, by decide, RuleEO.imp,
  fun {_ _ l x} h => by obtain ⟨v, u, _, _, rfl, _, ht, hp, _⟩ := h; intro y hy; simp at hy; rcases hy with rfl | rfl | rfl <;> first | rfl | exact SliceO.one ht | exact SliceO.one hp, fun h => by obtain ⟨v, u, _, _, rfl, _⟩ := h; rfl⟩
def RulesO (S : Nat → Prop) : World → Value → List GR → Prop := SliceO kRuleO S
theorem RuleEO.read {S T : Nat → Prop} {w : World} {l : List Value} {a : GR} (h : RuleEO T w l a) (hS : ∀ b, T b → S b) : RuleE S w l a := by
  obtain ⟨v, u, S1, S2, h1, h2, h3, h4, h5, h6, h7⟩ := h
  exact ⟨v, u, h1, h2, TermsR.sub h3.read (fun b hb => hS b (h5 b hb)), PartsR.sub h4.read (fun b hb => hS b (h6 b hb))⟩
theorem RulesO.read {S : Nat → Prop} {w : World} {v : Value} {xs : List GR} (h : RulesO S w v xs) : RulesR S w v xs := SliceO.read (k := kRuleO) (E' := RuleE) h (fun _ _ _ h hS => RuleEO.read h hS)
def ChangeEO (S : Nat → Prop) (w : World) (cs : List Value) (c : GC) : Prop := ∃ (v u : Value) (S1 S2 : Nat → Prop), cs = [v, u] ∧ AtomsO S1 w v c.comes ∧ AtomsO S2 w u c.goes ∧ (∀ b, S1 b → S b) ∧ (∀ b, S2 b → S b) ∧ ∀ b, S1 b → ¬ S2 b
theorem ChangeEO.imp {S S' : Nat → Prop} {w w' : World} {cs : List Value} {x : GC} (h : ChangeEO S w cs x) (hS : ∀ b, S b → b < w.heap.size → S' b) (he : Agree S w w') (hsz : w.heap.size ≤ w'.heap.size) : ChangeEO S' w' cs x := by
  obtain ⟨v, u, S1, S2, h1, h3, h4, h5, h6, h7⟩ := h
  exact ⟨v, u, fun b => S1 b ∧ b < w.heap.size, fun b => S2 b ∧ b < w.heap.size, h1, SliceO.imp h3 (fun b hb hlt => ⟨hb, hlt⟩) (fun b hb hlt => he b (h5 b hb) hlt) hsz,
    SliceO.imp h4 (fun b hb hlt => ⟨hb, hlt⟩) (fun b hb hlt => he b (h6 b hb) hlt) hsz, fun b hb => hS b (h5 b hb.1) hb.2, fun b hb => hS b (h6 b hb.1) hb.2, fun b hb hc => h7 b hb.1 hc.1⟩
def kChangeO : Kind GC := ⟨2, ChangeEO, by decide, ChangeEO.imp,
  fun {_ _ l x} h => by obtain ⟨v, u, _, _, rfl, ht, hp, _⟩ := h; intro y hy; simp at hy; rcases hy with rfl | rfl <;> first | exact SliceO.one ht | exact SliceO.one hp, fun h => by obtain ⟨v, u, _, _, rfl, _⟩ := h; rfl⟩
def ChangesO (S : Nat → Prop) : World → Value → List GC → Prop := SliceO kChangeO S
theorem ChangeEO.read {S T : Nat → Prop} {w : World} {l : List Value} {a : GC} (h : ChangeEO T w l a) (hS : ∀ b, T b → S b) : ChangeE S w l a := by
  obtain ⟨v, u, S1, S2, h1, h3, h4, h5, h6, h7⟩ := h
  exact ⟨v, u, h1, AtomsR.sub h3.read (fun b hb => hS b (h5 b hb)), AtomsR.sub h4.read (fun b hb => hS b (h6 b hb))⟩
theorem ChangesO.read {S : Nat → Prop} {w : World} {v : Value} {xs : List GC} (h : ChangesO S w v xs) : ChangesR S w v xs := SliceO.read (k := kChangeO) (E' := ChangeE) h (fun _ _ _ h hS => ChangeEO.read h hS)

end Go.Proofs.YtfjdijakgjhieaaGreat
