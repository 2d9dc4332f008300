/- Texts of the proof: App, OwnO, Kinds. -/
import Derived.Test.YtfjdijakgjhieaaGreatAskx01
namespace Go.Proofs.YtfjdijakgjhieaaGreat
open Go.RowKit

theorem maxOf {n : Nat} (h : n ≤ 1000000000) : n ≤ maxLen := by unfold maxLen; omega
abbrev None : Nat → Prop := fun _ => False

/-- What an element is: its cells, and how they are held. -/
structure Kind (α : Type) where
  size : Nat
  E : (Nat → Prop) → World → List Value → α → Prop
  pos : 0 < size
  imp : ∀ {S S' : Nat → Prop} {w w' : World} {cs : List Value} {x : α}, E S w cs x → (∀ b, S b → b < w.heap.size → S' b) → Agree S w w' → w.heap.size ≤ w'.heap.size → E S' w' cs x
  one : ∀ {S : Nat → Prop} {w : World} {l : List Value} {x : α}, E S w l x → ∀ u ∈ l, u.oneCell' = true
  len : ∀ {S : Nat → Prop} {w : World} {l : List Value} {x : α}, E S w l x → l.length = size

theorem SliceR.impL {α : Type} {S S' : Nat → Prop} {size : Nat} {E E' : World → List Value → α → Prop} {w w' : World} {v : Value} {xs : List α}
    (hE : ∀ cs x, x ∈ xs → E w cs x → E' w' cs x) (hS : ∀ b, S b → b < w.heap.size → S' b) (h : SliceR S size E w v xs) (he : Agree S w w') (hsz : w.heap.size ≤ w'.heap.size) : SliceR S' size E' w' v xs := by
  obtain ⟨A, c, hv, h1, h2, h3⟩ := h
  refine ⟨A, c, hv, h1, h2, fun h0 => ?_⟩
  obtain ⟨b, off, ha, hb, hs, hc⟩ := h3 h0
  refine ⟨b, off, ha, Nat.lt_of_lt_of_le hb hsz, hS b hs hb, fun i x hx => ?_⟩
  obtain ⟨cs, hl, hcs, hEx⟩ := hc i x hx
  exact ⟨cs, hl, fun j u hu => (World.cell?_of_block (w := w) (a := ⟨b, _, none⟩) (he b hs hb)).trans (hcs j u hu), hE _ _ (List.mem_of_getElem? hx) hEx⟩

/-- A slice value that reads as xs. -/
def ListK {α : Type} (k : Kind α) (S : Nat → Prop) (w : World) (v : Value) (xs : List α) : Prop := SliceR S k.size (k.E S) w v xs

section
variable {α : Type} {k : Kind α} {S S' : Nat → Prop} {w w' : World} {v : Value} {xs : List α}
theorem ListK.imp (h : ListK k S w v xs) (hS : ∀ b, S b → b < w.heap.size → S' b) (he : Agree S w w') (hsz : w.heap.size ≤ w'.heap.size) : ListK k S' w' v xs :=
  SliceR.impL (fun _ _ _ h => k.imp h hS he hsz) hS h he hsz
theorem ListK.ext (h : ListK k S w v xs) (he : Ext w w') : ListK k S w' v xs := h.imp (fun _ h _ => h) (.of_ext he) he.size
theorem ListK.sub (h : ListK k S w v xs) (hS : ∀ b, S b → S' b) : ListK k S' w v xs := h.imp (fun b hb _ => hS b hb) (.refl _ _) (Nat.le_refl _)
/-- Only its elements matter. -/
def ElemsK (k : Kind α) (S : Nat → Prop) (w : World) (v : Value) (xs : List α) : Prop := SliceR Any k.size (k.E S) w v xs
theorem ListK.elems (h : ListK k S w v xs) : ElemsK k S w v xs := SliceR.impL (fun _ _ _ h => h) (fun _ _ _ => trivial) h (.refl _ _) (Nat.le_refl _)
theorem ListK.nil (c : Nat) (hc : c ≤ maxLen) (A : Option Addr) : ListK k S w (.slice A 0 c) [] := SliceR.nil_ c hc A
theorem ElemsK.nil (c : Nat) (hc : c ≤ maxLen) (A : Option Addr) : ElemsK k S w (.slice A 0 c) [] := SliceR.nil_ c hc A
theorem ElemsK.ext (h : ElemsK k S w v xs) (he : Ext w w') : ElemsK k S w' v xs := SliceR.impL (fun _ _ _ h => k.imp h (fun _ h _ => h) (.of_ext he) he.size) (fun _ _ _ => trivial) h (.of_ext he) he.size
/-- One element, laid down by itself. -/
theorem ElemsK.one {g : Nat} {t : TypeId} {l : List Value} {x : α} (hb : Blk w g t l.toArray) (h : k.E S w l x) : ElemsK k S w (.slice (some ⟨g, 0, none⟩) 1 1) [x] := by
  refine ⟨_, 1, rfl, Nat.le_refl _, by unfold maxLen; omega, fun _ => ⟨g, 0, rfl, hb.lt, trivial, fun i y hy => ?_⟩⟩
  cases i with
  | zero =>
    simp at hy; subst hy
    refine ⟨l, k.len h, fun j u hu => ?_, h⟩
    rw [hb.cell]
    simpa using hu
  | succ i => simp at hy
end

/-- An own slice (from block base on), whose elements lie in S, and not in its own block. -/
def OwnK {α : Type} (k : Kind α) (base : Nat) (e : TypeId) (S : Nat → Prop) (w : World) (v : Value) (xs : List α) : Prop :=
  ∃ rows T, w.ownsRow base e k.size v xs.length rows ∧ RowsE k.size (k.E T) w rows xs ∧ (∀ b, T b → S b ∧ b < w.heap.size) ∧ ∀ g, v.ownBlock = some g → ¬ T g

section
variable {α : Type} {k : Kind α} {S S' : Nat → Prop} {w w' : World} {v : Value} {xs ys : List α} {base : Nat} {e : TypeId}
theorem OwnK.form (h : OwnK k base e S w v xs) : ∃ A c, v = .slice A xs.length c ∧ xs.length ≤ c ∧ c ≤ 9223372036854775807 := by
  obtain ⟨rows, T, h1, _⟩ := h
  rcases h1.2 with ⟨rfl, h0⟩ | ⟨g, cap, cur, rfl, _, _, h2, h3, _⟩
  · exact ⟨none, 0, by rw [h0], by omega, by omega⟩
  · exact ⟨_, _, rfl, h2, h3⟩
theorem OwnK.form2 (h : OwnK k base e S w v xs) : ∃ A n c, v = .slice A n c ∧ Hid (n = xs.length) ∧ n ≤ c ∧ c ≤ 9223372036854775807 := by
  obtain ⟨A, c, h1, h2, h3⟩ := h.form
  exact ⟨A, _, c, h1, Lib.hid rfl, h2, h3⟩
theorem OwnK.nil : OwnK k base e S w (.slice none 0 0) [] := ⟨[], fun _ => False, World.ownsRow_nil _ _ _ _, RowsE.nil, fun _ h => h.elim, fun _ _ h => h⟩
theorem OwnK.empty {g : Nat} (hg : g = w.heap.size) (hb : base ≤ g) : OwnK k base e S (w.alloc (.cells #[] e)) (.slice (some ⟨g, 0, none⟩) 0 0) ([] : List α) := by
  subst hg
  refine ⟨[], fun _ => False, ⟨by simp, .inr ⟨w.heap.size, 0, #[], rfl, hb, Blk.new w e #[], Nat.le_refl _, Nat.zero_le _, by simp, by simp⟩⟩, RowsE.nil, fun _ h => h.elim, fun _ _ h => h⟩
theorem OwnK.at_ (h : OwnK k base e S w v xs) : ∀ g, v.ownBlock = some g → base ≤ g ∧ g < w.heap.size := by
  obtain ⟨rows, T, h1, _⟩ := h
  exact h1.lt
theorem OwnK.agree (h : OwnK k base e S w v xs) (h1 : Agree S w w') (h2 : ∀ g, v.ownBlock = some g → w'.heap[g]? = w.heap[g]?) (hsz : w.heap.size ≤ w'.heap.size) : OwnK k base e S w' v xs := by
  obtain ⟨rows, T, k1, k2, k3, k4⟩ := h
  refine ⟨rows, T, ⟨k1.1, ?_⟩, k2.mono (fun l x _ hx => k.imp hx (fun _ h _ => h) (fun b hb hlt => h1 b (k3 b hb).1 hlt) hsz), fun b hb => ⟨(k3 b hb).1, Nat.lt_of_lt_of_le (k3 b hb).2 hsz⟩, k4⟩
  rcases k1.2 with h0 | ⟨g, cap, cur, rfl, hb, hc, h3⟩
  · exact .inl h0
  · exact .inr ⟨g, cap, cur, rfl, hb, (h2 g rfl).trans hc, h3⟩
theorem OwnK.ext (h : OwnK k base e S w v xs) (he : Ext w w') : OwnK k base e S w' v xs :=
  h.agree (.of_ext he) (fun g hg => he.block g (h.at_ g hg).2) he.size
theorem OwnK.drew (h : OwnK k base e S w v xs) : OwnK k base e S w.drew v xs := h.ext (Ext.refl _).drew
theorem OwnK.alloc (h : OwnK k base e S w v xs) (o : Obj) : OwnK k base e S (w.alloc o) v xs := h.ext ((Ext.refl _).alloc o)
theorem OwnK.set (h : OwnK k base e S w v xs) {p : Addr} (hp : p.block < base) (hS : ¬ S p.block) (u : Value) : OwnK k base e S (w.setCell p u) v xs :=
  h.agree ((Agree.refl _ _).setCell hS u) (fun g hg => Below.heap_setCell w p u g (by have := (h.at_ g hg).1; omega)) (by go_size)
theorem OwnK.sub (h : OwnK k base e S w v xs) {base' : Nat} (hb : base' ≤ base) (hS : ∀ b, S b → S' b) : OwnK k base' e S' w v xs := by
  obtain ⟨rows, T, k1, k2, k3, k4⟩ := h
  refine ⟨rows, T, ⟨k1.1, ?_⟩, k2, fun b hb => ⟨hS b (k3 b hb).1, (k3 b hb).2⟩, k4⟩
  rcases k1.2 with h0 | ⟨g, cap, cur, rfl, hbb, hc, h3⟩
  · exact .inl h0
  · exact .inr ⟨g, cap, cur, rfl, Nat.le_trans hb hbb, hc, h3⟩
theorem OwnK.list (h : OwnK k base e S w v xs) (hS : ∀ b, S b → S' b) (hS' : ∀ b, base ≤ b → S' b) : ListK k S' w v xs := by
  obtain ⟨rows, T, k1, k2, k3, k4⟩ := h
  have h1 := own_slice (E := k.E S') (xs := xs) k1 (k2.mono (fun l x _ hx => k.imp hx (fun b hb _ => hS b (k3 b hb).1) (.refl _ _) (Nat.le_refl _))) rfl
  exact SliceR.impL (fun _ _ _ h => h) (fun b hb _ => hS' b hb) h1 (.refl _ _) (Nat.le_refl _)
end

section
variable {α : Type} {k : Kind α} {S T : Nat → Prop} {v : Value} {xs ys : List α} {base : Nat} {e : TypeId}
theorem run_append_of_nil {P : Program} (w : World) (base : Nat) (t ty e : TypeId) (i : TypeInfo) (size : Nat) (ht : P.underlying t = some (.slice e)) (hi : P.info? e = some i)
    (v : Value) (n : Nat) (xs : List Value) (hown : w.ownsRow base e size v n xs) (c : Nat) : (Builtin.append_ #[t, t] ty #[v, .slice none 0 c]).run P w = .ok v w := by
  rcases hown.2 with ⟨rfl, rfl⟩ | ⟨g, cap, cur, rfl, _, _, hnc, _⟩
  · simp [Builtin.append_, run_underlying ht, sizeOf, typeInfo, hi, Builtin.lenOf, Builtin.firstCells]
  · simp [Builtin.append_, run_underlying ht, sizeOf, typeInfo, hi, Builtin.lenOf, Builtin.firstCells, hnc, storeCells]

/-- What an append leaves. -/
structure Apped (k : Kind α) (base : Nat) (e : TypeId) (S : Nat → Prop) (w : World) (v : Value) (zs : List α) (v' : Value) (w' : World) : Prop where
  own : OwnK k base e S w' v' zs
  below : Below base w w'
  grown : w.grownBy w' v.ownBlock
  at_ : v'.ownBlock = v.ownBlock ∨ v'.ownBlock = some w.heap.size

theorem Apped.toExt {w0 w w' : World} {v v' : Value} {zs : List α} (h : Apped k base e S w v zs v' w') (hx : Ext w0 w) (hb : w0.heap.size ≤ base) : Ext w0 w' := Below.trans hx (h.below.mono hb)
theorem Apped.blk {w w' : World} {v v' : Value} {zs : List α} {g : Nat} {t : TypeId} {cs : Array Value} (h : Apped k base e S w v zs v' w') (hb : Blk w g t cs) (hg : g < base) : Blk w' g t cs := hb.below h.below hg

theorem grown_below {w w' : World} {row : Option Nat} (h : w.grownBy w' row) (hr : ∀ g, row = some g → base ≤ g) (hb : base ≤ w.heap.size) : Below base w w' :=
  ⟨h.os, h.tape, h.output, h.size, fun i hi => h.block i (Nat.lt_of_lt_of_le hi hb) (fun e => by have := hr i e.symm; omega)⟩

theorem run_appK {P : Program} (w : World) (t ty : TypeId) (i : TypeInfo) (z : Value) (bytes : Nat) (ht : P.underlying t = some (.slice e)) (hi : P.info? e = some i) (hz : i.zero = some z)
    (hsize : i.size = k.size) (hby : i.bytes = bytes) (hzs : z.cells.size = k.size)
    (hown : OwnK k base e S w v xs) (A : Option Addr) (m c : Nat) (hu : ElemsK k T w (.slice A m c) ys) (hT : ∀ b, T b → b < w.heap.size → S b) (hTv : ∀ g, v.ownBlock = some g → ¬ T g)
    (h63 : xs.length + m ≤ maxLen) (hbytes : (xs.length + m) * bytes ≤ 140737488355328) (hbase : base ≤ w.heap.size) :
    ∃ v' w', (Builtin.append_ #[t, t] ty #[v, .slice A m c]).run P w = .ok v' w' ∧ Apped k base e S w v (xs ++ ys) v' w' := by
  obtain ⟨rows, U, k1, k2, k3, k4⟩ := id hown
  have hlt := k1.lt
  by_cases hm : m = 0
  · subst hm
    have hys : ys = [] := by
      obtain ⟨A', c', hv, _⟩ := hu
      injection hv with _ hn _
      exact List.eq_nil_of_length_eq_zero hn.symm
    subst hys
    rw [List.append_nil]
    rcases A with _ | ad
    · exact ⟨v, w, run_append_of_nil w base t ty e i k.size ht hi v _ rows k1 c, hown, Below.refl _ _, World.grownBy.refl w _, .inl rfl⟩
    · obtain ⟨v', w', hr, h1, h2, h3, h4⟩ := run_append_own_at (P := P) w base t ty e i z k.size bytes ht hi hz hsize hby hzs k.pos v xs.length rows k1 ad 0 c [] (by simp) (by simp) (by simp) h63 hbytes hbase
      have hb := grown_below h2 (fun g hg => (hlt g hg).1) hbase
      rw [Nat.add_zero, List.append_nil] at h1
      refine ⟨v', w', hr, ⟨rows, U, h1, k2.mono (fun l x _ hx => k.imp hx (fun _ h _ => h) (fun b hb hlt' => h2.block b hlt' (fun e => k4 b e.symm hb)) h2.size), fun b hb => ⟨(k3 b hb).1, Nat.lt_of_lt_of_le (k3 b hb).2 h2.size⟩, fun g hg hU => ?_⟩, hb, h2, h4⟩
      rcases h4 with h4 | h4
      · exact k4 g (h4 ▸ hg) hU
      · rw [h4] at hg; injection hg with hg; have := (k3 g hU).2; omega
  · obtain ⟨b, off, news, rfl, hb, _, hn, hl, hrow, hcell⟩ := SliceR.rows_ hu (by omega) k.pos
    obtain ⟨v', w', hr, h1, h2, h3, h4⟩ := run_append_own_at (P := P) w base t ty e i z k.size bytes ht hi hz hsize hby hzs k.pos v xs.length rows k1 ⟨b, off, none⟩ m c news hl (fun j u hj => by rw [addr_add]; exact hcell j u hj)
      (hrow.oneCell k.pos (fun l x hx => k.one hx)) h63 hbytes hbase
    have hbl := grown_below h2 (fun g hg => (hlt g hg).1) hbase
    refine ⟨v', w', hr, ⟨rows ++ news, fun b => (U b ∨ T b) ∧ b < w.heap.size, by rw [List.length_append, ← hn]; exact h1, ?_, fun b hb => ⟨?_, Nat.lt_of_lt_of_le hb.2 h2.size⟩, fun g hg hU => ?_⟩, hbl, h2, h4⟩
    · exact (k2.mono (E' := k.E (fun b => (U b ∨ T b) ∧ b < w.heap.size)) (w' := w') (fun l x _ hx => k.imp hx (fun b hb hlt => ⟨.inl hb, hlt⟩) (fun b hb hlt' => h2.block b hlt' (fun e => k4 b e.symm hb)) h2.size)).append
        (hrow.mono (fun l x _ hx => k.imp hx (fun b hb hlt => ⟨.inr hb, hlt⟩) (fun b hb hlt' => h2.block b hlt' (fun e => hTv b e.symm hb)) h2.size))
    · rcases hb.1 with hb' | hb'
      · exact (k3 b hb').1
      · exact hT b hb' hb.2
    · rcases h4 with h4 | h4
      · rw [h4] at hg
        rcases hU.1 with hU' | hU'
        · exact k4 g hg hU'
        · exact hTv g hg hU'
      · rw [h4] at hg; injection hg with hg; have := hU.2; omega

theorem wp_appK {P : Program} (w : World) {o : Oper} {a : Act} {K : Act → World → Prop} {Q : Exit → Act → World → Prop} (s x : Operand) (t : TypeId)
    (ho : o.op = .call { callee := .builtin .append, args := #[s, x], argTypes := #[t, t] })
    (i : TypeInfo) (z : Value) (bytes : Nat) (ht : P.underlying t = some (.slice e)) (hi : P.info? e = some i) (hz : i.zero = some z)
    (hsize : i.size = k.size) (hby : i.bytes = bytes) (hzs : z.cells.size = k.size)
    (hs : a.eval s = v) (hown : OwnK k base e S w v xs) (A : Option Addr) (m c : Nat) (hx : a.eval x = .slice A m c) (hu : ElemsK k T w (.slice A m c) ys) (hT : ∀ b, T b → b < w.heap.size → S b) (hTv : ∀ g, v.ownBlock = some g → ¬ T g)
    (h63 : xs.length + m ≤ maxLen) (hbytes : (xs.length + m) * bytes ≤ 140737488355328) (hbase : base ≤ w.heap.size)
    (h : ∀ v' w', Apped k base e S w v (xs ++ ys) v' w' → K (a.put o.dst v') w') : o.wp P a w K Q := by
  obtain ⟨v', w', hr, h2⟩ := run_appK (P := P) w t o.type i z bytes ht hi hz hsize hby hzs hown A m c hu hT hTv h63 hbytes hbase
  unfold Oper.wp execOp
  simp only [ho, resolve, invoke, builtin, Sem.run_bind, Sem.run_pure, Result.andThen_ok, List.map_toArray, List.map_cons, List.map_nil, hs, hx, hr]
  exact h v' w' h2

theorem wpList_appK {P : Program} {w : World} {ops : Array Oper} {rest : List Oper} {o : Oper} {a : Act} {Q : Exit → Act → World → Prop} (hgd : o.guard = none) (s x : Operand) (t : TypeId)
    (ho : o.op = .call { callee := .builtin .append, args := #[s, x], argTypes := #[t, t] })
    (i : TypeInfo) (z : Value) (bytes : Nat) (ht : P.underlying t = some (.slice e)) (hi : P.info? e = some i) (hz : i.zero = some z)
    (hsize : i.size = k.size) (hby : i.bytes = bytes) (hzs : z.cells.size = k.size)
    (hs : a.eval s = v) (hown : OwnK k base e S w v xs) (A : Option Addr) (m c : Nat) (hx : a.eval x = .slice A m c) (hu : ElemsK k T w (.slice A m c) ys) (hT : ∀ b, T b → b < w.heap.size → S b) (hTv : ∀ g, v.ownBlock = some g → ¬ T g)
    (h63 : xs.length + m ≤ maxLen) (hbytes : (xs.length + m) * bytes ≤ 140737488355328) (hbase : base ≤ w.heap.size)
    (h : ∀ v' w', Apped k base e S w v (xs ++ ys) v' w' → wpList P ops Q rest (a.put o.dst v') w') : wpList P ops Q (o :: rest) a w :=
  wpList_plain hgd fun _ hK => wp_appK w s x t ho i z bytes ht hi hz hsize hby hzs hs hown A m c hx hu hT hTv h63 hbytes hbase fun v' w' h2 => hK _ _ (h v' w' h2)

theorem step_appK {P : Program} {w : World} {ops : Array Oper} {o : Oper} {a : Act} {K : Act → World → Prop} {Q : Exit → Act → World → Prop} {E : Prop} (hgd : o.guard = none) (s x : Operand) (t : TypeId)
    (ho : o.op = .call { callee := .builtin .append, args := #[s, x], argTypes := #[t, t] })
    (i : TypeInfo) (z : Value) (bytes : Nat) (ht : P.underlying t = some (.slice e)) (hi : P.info? e = some i) (hz : i.zero = some z)
    (hsize : i.size = k.size) (hby : i.bytes = bytes) (hzs : z.cells.size = k.size)
    (hs : a.eval s = v) (hown : OwnK k base e S w v xs) (A : Option Addr) (m c : Nat) (hx : a.eval x = .slice A m c) (hu : ElemsK k T w (.slice A m c) ys) (hT : ∀ b, T b → b < w.heap.size → S b) (hTv : ∀ g, v.ownBlock = some g → ¬ T g)
    (h63 : xs.length + m ≤ maxLen) (hbytes : (xs.length + m) * bytes ≤ 140737488355328) (hbase : base ≤ w.heap.size)
    (h : ∀ v' w', Apped k base e S w v (xs ++ ys) v' w' → K (a.put o.dst v') w') :
    if Region.wanted o (yielded ops a.tmps) = true then Oper.wp P o a w K Q else E := by
  have hw : Region.wanted o (yielded ops a.tmps) = true := by simp [Region.wanted, hgd]
  rw [if_pos hw]
  exact wp_appK w s x t ho i z bytes ht hi hz hsize hby hzs hs hown A m c hx hu hT hTv h63 hbytes hbase h
end

section
variable {α : Type} {k : Kind α} {S T : Nat → Prop} {v : Value} {xs ys : List α} {base : Nat} {e : TypeId}
/-- The elements lie below the own blocks. -/
theorem step_appL {P : Program} {w : World} {ops : Array Oper} {o : Oper} {a : Act} {K : Act → World → Prop} {Q : Exit → Act → World → Prop} {E : Prop} (hgd : o.guard = none) (s x : Operand) (t : TypeId)
    (ho : o.op = .call { callee := .builtin .append, args := #[s, x], argTypes := #[t, t] })
    (i : TypeInfo) (z : Value) (bytes : Nat) (ht : P.underlying t = some (.slice e)) (hi : P.info? e = some i) (hz : i.zero = some z)
    (hsize : i.size = k.size) (hby : i.bytes = bytes) (hzs : z.cells.size = k.size)
    (hs : a.eval s = v) (hown : OwnK k base e S w v xs) (A : Option Addr) (m c : Nat) (hx : a.eval x = .slice A m c) (hu : ElemsK k T w (.slice A m c) ys) (hT : ∀ b, T b → S b ∧ b < base)
    (h63 : xs.length + m ≤ maxLen) (hbytes : (xs.length + m) * bytes ≤ 140737488355328) (hbase : base ≤ w.heap.size)
    (h : ∀ v' w', Apped k base e S w v (xs ++ ys) v' w' → K (a.put o.dst v') w') :
    if Region.wanted o (yielded ops a.tmps) = true then Oper.wp P o a w K Q else E :=
  step_appK hgd s x t ho i z bytes ht hi hz hsize hby hzs hs hown A m c hx hu (fun b hb _ => (hT b hb).1) (fun g hg hb => absurd (hown.at_ g hg).1 (Nat.not_le.2 (hT g hb).2)) h63 hbytes hbase h
theorem wpList_appL {P : Program} {w : World} {ops : Array Oper} {rest : List Oper} {o : Oper} {a : Act} {Q : Exit → Act → World → Prop} (hgd : o.guard = none) (s x : Operand) (t : TypeId)
    (ho : o.op = .call { callee := .builtin .append, args := #[s, x], argTypes := #[t, t] })
    (i : TypeInfo) (z : Value) (bytes : Nat) (ht : P.underlying t = some (.slice e)) (hi : P.info? e = some i) (hz : i.zero = some z)
    (hsize : i.size = k.size) (hby : i.bytes = bytes) (hzs : z.cells.size = k.size)
    (hs : a.eval s = v) (hown : OwnK k base e S w v xs) (A : Option Addr) (m c : Nat) (hx : a.eval x = .slice A m c) (hu : ElemsK k T w (.slice A m c) ys) (hT : ∀ b, T b → S b ∧ b < base)
    (h63 : xs.length + m ≤ maxLen) (hbytes : (xs.length + m) * bytes ≤ 140737488355328) (hbase : base ≤ w.heap.size)
    (h : ∀ v' w', Apped k base e S w v (xs ++ ys) v' w' → wpList P ops Q rest (a.put o.dst v') w') : wpList P ops Q (o :: rest) a w :=
  wpList_appK hgd s x t ho i z bytes ht hi hz hsize hby hzs hs hown A m c hx hu (fun b hb _ => (hT b hb).1) (fun g hg hb => absurd (hown.at_ g hg).1 (Nat.not_le.2 (hT g hb).2)) h63 hbytes hbase h
theorem Apped.blk2 {w w' : World} {v v' : Value} {zs : List α} {g : Nat} {t : TypeId} {cs : Array Value} (h : Apped k base e S w v zs v' w') (hb : Blk w g t cs) (hg : v.ownBlock ≠ some g) : Blk w' g t cs :=
  (h.grown.block g hb.lt (fun e => hg e.symm)).trans hb
theorem Blk.at_new {w : World} {g : Nat} {t : TypeId} {cs : Array Value} (hg : g = w.heap.size) : Blk (w.alloc (.cells cs t)) g t cs := by subst hg; exact Blk.new _ _ _
theorem ListK.low {w : World} (h : ListK k S w v xs) : ListK k (fun b => S b ∧ b < w.heap.size) w v xs := h.imp (fun _ hb hlt => ⟨hb, hlt⟩) (.refl _ _) (Nat.le_refl _)
theorem ElemsK.sub {w : World} (h : ElemsK k S w v xs) (hS : ∀ b, S b → b < w.heap.size → T b) : ElemsK k T w v xs := SliceR.impL (fun _ _ _ h => k.imp h hS (.refl _ _) (Nat.le_refl _)) (fun _ _ _ => trivial) h (.refl _ _) (Nat.le_refl _)
/-- A slice's head. -/
theorem SliceR.fst {size : Nat} {E : World → List Value → α → Prop} {w : World} {A : Option Addr} {n c : Nat} (h : SliceR S size E w (.slice A n c) xs) (j : Nat) (hj : j ≤ n) : SliceR S size E w (.slice A j c) (xs.take j) := by
  obtain ⟨A', c', hv, h1, h2, h3⟩ := h
  injection hv with hA hn hc
  subst hA; subst hn; subst hc
  have hl : (xs.take j).length = j := by rw [List.length_take]; omega
  refine ⟨A, c, by rw [hl], by omega, h2, fun h0 => ?_⟩
  obtain ⟨b, off, ha, hb, hs, hcell⟩ := h3 (by omega)
  exact ⟨b, off, ha, hb, hs, fun i x hx => hcell i x (by
    rw [List.getElem?_take] at hx
    split at hx
    · exact hx
    · cases hx)⟩
/-- A slice's tail. -/
theorem SliceR.drop {size : Nat} {E : World → List Value → α → Prop} {w : World} {A : Option Addr} {n c : Nat} (h : SliceR S size E w (.slice A n c) xs) (j : Nat) (hj : j ≤ n) : SliceR S size E w (.slice (if c = j then A else A.map (·.add (j * size))) (n - j) (c - j)) (xs.drop j) := by
  obtain ⟨A', c', hv, h1, h2, h3⟩ := h
  injection hv with hA hn hc
  subst hA; subst hn; subst hc
  refine ⟨_, c - j, by rw [List.length_drop], by rw [List.length_drop]; omega, by omega, fun h0 => ?_⟩
  rw [List.length_drop] at h0
  obtain ⟨b, off, rfl, hb, hs, hcell⟩ := h3 (by omega)
  refine ⟨b, off + j * size, by rw [if_neg (by omega)]; simp [addr_add], hb, hs, fun i x hx => ?_⟩
  rw [List.getElem?_drop] at hx
  obtain ⟨cs, k1, k2, k3⟩ := hcell (j + i) x hx
  refine ⟨cs, k1, fun q u hu => ?_, k3⟩
  have := k2 q u hu
  rwa [show off + ((j + i) * size + q) = off + j * size + (i * size + q) from by rw [Nat.add_mul]; omega] at this
end

/-! ### The kinds -/
theorem TermsR.impL {S S' : Nat → Prop} {w w' : World} {v : Value} {xs : List GT} (h : TermsR S w v xs) (hS : ∀ b, S b → b < w.heap.size → S' b) (he : Agree S w w') (hsz : w.heap.size ≤ w'.heap.size) : TermsR S' w' v xs :=
  SliceR.impL (E := TermE) (w := w) (fun _ _ _ h => h) hS h he hsz
def kTerm : Kind GT := ⟨2, fun _ => TermE, by decide, fun h _ _ _ => h, fun {_ w l x} h => TermE.oneCell (w := w) l x h, fun h => by obtain ⟨rfl, _⟩ := h; rfl⟩
def kAtom : Kind GA := ⟨2, AtomE, by decide, fun h hS he hsz => by obtain ⟨v, h1, h2, h3⟩ := h; exact ⟨v, h1, h2, h3.impL hS he hsz⟩, fun {_ _ l x} h => AtomE.oneCell l x h, fun h => by obtain ⟨v, rfl, _⟩ := h; rfl⟩
/-- Texts. -/
def StrE (_ : World) (cs : List Value) (s : ByteArray) : Prop := cs = [.string s] ∧ s.size ≤ maxLen
def StrsR (S : Nat → Prop) : World → Value → List ByteArray → Prop := SliceR S 1 StrE
theorem StrsR.at_ {S : Nat → Prop} {w : World} {A : Option Addr} {n c : Nat} {xs : List ByteArray} (h : StrsR S w (.slice A n c) xs) {k : Nat} (hk : k < n) :
    ∃ (b off : Nat) (x : ByteArray), A = some ⟨b, off, none⟩ ∧ b < w.heap.size ∧ xs[k]? = some x ∧ x.size ≤ maxLen ∧ w.cell? ⟨b, off + k, none⟩ = some (.string x) := by
  obtain ⟨b, off, x, cs, hA, hb, hx, _, hc, rfl, hs⟩ := SliceR.at_ h hk
  exact ⟨b, off, x, hA, hb, hx, hs, by simpa using hc 0 _ rfl⟩
theorem StrsR.imp {S S' : Nat → Prop} {w w' : World} {v : Value} {xs : List ByteArray} (h : StrsR S w v xs) (hS : ∀ b, S b → S' b) (he : Agree S w w') (hsz : w.heap.size ≤ w'.heap.size) : StrsR S' w' v xs :=
  SliceR.imp (E := StrE) (w := w) (fun _ _ _ h => h) hS h he hsz

theorem StrsR.ext {S : Nat → Prop} {w w' : World} {v : Value} {xs : List ByteArray} (h : StrsR S w v xs) (he : Ext w w') : StrsR S w' v xs := h.imp (fun _ h => h) (.of_ext he) he.size
def kStr : Kind ByteArray := ⟨1, fun _ => StrE, by decide, fun h _ _ _ => h, fun h => by obtain ⟨rfl, _⟩ := h; intro u hu; simp at hu; subst hu; rfl, fun h => by obtain ⟨rfl, _⟩ := h; rfl⟩
theorem kTerm_list (S : Nat → Prop) : ListK kTerm S = TermsR S := rfl
theorem kAtom_list (S : Nat → Prop) : ListK kAtom S = AtomsR S := rfl

end Go.Proofs.YtfjdijakgjhieaaGreat

namespace Go.Proofs.YtfjdijakgjhieaaGreat
open Go.RowKit

/-- A slice value whose elements lie apart from each other, and from the slice's own block; all may be written. -/
def SliceO {α : Type} (k : Kind α) (S : Nat → Prop) (w : World) (v : Value) (xs : List α) : Prop :=
  ∃ A c, v = .slice A xs.length c ∧ xs.length ≤ c ∧ c ≤ maxLen ∧
    (0 < xs.length → ∃ (b off : Nat) (F : Nat → Nat → Prop), A = some ⟨b, off, none⟩ ∧ b < w.heap.size ∧ S b ∧
      (∀ j, j < xs.length * k.size → w.frozen? ⟨b, off + j, none⟩ = false) ∧
      (∀ i n, F i n → S n ∧ n ≠ b ∧ n < w.heap.size) ∧ (∀ i j n, F i n → F j n → i = j) ∧
      ∀ (i : Nat) (x : α), xs[i]? = some x → ∃ cs : List Value, cs.length = k.size ∧ (∀ (j : Nat) (u : Value), cs[j]? = some u → w.cell? ⟨b, off + (i * k.size + j), none⟩ = some u) ∧ k.E (F i) w cs x)

section
variable {α : Type} {k : Kind α} {S S' : Nat → Prop} {w w' : World} {v : Value} {xs : List α}
theorem SliceO.imp (h : SliceO k S w v xs) (hS : ∀ b, S b → b < w.heap.size → S' b) (he : Agree S w w') (hsz : w.heap.size ≤ w'.heap.size) : SliceO k S' w' v xs := by
  obtain ⟨A, c, hv, h1, h2, h3⟩ := h
  refine ⟨A, c, hv, h1, h2, fun h0 => ?_⟩
  obtain ⟨b, off, F, ha, hb, hs, hfr, hF, hdis, hc⟩ := h3 h0
  refine ⟨b, off, F, ha, Nat.lt_of_lt_of_le hb hsz, hS b hs hb, fun j hj => (World.frozen?_of_block (w := w) (a := ⟨b, _, none⟩) (he b hs hb)).trans (hfr j hj), fun i n hn => ⟨hS n (hF i n hn).1 (hF i n hn).2.2, (hF i n hn).2.1, Nat.lt_of_lt_of_le (hF i n hn).2.2 hsz⟩, hdis, fun i x hx => ?_⟩
  obtain ⟨cs, hl, hcs, hEx⟩ := hc i x hx
  exact ⟨cs, hl, fun j u hu => (World.cell?_of_block (w := w) (a := ⟨b, _, none⟩) (he b hs hb)).trans (hcs j u hu), k.imp hEx (fun _ h _ => h) (fun n hn hlt => he n (hF i n hn).1 hlt) hsz⟩
theorem SliceO.ext (h : SliceO k S w v xs) (he : Ext w w') : SliceO k S w' v xs := h.imp (fun _ h _ => h) (.of_ext he) he.size
theorem SliceO.sub (h : SliceO k S w v xs) (hS : ∀ b, S b → S' b) : SliceO k S' w v xs := h.imp (fun b hb _ => hS b hb) (.refl _ _) (Nat.le_refl _)
theorem SliceO.nil (c : Nat) (hc : c ≤ maxLen) (A : Option Addr) : SliceO k S w (.slice A 0 c) ([] : List α) := ⟨A, c, rfl, Nat.zero_le _, hc, fun h => absurd h (by simp)⟩
theorem SliceO.form (h : SliceO k S w v xs) : ∃ A c, v = .slice A xs.length c ∧ xs.length ≤ c ∧ c ≤ 9223372036854775807 := by
  obtain ⟨A, c, hv, h1, h2, _⟩ := h; exact ⟨A, c, hv, h1, h2⟩
theorem SliceO.low (h : SliceO k S w v xs) : SliceO k (fun b => S b ∧ b < w.heap.size) w v xs := h.imp (fun _ hb hlt => ⟨hb, hlt⟩) (.refl _ _) (Nat.le_refl _)
/-- To be read. -/
theorem SliceO.read {E' : (Nat → Prop) → World → List Value → α → Prop} (h : SliceO k S w v xs) (hE : ∀ T l x, k.E T w l x → (∀ b, T b → S b) → E' S w l x) : SliceR S k.size (E' S) w v xs := by
  obtain ⟨A, c, hv, h1, h2, h3⟩ := h
  refine ⟨A, c, hv, h1, h2, fun h0 => ?_⟩
  obtain ⟨b, off, F, ha, hb, hs, _, hF, _, hc⟩ := h3 h0
  refine ⟨b, off, ha, hb, hs, fun i x hx => ?_⟩
  obtain ⟨cs, hl, hcs, hEx⟩ := hc i x hx
  exact ⟨cs, hl, hcs, hE _ _ _ hEx (fun n hn => (hF i n hn).1)⟩
/-- One element is turned, and what it alone reaches. -/
theorem SliceO.update {A : Option Addr} {n c : Nat} (h : SliceO k S w (.slice A n c) xs) {i : Nat} (hi : i < n) :
    ∃ (b off : Nat) (F : Nat → Prop) (x : α) (cs : List Value), A = some ⟨b, off, none⟩ ∧ b < w.heap.size ∧ S b ∧ xs[i]? = some x ∧ (∀ j, j < k.size → w.frozen? ⟨b, off + (i * k.size + j), none⟩ = false) ∧ (∀ m, F m → S m ∧ m ≠ b ∧ m < w.heap.size) ∧
      cs.length = k.size ∧ (∀ (j : Nat) (u : Value), cs[j]? = some u → w.cell? ⟨b, off + (i * k.size + j), none⟩ = some u) ∧ k.E F w cs x ∧
      ∀ (w' : World) (cs' : List Value) (y : α), w.heap.size ≤ w'.heap.size → (∀ m, m ≠ b → ¬ F m → m < w.heap.size → w'.heap[m]? = w.heap[m]?) →
        (∀ o, (o < off + i * k.size ∨ off + (i + 1) * k.size ≤ o) → w'.cell? ⟨b, o, none⟩ = w.cell? ⟨b, o, none⟩) → (∀ o, w'.frozen? ⟨b, o, none⟩ = w.frozen? ⟨b, o, none⟩) →
        cs'.length = k.size → (∀ (j : Nat) (u : Value), cs'[j]? = some u → w'.cell? ⟨b, off + (i * k.size + j), none⟩ = some u) → k.E F w' cs' y → SliceO k S w' (.slice A n c) (xs.set i y) := by
  obtain ⟨A', c', hv, h1, h2, h3⟩ := h
  injection hv with hA hn hc
  subst hA; subst hn; subst hc
  obtain ⟨b, off, F, ha, hb, hs, hfr, hF, hdis, hcell⟩ := h3 (by omega)
  obtain ⟨cs, hl, hcs, hEx⟩ := hcell i xs[i] (List.getElem?_eq_getElem hi)
  have hrow : ∀ i' j, j < k.size → i' < i → off + (i' * k.size + j) < off + i * k.size := fun i' j hj hlt => by
    have : (i' + 1) * k.size ≤ i * k.size := Nat.mul_le_mul_right _ hlt
    rw [Nat.add_mul] at this; omega
  have hrow2 : ∀ i' j, i < i' → off + (i + 1) * k.size ≤ off + (i' * k.size + j) := fun i' j hlt => by
    have : (i + 1) * k.size ≤ i' * k.size := Nat.mul_le_mul_right _ hlt
    omega
  refine ⟨b, off, F i, xs[i], cs, ha, hb, hs, List.getElem?_eq_getElem hi, fun j hj => hfr _ ?_, fun m hm => hF i m hm, hl, hcs, hEx, fun w' cs' y hsz hoth hout hfrz hl' hcs' hE' => ?_⟩
  · calc i * k.size + j < i * k.size + k.size := by omega
      _ = (i + 1) * k.size := by rw [Nat.add_mul, Nat.one_mul]
      _ ≤ xs.length * k.size := Nat.mul_le_mul_right _ hi
  · have hlen : (xs.set i y).length = xs.length := List.length_set
    refine ⟨A, c, by rw [hlen], by rw [hlen]; exact h1, h2, fun _ => ⟨b, off, F, ha, Nat.lt_of_lt_of_le hb hsz, hs, fun j hj => (hfrz _).trans (hfr j (by rw [hlen] at hj; exact hj)), fun i' m hm => ⟨(hF i' m hm).1, (hF i' m hm).2.1, Nat.lt_of_lt_of_le (hF i' m hm).2.2 hsz⟩, hdis, fun i' z hz => ?_⟩⟩
    by_cases hii : i' = i
    · subst hii
      rw [List.getElem?_set_self hi] at hz
      injection hz with hz
      subst hz
      exact ⟨cs', hl', hcs', hE'⟩
    · rw [List.getElem?_set_ne (Ne.symm hii)] at hz
      obtain ⟨cs2, hl2, hcs2, hE2⟩ := hcell i' z hz
      refine ⟨cs2, hl2, fun j u hu => ?_, k.imp hE2 (fun _ h _ => h) (fun m hm hlt => hoth m (hF i' m hm).2.1 (fun e => hii (hdis _ _ _ hm e)) hlt) hsz⟩
      have hj : j < k.size := by rw [← hl2]; exact (List.getElem?_eq_some_iff.1 hu).1
      rw [hout _ (by
        rcases Nat.lt_or_gt_of_ne hii with hlt | hlt
        · exact .inl (hrow i' j hj hlt)
        · exact .inr (hrow2 i' j hlt))]
      exact hcs2 j u hu
end

/-- An own slice under construction, whose elements lie apart. -/
def OwnO {α : Type} (k : Kind α) (base : Nat) (e : TypeId) (S : Nat → Prop) (w : World) (v : Value) (xs : List α) : Prop :=
  ∃ (rows : List Value) (F : Nat → Nat → Prop), w.ownsRow base e k.size v xs.length rows ∧ rows.length = xs.length * k.size ∧
    (∀ (i : Nat) (x : α), xs[i]? = some x → ∃ l : List Value, l.length = k.size ∧ (∀ (j : Nat) (u : Value), l[j]? = some u → rows[i * k.size + j]? = some u) ∧ k.E (F i) w l x) ∧
    (∀ i n, F i n → S n ∧ n < w.heap.size) ∧ (∀ i j n, F i n → F j n → i = j) ∧ (∀ g, v.ownBlock = some g → ∀ i, ¬ F i g)

section
variable {α : Type} {k : Kind α} {S S' T : Nat → Prop} {w w' : World} {v : Value} {xs ys : List α} {base : Nat} {e : TypeId}
theorem OwnO.nil : OwnO k base e S w (.slice none 0 0) [] := ⟨[], fun _ _ => False, World.ownsRow_nil _ _ _ _, by simp, fun i x h => by simp at h, fun _ _ h => h.elim, fun _ _ _ h => h.elim, fun _ _ _ h => h⟩
theorem OwnO.empty {g : Nat} (hg : g = w.heap.size) (hb : base ≤ g) : OwnO k base e S (w.alloc (.cells #[] e)) (.slice (some ⟨g, 0, none⟩) 0 0) ([] : List α) := by
  subst hg
  exact ⟨[], fun _ _ => False, ⟨by simp, .inr ⟨w.heap.size, 0, #[], rfl, hb, Blk.new w e #[], Nat.le_refl _, Nat.zero_le _, by simp, by simp⟩⟩, by simp, fun i x h => by simp at h, fun _ _ h => h.elim, fun _ _ _ h => h.elim, fun _ _ _ h => h⟩
theorem OwnO.at_ (h : OwnO k base e S w v xs) : ∀ g, v.ownBlock = some g → base ≤ g ∧ g < w.heap.size := by
  obtain ⟨rows, F, h1, _⟩ := h
  exact h1.lt
theorem OwnO.form2 (h : OwnO k base e S w v xs) : ∃ A n c, v = .slice A n c ∧ Hid (n = xs.length) ∧ n ≤ c ∧ c ≤ 9223372036854775807 := by
  obtain ⟨rows, F, h1, _⟩ := h
  rcases h1.2 with ⟨rfl, h0⟩ | ⟨g, cap, cur, rfl, _, _, h2, h3, _⟩
  · exact ⟨none, 0, 0, rfl, Lib.hid h0.symm, by omega, by omega⟩
  · exact ⟨_, _, _, rfl, Lib.hid rfl, h2, h3⟩
theorem OwnO.agree (h : OwnO k base e S w v xs) (h1 : Agree S w w') (h2 : ∀ g, v.ownBlock = some g → w'.heap[g]? = w.heap[g]?) (hsz : w.heap.size ≤ w'.heap.size) : OwnO k base e S w' v xs := by
  obtain ⟨rows, F, k1, k2, k3, k4, k5, k6⟩ := h
  refine ⟨rows, F, ⟨k1.1, ?_⟩, k2, fun i x hx => ?_, fun i n hn => ⟨(k4 i n hn).1, Nat.lt_of_lt_of_le (k4 i n hn).2 hsz⟩, k5, k6⟩
  · rcases k1.2 with h0 | ⟨g, cap, cur, rfl, hb, hc, h3⟩
    · exact .inl h0
    · exact .inr ⟨g, cap, cur, rfl, hb, (h2 g rfl).trans hc, h3⟩
  · obtain ⟨l, m1, m2, m3⟩ := k3 i x hx
    exact ⟨l, m1, m2, k.imp m3 (fun _ h _ => h) (fun n hn hlt => h1 n (k4 i n hn).1 hlt) hsz⟩
theorem OwnO.ext (h : OwnO k base e S w v xs) (he : Ext w w') : OwnO k base e S w' v xs := h.agree (.of_ext he) (fun g hg => he.block g (h.at_ g hg).2) he.size
theorem OwnO.sub (h : OwnO k base e S w v xs) (hS : ∀ b, S b → b < w.heap.size → S' b) : OwnO k base e S' w v xs := by
  obtain ⟨rows, F, k1, k2, k3, k4, k5, k6⟩ := h
  exact ⟨rows, F, k1, k2, k3, fun i n hn => ⟨hS n (k4 i n hn).1 (k4 i n hn).2, (k4 i n hn).2⟩, k5, k6⟩
theorem OwnO.slice (h : OwnO k base e S w v xs) (hS : ∀ b, S b → S' b) (hS' : ∀ b, base ≤ b → S' b) : SliceO k S' w v xs := by
  obtain ⟨rows, F, k1, k2, k3, k4, k5, k6⟩ := h
  rcases k1.2 with ⟨rfl, h0⟩ | ⟨g, cap, cur, rfl, hb, hc, h2, h3, h4, h5⟩
  · have : xs = [] := List.eq_nil_of_length_eq_zero h0
    subst this
    exact SliceO.nil 0 (Nat.zero_le _) none
  · have hblk : Blk w g e cur := hc
    refine ⟨_, cap, rfl, h2, h3, fun _ => ⟨g, 0, F, rfl, hblk.lt, hS' g hb, fun j _ => hblk.frozen _, fun i n hn => ⟨hS n (k4 i n hn).1, fun e => k6 g rfl i (e ▸ hn), (k4 i n hn).2⟩, k5, fun i x hx => ?_⟩⟩
    obtain ⟨l, m1, m2, m3⟩ := k3 i x hx
    refine ⟨l, m1, fun j u hu => ?_, m3⟩
    have h6 := m2 j u hu
    rw [← h5, List.getElem?_take] at h6
    split at h6
    · rw [hblk.cell, Nat.zero_add]
      simpa using h6
    · cases h6

/-- What an append of one element leaves. -/
structure AppedO (k : Kind α) (base : Nat) (e : TypeId) (S : Nat → Prop) (w : World) (v : Value) (zs : List α) (v' : Value) (w' : World) : Prop where
  own : OwnO k base e S w' v' zs
  below : Below base w w'
  grown : w.grownBy w' v.ownBlock
  at_ : v'.ownBlock = v.ownBlock ∨ v'.ownBlock = some w.heap.size

theorem AppedO.toExt {w0 w w' : World} {v v' : Value} {zs : List α} (h : AppedO k base e S w v zs v' w') (hx : Ext w0 w) (hb : w0.heap.size ≤ base) : Ext w0 w' := Below.trans hx (h.below.mono hb)
theorem AppedO.blk {w w' : World} {v v' : Value} {zs : List α} {g : Nat} {t : TypeId} {cs : Array Value} (h : AppedO k base e S w v zs v' w') (hb : Blk w g t cs) (hg : g < base) : Blk w' g t cs := hb.below h.below hg

theorem run_appO {P : Program} (w : World) (t ty : TypeId) (i : TypeInfo) (z : Value) (bytes : Nat) (ht : P.underlying t = some (.slice e)) (hi : P.info? e = some i) (hz : i.zero = some z)
    (hsize : i.size = k.size) (hby : i.bytes = bytes) (hzs : z.cells.size = k.size)
    (hown : OwnO k base e S w v xs) (l : List Value) (x : α) (gb : Nat) (tb : TypeId) (hE : k.E T w l x) (hb : Blk w gb tb l.toArray) (hT : ∀ b, T b → b < w.heap.size → S' b) (hS : ∀ b, S b → S' b) (hdis : ∀ b, T b → ¬ S b) (hTv : ∀ g, v.ownBlock = some g → ¬ T g)
    (h63 : xs.length + 1 ≤ maxLen) (hbytes : (xs.length + 1) * bytes ≤ 140737488355328) (hbase : base ≤ w.heap.size) :
    ∃ v' w', (Builtin.append_ #[t, t] ty #[v, .slice (some ⟨gb, 0, none⟩) 1 1]).run P w = .ok v' w' ∧ AppedO k base e S' w v (xs ++ [x]) v' w' := by
  obtain ⟨rows, F, k1, k2, k3, k4, k5, k6⟩ := id hown
  have hlt := k1.lt
  have hl := k.len hE
  obtain ⟨v', w', hr, h1, h2, h3, h4⟩ := run_append_own_at (P := P) w base t ty e i z k.size bytes ht hi hz hsize hby hzs k.pos v xs.length rows k1 ⟨gb, 0, none⟩ 1 1 l (by rw [hl]; omega)
    (fun j u hj => by rw [addr_add, Nat.zero_add, hb.cell]; simpa using hj) (fun u hu => k.one hE u hu) h63 hbytes hbase
  have hbl := grown_below h2 (fun g hg => (hlt g hg).1) hbase
  have hlen : (xs ++ [x]).length = xs.length + 1 := by simp
  refine ⟨v', w', hr, ⟨rows ++ l, fun i n => (i < xs.length ∧ F i n) ∨ (i = xs.length ∧ T n ∧ n < w.heap.size), by rw [hlen]; exact h1, by rw [List.length_append, k2, hl, hlen, Nat.add_mul, Nat.one_mul], fun i y hy => ?_, fun i n hn => ?_, fun i j n hi hj => ?_, fun g hg i hn => ?_⟩, hbl, h2, h4⟩
  · rcases Nat.lt_or_ge i xs.length with hix | hix
    · rw [List.getElem?_append_left hix] at hy
      obtain ⟨l', m1, m2, m3⟩ := k3 i y hy
      refine ⟨l', m1, fun j u hu => ?_, k.imp m3 (fun b hb _ => .inl ⟨hix, hb⟩) (fun b hb hlt' => h2.block b hlt' (fun e => k6 b e.symm i hb)) h2.size⟩
      have := m2 j u hu
      rw [List.getElem?_append_left (List.getElem?_eq_some_iff.1 this).1]
      exact this
    · rw [List.getElem?_append_right hix] at hy
      have hi0 : i = xs.length := by
        have := (List.getElem?_eq_some_iff.1 hy).1
        simp at this; omega
      subst hi0
      simp at hy
      subst hy
      refine ⟨l, hl, fun j u hu => ?_, k.imp hE (fun b hb hlt' => .inr ⟨rfl, hb, hlt'⟩) (fun b hb hlt' => h2.block b hlt' (fun e => hTv b e.symm hb)) h2.size⟩
      rw [← k2, List.getElem?_append_right (Nat.le_add_right _ _), Nat.add_sub_cancel_left]
      exact hu
  · rcases hn with ⟨_, hn⟩ | ⟨_, hn, hlt'⟩
    · exact ⟨hS n (k4 i n hn).1, Nat.lt_of_lt_of_le (k4 i n hn).2 h2.size⟩
    · exact ⟨hT n hn hlt', Nat.lt_of_lt_of_le hlt' h2.size⟩
  · rcases hi with ⟨hi1, hi2⟩ | ⟨hi1, hi2, _⟩ <;> rcases hj with ⟨hj1, hj2⟩ | ⟨hj1, hj2, _⟩
    · exact k5 i j n hi2 hj2
    · exact absurd (k4 i n hi2).1 (hdis n hj2)
    · exact absurd (k4 j n hj2).1 (hdis n hi2)
    · omega
  · rcases h4 with h4 | h4
    · rw [h4] at hg
      rcases hn with ⟨_, hn⟩ | ⟨_, hn, _⟩
      · exact k6 g hg i hn
      · exact hTv g hg hn
    · rw [h4] at hg; injection hg with hg
      rcases hn with ⟨_, hn⟩ | ⟨_, hn, hlt'⟩
      · have := (k4 i g hn).2; omega
      · omega

theorem wp_appO {P : Program} (w : World) {o : Oper} {a : Act} {K : Act → World → Prop} {Q : Exit → Act → World → Prop} (s x' : Operand) (t : TypeId)
    (ho : o.op = .call { callee := .builtin .append, args := #[s, x'], argTypes := #[t, t] })
    (i : TypeInfo) (z : Value) (bytes : Nat) (ht : P.underlying t = some (.slice e)) (hi : P.info? e = some i) (hz : i.zero = some z)
    (hsize : i.size = k.size) (hby : i.bytes = bytes) (hzs : z.cells.size = k.size)
    (hs : a.eval s = v) (hown : OwnO k base e S w v xs) (gb : Nat) (hx : a.eval x' = .slice (some ⟨gb, 0, none⟩) 1 1) (l : List Value) (x : α) (tb : TypeId) (hE : k.E T w l x) (hb : Blk w gb tb l.toArray) (hT : ∀ b, T b → b < w.heap.size → S' b) (hS : ∀ b, S b → S' b) (hdis : ∀ b, T b → ¬ S b) (hTv : ∀ g, v.ownBlock = some g → ¬ T g)
    (h63 : xs.length + 1 ≤ maxLen) (hbytes : (xs.length + 1) * bytes ≤ 140737488355328) (hbase : base ≤ w.heap.size)
    (h : ∀ v' w', AppedO k base e S' w v (xs ++ [x]) v' w' → K (a.put o.dst v') w') : o.wp P a w K Q := by
  obtain ⟨v', w', hr, h2⟩ := run_appO (P := P) w t o.type i z bytes ht hi hz hsize hby hzs hown l x gb tb hE hb hT hS hdis hTv h63 hbytes hbase
  unfold Oper.wp execOp
  simp only [ho, resolve, invoke, builtin, Sem.run_bind, Sem.run_pure, Result.andThen_ok, List.map_toArray, List.map_cons, List.map_nil, hs, hx, hr]
  exact h v' w' h2

theorem wpList_appO {P : Program} {w : World} {ops : Array Oper} {rest : List Oper} {o : Oper} {a : Act} {Q : Exit → Act → World → Prop} (hgd : o.guard = none) (s x' : Operand) (t : TypeId)
    (ho : o.op = .call { callee := .builtin .append, args := #[s, x'], argTypes := #[t, t] })
    (i : TypeInfo) (z : Value) (bytes : Nat) (ht : P.underlying t = some (.slice e)) (hi : P.info? e = some i) (hz : i.zero = some z)
    (hsize : i.size = k.size) (hby : i.bytes = bytes) (hzs : z.cells.size = k.size)
    (hs : a.eval s = v) (hown : OwnO k base e S w v xs) (gb : Nat) (hx : a.eval x' = .slice (some ⟨gb, 0, none⟩) 1 1) (l : List Value) (x : α) (tb : TypeId) (hE : k.E T w l x) (hb : Blk w gb tb l.toArray) (hT : ∀ b, T b → b < w.heap.size → S' b) (hS : ∀ b, S b → S' b) (hdis : ∀ b, T b → ¬ S b) (hTv : ∀ g, v.ownBlock = some g → ¬ T g)
    (h63 : xs.length + 1 ≤ maxLen) (hbytes : (xs.length + 1) * bytes ≤ 140737488355328) (hbase : base ≤ w.heap.size)
    (h : ∀ v' w', AppedO k base e S' w v (xs ++ [x]) v' w' → wpList P ops Q rest (a.put o.dst v') w') : wpList P ops Q (o :: rest) a w :=
  wpList_plain hgd fun _ hK => wp_appO w s x' t ho i z bytes ht hi hz hsize hby hzs hs hown gb hx l x tb hE hb hT hS hdis hTv h63 hbytes hbase fun v' w' h2 => hK _ _ (h v' w' h2)
end

/-! ### The kinds -/
def TermsO (S : Nat → Prop) : World → Value → List GT → Prop := SliceO kTerm S
def AtomEO (S : Nat → Prop) (w : World) (cs : List Value) (a : GA) : Prop := ∃ v, cs = [.string a.n, v] ∧ a.n.size ≤ maxLen ∧ TermsO S w v a.args
theorem TermsO.imp {S S' : Nat → Prop} {w w' : World} {v : Value} {xs : List GT} (h : TermsO S w v xs) (hS : ∀ b, S b → b < w.heap.size → S' b) (he : Agree S w w') (hsz : w.heap.size ≤ w'.heap.size) : TermsO S' w' v xs := SliceO.imp h hS he hsz
theorem TermsO.read {S : Nat → Prop} {w : World} {v : Value} {xs : List GT} (h : TermsO S w v xs) : TermsR S w v xs := SliceO.read (E' := fun _ => TermE) h (fun _ _ _ h _ => h)
theorem OwnK.termsO {base : Nat} {e : TypeId} {S : Nat → Prop} {w : World} {v : Value} {xs : List GT} (h : OwnK kTerm base e S w v xs) : TermsO (From base) w v xs := by
  obtain ⟨rows, T, k1, k2, _, _⟩ := h
  have h1 : OwnO kTerm base e None w v xs := ⟨rows, fun _ _ => False, k1, k2.1, fun i x hx => k2.2 i x hx, fun _ _ h => h.elim, fun _ _ _ h => h.elim, fun _ _ _ h => h⟩
  exact OwnO.slice h1 (fun _ h => h.elim) (fun _ h => h)
def kAtomO : Kind GA := ⟨2, AtomEO, by decide, fun h hS he hsz => by obtain ⟨v, h1, h2, h3⟩ := h; exact ⟨v, h1, h2, h3.imp hS he hsz⟩,
  fun {_ _ l x} h => by
    obtain ⟨v, rfl, _, ht⟩ := h
    obtain ⟨A, c, rfl, _⟩ := SliceO.form ht
    intro u hu; simp at hu; rcases hu with rfl | rfl <;> rfl, fun h => by obtain ⟨v, rfl, _⟩ := h; rfl⟩
def AtomsO (S : Nat → Prop) : World → Value → List GA → Prop := SliceO kAtomO S
theorem AtomEO.read {S T : Nat → Prop} {w : World} {l : List Value} {a : GA} (h : AtomEO T w l a) (hS : ∀ b, T b → S b) : AtomE S w l a := by
  obtain ⟨v, h1, h2, h3⟩ := h
  exact ⟨v, h1, h2, TermsR.sub h3.read hS⟩
theorem AtomsO.read {S : Nat → Prop} {w : World} {v : Value} {xs : List GA} (h : AtomsO S w v xs) : AtomsR S w v xs := SliceO.read (k := kAtomO) (E' := AtomE) h (fun _ _ _ h hS => AtomEO.read h hS)

end Go.Proofs.YtfjdijakgjhieaaGreat

namespace Go.Proofs.YtfjdijakgjhieaaGreat
open Go.RowKit

section
variable {α : Type} {k : Kind α} {S S' T : Nat → Prop} {w w' : World} {v u : Value} {xs : List α}
theorem SliceO.set (h : SliceO k S w v xs) {p : Addr} (hp : ¬ S p.block) (u : Value) : SliceO k S (w.setCell p u) v xs :=
  h.imp (fun _ h _ => h) ((Agree.refl _ _).setCell hp u) (by simp [World.setCell])
theorem SliceO.setAt (h : SliceO k S w v xs) {b o : Nat} (hp : ¬ S b) (u : Value) : SliceO k S (w.setCell ⟨b, o, none⟩ u) v xs := h.set (p := ⟨b, o, none⟩) hp u
theorem SliceO.one {v : Value} {xs : List α} (h : SliceO k S w v xs) : v.oneCell' = true := by obtain ⟨A, c, rfl, _⟩ := h.form; rfl
theorem ListK.one {v : Value} {xs : List α} (h : ListK k S w v xs) : v.oneCell' = true := by obtain ⟨A, c, rfl, _⟩ := SliceR.form h; rfl
end

theorem AtomsR.impL {S S' : Nat → Prop} {w w' : World} {v : Value} {xs : List GA} (h : AtomsR S w v xs) (hS : ∀ b, S b → b < w.heap.size → S' b) (he : Agree S w w') (hsz : w.heap.size ≤ w'.heap.size) : AtomsR S' w' v xs := ListK.imp (k := kAtom) h hS he hsz
def kPart : Kind GP := ⟨3, PartE, by decide, fun h hS he hsz => by obtain ⟨v, h1, h2, h3⟩ := h; exact ⟨v, h1, h2, h3.impL hS he hsz⟩,
  fun {_ _ l x} h => by obtain ⟨v, rfl, _, ht⟩ := h; intro u hu; simp at hu; rcases hu with rfl | rfl | rfl <;> first | rfl | exact ListK.one (k := kTerm) ht, fun h => by obtain ⟨v, rfl, _⟩ := h; rfl⟩
theorem PartsR.impL {S S' : Nat → Prop} {w w' : World} {v : Value} {xs : List GP} (h : PartsR S w v xs) (hS : ∀ b, S b → b < w.heap.size → S' b) (he : Agree S w w') (hsz : w.heap.size ≤ w'.heap.size) : PartsR S' w' v xs := ListK.imp (k := kPart) h hS he hsz
def kRule : Kind GR := ⟨3, RuleE, by decide, fun h hS he hsz => by obtain ⟨v, u, h1, h2, h3, h4⟩ := h; exact ⟨v, u, h1, h2, h3.impL hS he hsz, h4.impL hS he hsz⟩,
  fun {_ _ l x} h => by obtain ⟨v, u, rfl, _, ht, hp⟩ := h; intro y hy; simp at hy; rcases hy with rfl | rfl | rfl <;> first | rfl | exact ListK.one (k := kTerm) ht | exact ListK.one (k := kPart) hp, fun h => by obtain ⟨v, u, rfl, _⟩ := h; rfl⟩
theorem RulesR.impL {S S' : Nat → Prop} {w w' : World} {v : Value} {xs : List GR} (h : RulesR S w v xs) (hS : ∀ b, S b → b < w.heap.size → S' b) (he : Agree S w w') (hsz : w.heap.size ≤ w'.heap.size) : RulesR S' w' v xs := ListK.imp (k := kRule) h hS he hsz
def kChange : Kind GC := ⟨2, ChangeE, by decide, fun h hS he hsz => by obtain ⟨v, u, h1, h2, h3⟩ := h; exact ⟨v, u, h1, h2.impL hS he hsz, h3.impL hS he hsz⟩,
  fun {_ _ l x} h => by obtain ⟨v, u, rfl, ht, hp⟩ := h; intro y hy; simp at hy; rcases hy with rfl | rfl <;> first | exact ListK.one (k := kAtom) ht | exact ListK.one (k := kAtom) hp, fun h => by obtain ⟨v, u, rfl, _⟩ := h; rfl⟩
def ChangesR (S : Nat → Prop) : World → Value → List GC → Prop := SliceR S 2 (ChangeE S)
theorem ChangesR.impL {S S' : Nat → Prop} {w w' : World} {v : Value} {xs : List GC} (h : ChangesR S w v xs) (hS : ∀ b, S b → b < w.heap.size → S' b) (he : Agree S w w') (hsz : w.heap.size ≤ w'.heap.size) : ChangesR S' w' v xs := ListK.imp (k := kChange) h hS he hsz
theorem ChangesR.ext {S : Nat → Prop} {w w' : World} {v : Value} {xs : List GC} (h : ChangesR S w v xs) (he : Ext w w') : ChangesR S w' v xs := h.impL (fun _ h _ => h) (.of_ext he) he.size
theorem ChangesR.sub {S S' : Nat → Prop} {w : World} {v : Value} {xs : List GC} (h : ChangesR S w v xs) (hS : ∀ b, S b → S' b) : ChangesR S' w v xs := h.impL (fun b hb _ => hS b hb) (.refl _ _) (Nat.le_refl _)
theorem ChangesR.at_ {S : Nat → Prop} {w : World} {A : Option Addr} {n c : Nat} {xs : List GC} (h : ChangesR S w (.slice A n c) xs) {k : Nat} (hk : k < n) :
    ∃ (b off : Nat) (x : GC) (v u : Value), A = some ⟨b, off, none⟩ ∧ b < w.heap.size ∧ xs[k]? = some x ∧ AtomsR S w v x.comes ∧ AtomsR S w u x.goes ∧
      w.cell? ⟨b, off + k * 2, none⟩ = some v ∧ w.cell? ⟨b, off + k * 2 + 1, none⟩ = some u := by
  obtain ⟨b, off, x, cs, hA, hb, hx, _, hc, v, u, rfl, ht, hp⟩ := SliceR.at_ h hk
  exact ⟨b, off, x, v, u, hA, hb, hx, ht, hp, hc 0 _ rfl, hc 1 _ rfl⟩

/-! ### Owned whole -/
def PartEO (S : Nat → Prop) (w : World) (cs : List Value) (p : GP) : Prop := ∃ v, cs = [.bool p.no, .string p.atom.n, v] ∧ p.atom.n.size ≤ maxLen ∧ TermsO S w v p.atom.args
def kPartO : Kind GP := ⟨3, PartEO, by decide, fun h hS he hsz => by obtain ⟨v, h1, h2, h3⟩ := h; exact ⟨v, h1, h2, h3.imp hS he hsz⟩,
  fun {_ _ l x} h => by obtain ⟨v, rfl, _, ht⟩ := h; intro u hu; simp at hu; rcases hu with rfl | rfl | rfl <;> first | rfl | exact SliceO.one ht, fun h => by obtain ⟨v, rfl, _⟩ := h; rfl⟩
def PartsO (S : Nat → Prop) : World → Value → List GP → Prop := SliceO kPartO S
theorem PartEO.read {S T : Nat → Prop} {w : World} {l : List Value} {a : GP} (h : PartEO T w l a) (hS : ∀ b, T b → S b) : PartE S w l a := by
  obtain ⟨v, h1, h2, h3⟩ := h
  exact ⟨v, h1, h2, TermsR.sub h3.read hS⟩
theorem PartsO.read {S : Nat → Prop} {w : World} {v : Value} {xs : List GP} (h : PartsO S w v xs) : PartsR S w v xs := SliceO.read (k := kPartO) (E' := PartE) h (fun _ _ _ h hS => PartEO.read h hS)
def RuleEO (S : Nat → Prop) (w : World) (cs : List Value) (r : GR) : Prop := ∃ (v u : Value) (S1 S2 : Nat → Prop), cs = [.string r.head.n, v, u] ∧ r.head.n.size ≤ maxLen ∧ TermsO S1 w v r.head.args ∧ PartsO S2 w u r.body ∧ (∀ b, S1 b → S b) ∧ (∀ b, S2 b → S b) ∧ ∀ b, S1 b → ¬ S2 b
theorem RuleEO.imp {S S' : Nat → Prop} {w w' : World} {cs : List Value} {x : GR} (h : RuleEO S w cs x) (hS : ∀ b, S b → b < w.heap.size → S' b) (he : Agree S w w') (hsz : w.heap.size ≤ w'.heap.size) : RuleEO S' w' cs x := by
  obtain ⟨v, u, S1, S2, h1, h2, h3, h4, h5, h6, h7⟩ := h
  exact ⟨v, u, fun b => S1 b ∧ b < w.heap.size, fun b => S2 b ∧ b < w.heap.size, h1, h2, SliceO.imp h3 (fun b hb hlt => ⟨hb, hlt⟩) (fun b hb hlt => he b (h5 b hb) hlt) hsz,
    SliceO.imp h4 (fun b hb hlt => ⟨hb, hlt⟩) (fun b hb hlt => he b (h6 b hb) hlt) hsz, fun b hb => hS b (h5 b hb.1) hb.2, fun b hb => hS b (h6 b hb.1) hb.2, fun b hb hc => h7 b hb.1 hc.1⟩
def kRuleO : Kind GR := ⟨3, RuleEO, by decide, RuleEO.imp,
  fun {_ _ l x} h => by obtain ⟨v, u, _, _, rfl, _, ht, hp, _⟩ := h; intro y hy; simp at hy; rcases hy with rfl | rfl | rfl <;> first | rfl | exact SliceO.one ht | exact SliceO.one hp, fun h => by obtain ⟨v, u, _, _, rfl, _⟩ := h; rfl⟩
def RulesO (S : Nat → Prop) : World → Value → List GR → Prop := SliceO kRuleO S
theorem RuleEO.read {S T : Nat → Prop} {w : World} {l : List Value} {a : GR} (h : RuleEO T w l a) (hS : ∀ b, T b → S b) : RuleE S w l a := by
  obtain ⟨v, u, S1, S2, h1, h2, h3, h4, h5, h6, h7⟩ := h
  exact ⟨v, u, h1, h2, TermsR.sub h3.read (fun b hb => hS b (h5 b hb)), PartsR.sub h4.read (fun b hb => hS b (h6 b hb))⟩
theorem RulesO.read {S : Nat → Prop} {w : World} {v : Value} {xs : List GR} (h : RulesO S w v xs) : RulesR S w v xs := SliceO.read (k := kRuleO) (E' := RuleE) h (fun _ _ _ h hS => RuleEO.read h hS)
def ChangeEO (S : Nat → Prop) (w : World) (cs : List Value) (c : GC) : Prop := ∃ (v u : Value) (S1 S2 : Nat → Prop), cs = [v, u] ∧ AtomsO S1 w v c.comes ∧ AtomsO S2 w u c.goes ∧ (∀ b, S1 b → S b) ∧ (∀ b, S2 b → S b) ∧ ∀ b, S1 b → ¬ S2 b
theorem ChangeEO.imp {S S' : Nat → Prop} {w w' : World} {cs : List Value} {x : GC} (h : ChangeEO S w cs x) (hS : ∀ b, S b → b < w.heap.size → S' b) (he : Agree S w w') (hsz : w.heap.size ≤ w'.heap.size) : ChangeEO S' w' cs x := by
  obtain ⟨v, u, S1, S2, h1, h3, h4, h5, h6, h7⟩ := h
  exact ⟨v, u, fun b => S1 b ∧ b < w.heap.size, fun b => S2 b ∧ b < w.heap.size, h1, SliceO.imp h3 (fun b hb hlt => ⟨hb, hlt⟩) (fun b hb hlt => he b (h5 b hb) hlt) hsz,
    SliceO.imp h4 (fun b hb hlt => ⟨hb, hlt⟩) (fun b hb hlt => he b (h6 b hb) hlt) hsz, fun b hb => hS b (h5 b hb.1) hb.2, fun b hb => hS b (h6 b hb.1) hb.2, fun b hb hc => h7 b hb.1 hc.1⟩
def kChangeO : Kind GC := ⟨2, ChangeEO, by decide, ChangeEO.imp,
  fun {_ _ l x} h => by obtain ⟨v, u, _, _, rfl, ht, hp, _⟩ := h; intro y hy; simp at hy; rcases hy with rfl | rfl <;> first | exact SliceO.one ht | exact SliceO.one hp, fun h => by obtain ⟨v, u, _, _, rfl, _⟩ := h; rfl⟩
def ChangesO (S : Nat → Prop) : World → Value → List GC → Prop := SliceO kChangeO S
theorem ChangeEO.read {S T : Nat → Prop} {w : World} {l : List Value} {a : GC} (h : ChangeEO T w l a) (hS : ∀ b, T b → S b) : ChangeE S w l a := by
  obtain ⟨v, u, S1, S2, h1, h3, h4, h5, h6, h7⟩ := h
  exact ⟨v, u, h1, AtomsR.sub h3.read (fun b hb => hS b (h5 b hb)), AtomsR.sub h4.read (fun b hb => hS b (h6 b hb))⟩
theorem ChangesO.read {S : Nat → Prop} {w : World} {v : Value} {xs : List GC} (h : ChangesO S w v xs) : ChangesR S w v xs := SliceO.read (k := kChangeO) (E' := ChangeE) h (fun _ _ _ h hS => ChangeEO.read h hS)

end Go.Proofs.YtfjdijakgjhieaaGreat
