/- Slices that a call itself makes by append, whatever their elements. No program in sight. -/
import Derived.Test.YthndnkafckapnaaGreatDoorOwn
namespace Go.Proofs.YthndnkafckapnaaGreatDoor
open Go.RowKit

theorem maxOf {n : Nat} (h : n ≤ 1000000000) : n ≤ maxLen := by unfold maxLen; omega
abbrev None : Nat → Prop := fun _ => False

/-- What an element is: its cells, and how they are held. -/
structure Kind (α : Type) where
  size : Nat
  E : (Nat → Prop) → World → List Value → α → Prop
  pos : 0 < size
  imp : ∀ {S S' : Nat → Prop} {w w' : World} {cs : List Value} {x : α}, E S w cs x → (∀ b, S b → b < w.heap.size → S' b) → Agree S w w' → w.heap.size ≤ w'.heap.size → E S' w' cs x
  one : ∀ {S : Nat → Prop} {w : World} {l : List Value} {x : α}, E S w l x → ∀ u ∈ l, u.oneCell' = true
  len : ∀ {S : Nat → Prop} {w : World} {l : List Value} {x : α}, E S w l x → l.length = size

theorem SliceR.impL {α : Type} {S S' : Nat → Prop} {size : Nat} {E E' : World → List Value → α → Prop} {w w' : World} {v : Value} {xs : List α}
    (hE : ∀ cs x, x ∈ xs → E w cs x → E' w' cs x) (hS : ∀ b, S b → b < w.heap.size → S' b) (h : SliceR S size E w v xs) (he : Agree S w w') (hsz : w.heap.size ≤ w'.heap.size) : SliceR S' size E' w' v xs := by
  obtain ⟨A, c, hv, h1, h2, h3⟩ := h
  refine ⟨A, c, hv, h1, h2, fun h0 => ?_⟩
  obtain ⟨b, off, ha, hb, hs, hc⟩ := h3 h0
  refine ⟨b, off, ha, Nat.lt_of_lt_of_le hb hsz, hS b hs hb, fun i x hx => ?_⟩
  obtain ⟨cs, hl, hcs, hEx⟩ := hc i x hx
  exact ⟨cs, hl, fun j u hu => (World.cell?_of_block (w := w) (a := ⟨b, _, none⟩) (he b hs hb)).trans (hcs j u hu), hE _ _ (List.mem_of_getElem? hx) hEx⟩

/-- A slice value that reads as xs. -/
def ListK {α : Type} (k : Kind α) (S : Nat → Prop) (w : World) (v : Value) (xs : List α) : Prop := SliceR S k.size (k.E S) w v xs

section
variable {α : Type} {k : Kind α} {S S' : Nat → Prop} {w w' : World} {v : Value} {xs : List α}
theorem ListK.imp (h : ListK k S w v xs) (hS : ∀ b, S b → b < w.heap.size → S' b) (he : Agree S w w') (hsz : w.heap.size ≤ w'.heap.size) : ListK k S' w' v xs :=
  SliceR.impL (fun _ _ _ h => k.imp h hS he hsz) hS h he hsz
theorem ListK.ext (h : ListK k S w v xs) (he : Ext w w') : ListK k S w' v xs := h.imp (fun _ h _ => h) (.of_ext he) he.size
theorem ListK.sub (h : ListK k S w v xs) (hS : ∀ b, S b → S' b) : ListK k S' w v xs := h.imp (fun b hb _ => hS b hb) (.refl _ _) (Nat.le_refl _)
/-- Only its elements matter. -/
def ElemsK (k : Kind α) (S : Nat → Prop) (w : World) (v : Value) (xs : List α) : Prop := SliceR Any k.size (k.E S) w v xs
theorem ListK.elems (h : ListK k S w v xs) : ElemsK k S w v xs := SliceR.impL (fun _ _ _ h => h) (fun _ _ _ => trivial) h (.refl _ _) (Nat.le_refl _)
theorem ListK.nil (c : Nat) (hc : c ≤ maxLen) (A : Option Addr) : ListK k S w (.slice A 0 c) [] := SliceR.nil_ c hc A
theorem ElemsK.nil (c : Nat) (hc : c ≤ maxLen) (A : Option Addr) : ElemsK k S w (.slice A 0 c) [] := SliceR.nil_ c hc A
theorem ElemsK.ext (h : ElemsK k S w v xs) (he : Ext w w') : ElemsK k S w' v xs := SliceR.impL (fun _ _ _ h => k.imp h (fun _ h _ => h) (.of_ext he) he.size) (fun _ _ _ => trivial) h (.of_ext he) he.size
/-- One element, laid down by itself. -/
theorem ElemsK.one {g : Nat} {t : TypeId} {l : List Value} {x : α} (hb : Blk w g t l.toArray) (h : k.E S w l x) : ElemsK k S w (.slice (some ⟨g, 0, none⟩) 1 1) [x] := by
  refine ⟨_, 1, rfl, Nat.le_refl _, by unfold maxLen; omega, fun _ => ⟨g, 0, rfl, hb.lt, trivial, fun i y hy => ?_⟩⟩
  cases i with
  | zero =>
    simp at hy; subst hy
    refine ⟨l, k.len h, fun j u hu => ?_, h⟩
    rw [hb.cell]
    simpa using hu
  | succ i => simp at hy
end

/-- An own slice (from block base on), whose elements lie in S, and not in its own block. -/
def OwnK {α : Type} (k : Kind α) (base : Nat) (e : TypeId) (S : Nat → Prop) (w : World) (v : Value) (xs : List α) : Prop :=
  ∃ rows T, w.ownsRow base e k.size v xs.length rows ∧ RowsE k.size (k.E T) w rows xs ∧ (∀ b, T b → S b ∧ b < w.heap.size) ∧ ∀ g, v.ownBlock = some g → ¬ T g

section
variable {α : Type} {k : Kind α} {S S' : Nat → Prop} {w w' : World} {v : Value} {xs ys : List α} {base : Nat} {e : TypeId}
theorem OwnK.form (h : OwnK k base e S w v xs) : ∃ A c, v = .slice A xs.length c ∧ xs.length ≤ c ∧ c ≤ 9223372036854775807 := by
  obtain ⟨rows, T, h1, _⟩ := h
  rcases h1.2 with ⟨rfl, h0⟩ | ⟨g, cap, cur, rfl, _, _, h2, h3, _⟩
  · exact ⟨none, 0, by rw [h0], by omega, by omega⟩
  · exact ⟨_, _, rfl, h2, h3⟩
theorem OwnK.form2 (h : OwnK k base e S w v xs) : ∃ A n c, v = .slice A n c ∧ Hid (n = xs.length) ∧ n ≤ c ∧ c ≤ 9223372036854775807 := by
  obtain ⟨A, c, h1, h2, h3⟩ := h.form
  exact ⟨A, _, c, h1, Lib.hid rfl, h2, h3⟩
theorem OwnK.nil : OwnK k base e S w (.slice none 0 0) [] := ⟨[], fun _ => False, World.ownsRow_nil _ _ _ _, RowsE.nil, fun _ h => h.elim, fun _ _ h => h⟩
theorem OwnK.empty {g : Nat} (hg : g = w.heap.size) (hb : base ≤ g) : OwnK k base e S (w.alloc (.cells #[] e)) (.slice (some ⟨g, 0, none⟩) 0 0) ([] : List α) := by
  subst hg
  refine ⟨[], fun _ => False, ⟨by simp, .inr ⟨w.heap.size, 0, #[], rfl, hb, Blk.new w e #[], Nat.le_refl _, Nat.zero_le _, by simp, by simp⟩⟩, RowsE.nil, fun _ h => h.elim, fun _ _ h => h⟩
theorem OwnK.at_ (h : OwnK k base e S w v xs) : ∀ g, v.ownBlock = some g → base ≤ g ∧ g < w.heap.size := by
  obtain ⟨rows, T, h1, _⟩ := h
  exact h1.lt
theorem OwnK.agree (h : OwnK k base e S w v xs) (h1 : Agree S w w') (h2 : ∀ g, v.ownBlock = some g → w'.heap[g]? = w.heap[g]?) (hsz : w.heap.size ≤ w'.heap.size) : OwnK k base e S w' v xs := by
  obtain ⟨rows, T, k1, k2, k3, k4⟩ := h
  refine ⟨rows, T, ⟨k1.1, ?_⟩, k2.mono (fun l x _ hx => k.imp hx (fun _ h _ => h) (fun b hb hlt => h1 b (k3 b hb).1 hlt) hsz), fun b hb => ⟨(k3 b hb).1, Nat.lt_of_lt_of_le (k3 b hb).2 hsz⟩, k4⟩
  rcases k1.2 with h0 | ⟨g, cap, cur, rfl, hb, hc, h3⟩
  · exact .inl h0
  · exact .inr ⟨g, cap, cur, rfl, hb, (h2 g rfl).trans hc, h3⟩
theorem OwnK.ext (h : OwnK k base e S w v xs) (he : Ext w w') : OwnK k base e S w' v xs :=
  h.agree (.of_ext he) (fun g hg => he.block g (h.at_ g hg).2) he.size
theorem OwnK.drew (h : OwnK k base e S w v xs) : OwnK k base e S w.drew v xs := h.ext (Ext.refl _).drew
theorem OwnK.alloc (h : OwnK k base e S w v xs) (o : Obj) : OwnK k base e S (w.alloc o) v xs := h.ext ((Ext.refl _).alloc o)
theorem OwnK.set (h : OwnK k base e S w v xs) {p : Addr} (hp : p.block < base) (hS : ¬ S p.block) (u : Value) : OwnK k base e S (w.setCell p u) v xs :=
  h.agree ((Agree.refl _ _).setCell hS u) (fun g hg => Below.heap_setCell w p u g (by have := (h.at_ g hg).1; omega)) (by go_size)
theorem OwnK.sub (h : OwnK k base e S w v xs) {base' : Nat} (hb : base' ≤ base) (hS : ∀ b, S b → S' b) : OwnK k base' e S' w v xs := by
  obtain ⟨rows, T, k1, k2, k3, k4⟩ := h
  refine ⟨rows, T, ⟨k1.1, ?_⟩, k2, fun b hb => ⟨hS b (k3 b hb).1, (k3 b hb).2⟩, k4⟩
  rcases k1.2 with h0 | ⟨g, cap, cur, rfl, hbb, hc, h3⟩
  · exact .inl h0
  · exact .inr ⟨g, cap, cur, rfl, Nat.le_trans hb hbb, hc, h3⟩
theorem OwnK.list (h : OwnK k base e S w v xs) (hS : ∀ b, S b → S' b) (hS' : ∀ b, base ≤ b → S' b) : ListK k S' w v xs := by
  obtain ⟨rows, T, k1, k2, k3, k4⟩ := h
  have h1 := own_slice (E := k.E S') (xs := xs) k1 (k2.mono (fun l x _ hx => k.imp hx (fun b hb _ => hS b (k3 b hb).1) (.refl _ _) (Nat.le_refl _))) rfl
  exact SliceR.impL (fun _ _ _ h => h) (fun b hb _ => hS' b hb) h1 (.refl _ _) (Nat.le_refl _)
end

section
variable {α : Type} {k : Kind α} {S T : Nat → Prop} {v : Value} {xs ys : List α} {base : Nat} {e : TypeId}
theorem run_append_of_nil {P : Program} (w : World) (base : Nat) (t ty e : TypeId) (i : TypeInfo) (size : Nat) (ht : P.underlying t = some (.slice e)) (hi : P.info? e = some i)
    (v : Value) (n : Nat) (xs : List Value) (hown : w.ownsRow base e size v n xs) (c : Nat) : (Builtin.append_ #[t, t] ty #[v, .slice none 0 c]).run P w = .ok v w := by
  rcases hown.2 with ⟨rfl, rfl⟩ | ⟨g, cap, cur, rfl, _, _, hnc, _⟩
  · simp [Builtin.append_, run_underlying ht, sizeOf, typeInfo, hi, Builtin.lenOf, Builtin.firstCells]
  · simp [Builtin.append_, run_underlying ht, sizeOf, typeInfo, hi, Builtin.lenOf, Builtin.firstCells, hnc, storeCells]

/-- What an append leaves. -/
structure Apped (k : Kind α) (base : Nat) (e : TypeId) (S : Nat → Prop) (w : World) (v : Value) (zs : List α) (v' : Value) (w' : World) : Prop where
  own : OwnK k base e S w' v' zs
  below : Below base w w'
  grown : w.grownBy w' v.ownBlock
  at_ : v'.ownBlock = v.ownBlock ∨ v'.ownBlock = some w.heap.size

theorem Apped.toExt {w0 w w' : World} {v v' : Value} {zs : List α} (h : Apped k base e S w v zs v' w') (hx : Ext w0 w) (hb : w0.heap.size ≤ base) : Ext w0 w' := Below.trans hx (h.below.mono hb)
theorem Apped.blk {w w' : World} {v v' : Value} {zs : List α} {g : Nat} {t : TypeId} {cs : Array Value} (h : Apped k base e S w v zs v' w') (hb : Blk w g t cs) (hg : g < base) : Blk w' g t cs := hb.below h.below hg

theorem grown_below {w w' : World} {row : Option Nat} (h : w.grownBy w' row) (hr : ∀ g, row = some g → base ≤ g) (hb : base ≤ w.heap.size) : Below base w w' :=
  ⟨h.os, h.tape, h.output, h.size, fun i hi => h.block i (Nat.lt_of_lt_of_le hi hb) (fun e => by have := hr i e.symm; omega)⟩

theorem run_appK {P : Program} (w : World) (t ty : TypeId) (i : TypeInfo) (z : Value) (bytes : Nat) (ht : P.underlying t = some (.slice e)) (hi : P.info? e = some i) (hz : i.zero = some z)
    (hsize : i.size = k.size) (hby : i.bytes = bytes) (hzs : z.cells.size = k.size)
    (hown : OwnK k base e S w v xs) (A : Option Addr) (m c : Nat) (hu : ElemsK k T w (.slice A m c) ys) (hT : ∀ b, T b → b < w.heap.size → S b) (hTv : ∀ g, v.ownBlock = some g → ¬ T g)
    (h63 : xs.length + m ≤ maxLen) (hbytes : (xs.length + m) * bytes ≤ 140737488355328) (hbase : base ≤ w.heap.size) :
    ∃ v' w', (Builtin.append_ #[t, t] ty #[v, .slice A m c]).run P w = .ok v' w' ∧ Apped k base e S w v (xs ++ ys) v' w' := by
  obtain ⟨rows, U, k1, k2, k3, k4⟩ := id hown
  have hlt := k1.lt
  by_cases hm : m = 0
  · subst hm
    have hys : ys = [] := by
      obtain ⟨A', c', hv, _⟩ := hu
      injection hv with _ hn _
      exact List.eq_nil_of_length_eq_zero hn.symm
    subst hys
    rw [List.append_nil]
    rcases A with _ | ad
    · exact ⟨v, w, run_append_of_nil w base t ty e i k.size ht hi v _ rows k1 c, hown, Below.refl _ _, World.grownBy.refl w _, .inl rfl⟩
    · obtain ⟨v', w', hr, h1, h2, h3, h4⟩ := run_append_own_at (P := P) w base t ty e i z k.size bytes ht hi hz hsize hby hzs k.pos v xs.length rows k1 ad 0 c [] (by simp) (by simp) (by simp) h63 hbytes hbase
      have hb := grown_below h2 (fun g hg => (hlt g hg).1) hbase
      rw [Nat.add_zero, List.append_nil] at h1
      refine ⟨v', w', hr, ⟨rows, U, h1, k2.mono (fun l x _ hx => k.imp hx (fun _ h _ => h) (fun b hb hlt' => h2.block b hlt' (fun e => k4 b e.symm hb)) h2.size), fun b hb => ⟨(k3 b hb).1, Nat.lt_of_lt_of_le (k3 b hb).2 h2.size⟩, fun g hg hU => ?_⟩, hb, h2, h4⟩
      rcases h4 with h4 | h4
      · exact k4 g (h4 ▸ hg) hU
      · rw [h4] at hg; injection hg with hg; have := (k3 g hU).2; omega
  · obtain ⟨b, off, news, rfl, hb, _, hn, hl, hrow, hcell⟩ := SliceR.rows_ hu (by omega) k.pos
    obtain ⟨v', w', hr, h1, h2, h3, h4⟩ := run_append_own_at (P := P) w base t ty e i z k.size bytes ht hi hz hsize hby hzs k.pos v xs.length rows k1 ⟨b, off, none⟩ m c news hl (fun j u hj => by rw [addr_add]; exact hcell j u hj)
      (hrow.oneCell k.pos (fun l x hx => k.one hx)) h63 hbytes hbase
    have hbl := grown_below h2 (fun g hg => (hlt g hg).1) hbase
    refine ⟨v', w', hr, ⟨rows ++ news, fun b => (U b ∨ T b) ∧ b < w.heap.size, by rw [List.length_append, ← hn]; exact h1, ?_, fun b hb => ⟨?_, Nat.lt_of_lt_of_le hb.2 h2.size⟩, fun g hg hU => ?_⟩, hbl, h2, h4⟩
    · exact (k2.mono (E' := k.E (fun b => (U b ∨ T b) ∧ b < w.heap.size)) (w' := w') (fun l x _ hx => k.imp hx (fun b hb hlt => ⟨.inl hb, hlt⟩) (fun b hb hlt' => h2.block b hlt' (fun e => k4 b e.symm hb)) h2.size)).append
        (hrow.mono (fun l x _ hx => k.imp hx (fun b hb hlt => ⟨.inr hb, hlt⟩) (fun b hb hlt' => h2.block b hlt' (fun e => hTv b e.symm hb)) h2.size))
    · rcases hb.1 with hb' | hb'
      · exact (k3 b hb').1
      · exact hT b hb' hb.2
    · rcases h4 with h4 | h4
      · rw [h4] at hg
        rcases hU.1 with hU' | hU'
        · exact k4 g hg hU'
        · exact hTv g hg hU'
      · rw [h4] at hg; injection hg with hg; have := hU.2; omega

theorem wp_appK {P : Program} (w : World) {o : Oper} {a : Act} {K : Act → World → Prop} {Q : Exit → Act → World → Prop} (s x : Operand) (t : TypeId)
    (ho : o.op = .call { callee := .builtin .append, args := #[s, x], argTypes := #[t, t] })
    (i : TypeInfo) (z : Value) (bytes : Nat) (ht : P.underlying t = some (.slice e)) (hi : P.info? e = some i) (hz : i.zero = some z)
    (hsize : i.size = k.size) (hby : i.bytes = bytes) (hzs : z.cells.size = k.size)
    (hs : a.eval s = v) (hown : OwnK k base e S w v xs) (A : Option Addr) (m c : Nat) (hx : a.eval x = .slice A m c) (hu : ElemsK k T w (.slice A m c) ys) (hT : ∀ b, T b → b < w.heap.size → S b) (hTv : ∀ g, v.ownBlock = some g → ¬ T g)
    (h63 : xs.length + m ≤ maxLen) (hbytes : (xs.length + m) * bytes ≤ 140737488355328) (hbase : base ≤ w.heap.size)
    (h : ∀ v' w', Apped k base e S w v (xs ++ ys) v' w' → K (a.put o.dst v') w') : o.wp P a w K Q := by
  obtain ⟨v', w', hr, h2⟩ := run_appK (P := P) w t o.type i z bytes ht hi hz hsize hby hzs hown A m c hu hT hTv h63 hbytes hbase
  unfold Oper.wp execOp
  simp only [ho, resolve, invoke, builtin, Sem.run_bind, Sem.run_pure, Result.andThen_ok, List.map_toArray, List.map_cons, List.map_nil, hs, hx, hr]
  exact h v' w' h2

theorem wpList_appK {P : Program} {w : World} {ops : Array Oper} {rest : List Oper} {o : Oper} {a : Act} {Q : Exit → Act → World → Prop} (hgd : o.guard = none) (s x : Operand) (t : TypeId)
    (ho : o.op = .call { callee := .builtin .append, args := #[s, x], argTypes := #[t, t] })
    (i : TypeInfo) (z : Value) (bytes : Nat) (ht : P.underlying t = some (.slice e)) (hi : P.info? e = some i) (hz : i.zero = some z)
    (hsize : i.size = k.size) (hby : i.bytes = bytes) (hzs : z.cells.size = k.size)
    (hs : a.eval s = v) (hown : OwnK k base e S w v xs) (A : Option Addr) (m c : Nat) (hx : a.eval x = .slice A m c) (hu : ElemsK k T w (.slice A m c) ys) (hT : ∀ b, T b → b < w.heap.size → S b) (hTv : ∀ g, v.ownBlock = some g → ¬ T g)
    (h63 : xs.length + m ≤ maxLen) (hbytes : (xs.length + m) * bytes ≤ 140737488355328) (hbase : base ≤ w.heap.size)
    (h : ∀ v' w', Apped k base e S w v (xs ++ ys) v' w' → wpList P ops Q rest (a.put o.dst v') w') : wpList P ops Q (o :: rest) a w :=
  wpList_plain hgd fun _ hK => wp_appK w s x t ho i z bytes ht hi hz hsize hby hzs hs hown A m c hx hu hT hTv h63 hbytes hbase fun v' w' h2 => hK _ _ (h v' w' h2)

theorem step_appK {P : Program} {w : World} {ops : Array Oper} {o : Oper} {a : Act} {K : Act → World → Prop} {Q : Exit → Act → World → Prop} {E : Prop} (hgd : o.guard = none) (s x : Operand) (t : TypeId)
    (ho : o.op = .call { callee := .builtin .append, args := #[s, x], argTypes := #[t, t] })
    (i : TypeInfo) (z : Value) (bytes : Nat) (ht : P.underlying t = some (.slice e)) (hi : P.info? e = some i) (hz : i.zero = some z)
    (hsize : i.size = k.size) (hby : i.bytes = bytes) (hzs : z.cells.size = k.size)
    (hs : a.eval s = v) (hown : OwnK k base e S w v xs) (A : Option Addr) (m c : Nat) (hx : a.eval x = .slice A m c) (hu : ElemsK k T w (.slice A m c) ys) (hT : ∀ b, T b → b < w.heap.size → S b) (hTv : ∀ g, v.ownBlock = some g → ¬ T g)
    (h63 : xs.length + m ≤ maxLen) (hbytes : (xs.length + m) * bytes ≤ 140737488355328) (hbase : base ≤ w.heap.size)
    (h : ∀ v' w', Apped k base e S w v (xs ++ ys) v' w' → K (a.put o.dst v') w') :
    if Region.wanted o (yielded ops a.tmps) = true then Oper.wp P o a w K Q else E := by
  have hw : Region.wanted o (yielded ops a.tmps) = true := by simp [Region.wanted, hgd]
  rw [if_pos hw]
  exact wp_appK w s x t ho i z bytes ht hi hz hsize hby hzs hs hown A m c hx hu hT hTv h63 hbytes hbase h
end

section
variable {α : Type} {k : Kind α} {S T : Nat → Prop} {v : Value} {xs ys : List α} {base : Nat} {e : TypeId}
/-- The elements lie below the own blocks. -/
theorem step_appL {P : Program} {w : World} {ops : Array Oper} {o : Oper} {a : Act} {K : Act → World → Prop} {Q : Exit → Act → World → Prop} {E : Prop} (hgd : o.guard = none) (s x : Operand) (t : TypeId)
    (ho : o.op = .call { callee := .builtin .append, args := #[s, x], argTypes := #[t, t] })
    (i : TypeInfo) (z : Value) (bytes : Nat) (ht : P.underlying t = some (.slice e)) (hi : P.info? e = some i) (hz : i.zero = some z)
    (hsize : i.size = k.size) (hby : i.bytes = bytes) (hzs : z.cells.size = k.size)
    (hs : a.eval s = v) (hown : OwnK k base e S w v xs) (A : Option Addr) (m c : Nat) (hx : a.eval x = .slice A m c) (hu : ElemsK k T w (.slice A m c) ys) (hT : ∀ b, T b → S b ∧ b < base)
    (h63 : xs.length + m ≤ maxLen) (hbytes : (xs.length + m) * bytes ≤ 140737488355328) (hbase : base ≤ w.heap.size)
    (h : ∀ v' w', Apped k base e S w v (xs ++ ys) v' w' → K (a.put o.dst v') w') :
    if Region.wanted o (yielded ops a.tmps) = true then Oper.wp P o a w K Q else E :=
  step_appK hgd s x t ho i z bytes ht hi hz hsize hby hzs hs hown A m c hx hu (fun b hb _ => (hT b hb).1) (fun g hg hb => absurd (hown.at_ g hg).1 (Nat.not_le.2 (hT g hb).2)) h63 hbytes hbase h
theorem wpList_appL {P : Program} {w : World} {ops : Array Oper} {rest : List Oper} {o : Oper} {a : Act} {Q : Exit → Act → World → Prop} (hgd : o.guard = none) (s x : Operand) (t : TypeId)
    (ho : o.op = .call { callee := .builtin .append, args := #[s, x], argTypes := #[t, t] })
    (i : TypeInfo) (z : Value) (bytes : Nat) (ht : P.underlying t = some (.slice e)) (hi : P.info? e = some i) (hz : i.zero = some z)
    (hsize : i.size = k.size) (hby : i.bytes = bytes) (hzs : z.cells.size = k.size)
    (hs : a.eval s = v) (hown : OwnK k base e S w v xs) (A : Option Addr) (m c : Nat) (hx : a.eval x = .slice A m c) (hu : ElemsK k T w (.slice A m c) ys) (hT : ∀ b, T b → S b ∧ b < base)
    (h63 : xs.length + m ≤ maxLen) (hbytes : (xs.length + m) * bytes ≤ 140737488355328) (hbase : base ≤ w.heap.size)
    (h : ∀ v' w', Apped k base e S w v (xs ++ ys) v' w' → wpList P ops Q rest (a.put o.dst v') w') : wpList P ops Q (o :: rest) a w :=
  wpList_appK hgd s x t ho i z bytes ht hi hz hsize hby hzs hs hown A m c hx hu (fun b hb _ => (hT b hb).1) (fun g hg hb => absurd (hown.at_ g hg).1 (Nat.not_le.2 (hT g hb).2)) h63 hbytes hbase h
theorem Apped.blk2 {w w' : World} {v v' : Value} {zs : List α} {g : Nat} {t : TypeId} {cs : Array Value} (h : Apped k base e S w v zs v' w') (hb : Blk w g t cs) (hg : v.ownBlock ≠ some g) : Blk w' g t cs :=
  (h.grown.block g hb.lt (fun e => hg e.symm)).trans hb
theorem Blk.at_new {w : World} {g : Nat} {t : TypeId} {cs : Array Value} (hg : g = w.heap.size) : Blk (w.alloc (.cells cs t)) g t cs := by subst hg; exact Blk.new _ _ _
theorem ListK.low {w : World} (h : ListK k S w v xs) : ListK k (fun b => S b ∧ b < w.heap.size) w v xs := h.imp (fun _ hb hlt => ⟨hb, hlt⟩) (.refl _ _) (Nat.le_refl _)
theorem ElemsK.sub {w : World} (h : ElemsK k S w v xs) (hS : ∀ b, S b → b < w.heap.size → T b) : ElemsK k T w v xs := SliceR.impL (fun _ _ _ h => k.imp h hS (.refl _ _) (Nat.le_refl _)) (fun _ _ _ => trivial) h (.refl _ _) (Nat.le_refl _)
/-- A slice's head. -/
theorem SliceR.fst {size : Nat} {E : World → List Value → α → Prop} {w : World} {A : Option Addr} {n c : Nat} (h : SliceR S size E w (.slice A n c) xs) (j : Nat) (hj : j ≤ n) : SliceR S size E w (.slice A j c) (xs.take j) := by
  obtain ⟨A', c', hv, h1, h2, h3⟩ := h
  injection hv with hA hn hc
  subst hA; subst hn; subst hc
  have hl : (xs.take j).length = j := by rw [List.length_take]; omega
  refine ⟨A, c, by rw [hl], by omega, h2, fun h0 => ?_⟩
  obtain ⟨b, off, ha, hb, hs, hcell⟩ := h3 (by omega)
  exact ⟨b, off, ha, hb, hs, fun i x hx => hcell i x (by
    rw [List.getElem?_take] at hx
    split at hx
    · exact hx
    · cases hx)⟩
/-- A slice's tail. -/
theorem SliceR.drop {size : Nat} {E : World → List Value → α → Prop} {w : World} {A : Option Addr} {n c : Nat} (h : SliceR S size E w (.slice A n c) xs) (j : Nat) (hj : j ≤ n) : SliceR S size E w (.slice (if c = j then A else A.map (·.add (j * size))) (n - j) (c - j)) (xs.drop j) := by
  obtain ⟨A', c', hv, h1, h2, h3⟩ := h
  injection hv with hA hn hc
  subst hA; subst hn; subst hc
  refine ⟨_, c - j, by rw [List.length_drop], by rw [List.length_drop]; omega, by omega, fun h0 => ?_⟩
  rw [List.length_drop] at h0
  obtain ⟨b, off, rfl, hb, hs, hcell⟩ := h3 (by omega)
  refine ⟨b, off + j * size, by rw [if_neg (by omega)]; simp [addr_add], hb, hs, fun i x hx => ?_⟩
  rw [List.getElem?_drop] at hx
  obtain ⟨cs, k1, k2, k3⟩ := hcell (j + i) x hx
  refine ⟨cs, k1, fun q u hu => ?_, k3⟩
  have := k2 q u hu
  rwa [show off + ((j + i) * size + q) = off + j * size + (i * size + q) from by rw [Nat.add_mul]; omega] at this
end

/-! ### The kinds -/
theorem TermsR.impL {S S' : Nat → Prop} {w w' : World} {v : Value} {xs : List GT} (h : TermsR S w v xs) (hS : ∀ b, S b → b < w.heap.size → S' b) (he : Agree S w w') (hsz : w.heap.size ≤ w'.heap.size) : TermsR S' w' v xs :=
  SliceR.impL (E := TermE) (w := w) (fun _ _ _ h => h) hS h he hsz
def kTerm : Kind GT := ⟨2, fun _ => TermE, by decide, fun h _ _ _ => h, fun {_ w l x} h => TermE.oneCell (w := w) l x h, fun h => by obtain ⟨rfl, _⟩ := h; rfl⟩
def kAtom : Kind GA := ⟨2, AtomE, by decide, fun h hS he hsz => by obtain ⟨v, h1, h2, h3⟩ := h; exact ⟨v, h1, h2, h3.impL hS he hsz⟩, fun {_ _ l x} h => AtomE.oneCell l x h, fun h => by obtain ⟨v, rfl, _⟩ := h; rfl⟩
/-- Texts. -/
def StrE (_ : World) (cs : List Value) (s : ByteArray) : Prop := cs = [.string s] ∧ s.size ≤ maxLen
def StrsR (S : Nat → Prop) : World → Value → List ByteArray → Prop := SliceR S 1 StrE
theorem StrsR.at_ {S : Nat → Prop} {w : World} {A : Option Addr} {n c : Nat} {xs : List ByteArray} (h : StrsR S w (.slice A n c) xs) {k : Nat} (hk : k < n) :
    ∃ (b off : Nat) (x : ByteArray), A = some ⟨b, off, none⟩ ∧ b < w.heap.size ∧ xs[k]? = some x ∧ x.size ≤ maxLen ∧ w.cell? ⟨b, off + k, none⟩ = some (.string x) := by
  obtain ⟨b, off, x, cs, hA, hb, hx, _, hc, rfl, hs⟩ := SliceR.at_ h hk
  exact ⟨b, off, x, hA, hb, hx, hs, by simpa using hc 0 _ rfl⟩
theorem StrsR.imp {S S' : Nat → Prop} {w w' : World} {v : Value} {xs : List ByteArray} (h : StrsR S w v xs) (hS : ∀ b, S b → S' b) (he : Agree S w w') (hsz : w.heap.size ≤ w'.heap.size) : StrsR S' w' v xs :=
  SliceR.imp (E := StrE) (w := w) (fun _ _ _ h => h) hS h he hsz

theorem StrsR.ext {S : Nat → Prop} {w w' : World} {v : Value} {xs : List ByteArray} (h : StrsR S w v xs) (he : Ext w w') : StrsR S w' v xs := h.imp (fun _ h => h) (.of_ext he) he.size
def kStr : Kind ByteArray := ⟨1, fun _ => StrE, by decide, fun h _ _ _ => h, fun h => by obtain ⟨rfl, _⟩ := h; intro u hu; simp at hu; subst hu; rfl, fun h => by obtain ⟨rfl, _⟩ := h; rfl⟩
theorem kTerm_list (S : Nat → Prop) : ListK kTerm S = TermsR S := rfl
theorem kAtom_list (S : Nat → Prop) : ListK kAtom S = AtomsR S := rfl

end Go.Proofs.YthndnkafckapnaaGreatDoor
