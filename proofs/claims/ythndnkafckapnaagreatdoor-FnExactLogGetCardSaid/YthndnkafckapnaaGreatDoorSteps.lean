/- A range over an iterator that writes cells of its own between two rounds, by a body that never leaves the loop. No program in sight. -/
import Derived.RangeFuncNested
import Derived.RangeFuncBound
import Derived.RangeFuncCalls
import Derived.RangeFuncLeaves
import Derived.RangeFuncWrites
namespace Go.Proofs.YthndnkafckapnaaGreatDoor
open Go Go.RowKit

/-- What such an iterator promises: Step: what it does to the world between two rounds; E: what it says of an element as it hands it out; Kp: what a round must keep. -/
def SeqSteps {α : Type} (F : Fence) (n : Nat) (P : Program) (g : Nat) (lb : Array Value) (encs : α → Array Value) (Step : World → World → Prop) (E : World → World → α → Prop) (Kp : World → World → Prop) (S : List α → Prop) (N : Nat) (w : World) : Prop :=
  ∀ (l : Nat) (J : List α → World → Prop) (W : World), Below w.heap.size w W → (∀ s A B, J s A → Step A B → J s B) →
    (∀ pre x W0 W1, J pre W0 → Step W0 W1 → E W0 W1 x → pre.length < N → YieldAt F (n - 1) P l (encs x) W1 fun e W' => e = .returned (.bool true) ∧ J (pre ++ [x]) W' ∧ Kp W1 W') →
    J [] W → CallsIn F n P g (#[.func (.yield l) #[] #[]] ++ lb) W fun e W' => (∃ v, e = .returned v) ∧ ∃ xs, S xs ∧ J xs W'

/-- Nothing has turned but the two blocks that the range itself laid. -/
structure Turned (D : Nat) (A B : World) : Prop where
  os : B.os = A.os
  tape : B.tape = A.tape
  output : B.output = A.output
  size : A.heap.size ≤ B.heap.size
  block : ∀ b, b < A.heap.size → b ≠ D → b ≠ D + 1 → B.heap[b]? = A.heap[b]?
theorem Turned.putObj {D l : Nat} (W : World) (o : Obj) (hl : l = D ∨ l = D + 1) : Turned D W (W.putObj l o) :=
  ⟨rfl, rfl, rfl, by simp, fun b _ h1 h2 => World.putObj_heap_other (by omega)⟩

/-- A round goes on. -/
def stepPost {α : Type} (Kp : World → World → Prop) (I : List α → World → Prop) (xs : List α) (W : World) : Exit → Act → World → Prop
  | .normal, _, W' => KeepsOthers W W' ∧ Kp W W' ∧ I xs W'
  | _, _, _ => False

variable {F : Fence} {n : Nat} {P : Program}
theorem wpIn_range_steps {α : Type} {fo : Operand} {ps : Array Tmp} {assign body : Code} {Q : Exit → Act → World → Prop} {a : Act} {w : World}
    (hro : F.round = none) (h1 : 1 ≤ n) {gf : Nat} {lb : Array Value} (hg : a.eval fo = .func (.func gf) #[] lb) (hFg : F.fn gf) (eg : ∀ args w, (callFunc gf args).run P w = .ok (.enter gf args) w)
    {encs : α → Array Value} {Step Kp : World → World → Prop} {E : World → World → α → Prop} {S : List α → Prop} {N : Nat} {w0 : World} (hseq : SeqSteps F (n - 1) P gf lb encs Step E Kp S N w0)
    (hSk : ∀ (A B : World) (l : Nat) (o : Obj), Step A B → w.heap.size ≤ l → A.heap[l]? = some o → o.isCells = false → B.heap[l]? = some o)
    (hKt : ∀ {A B C : World}, Kp A B → Kp B C → Kp A C) (hKb : ∀ (W : World) (l : Nat) (o o' : Obj), w.heap.size ≤ l → W.heap[l]? = some o → o.isCells = false → o.isWalk = false → Kp W (W.putObj l o')) (hb0 : Below w0.heap.size w0 w) (hps : ∀ x, (encs x).size = ps.size)
    (I : List α → World → Prop) (hI : ∀ s A B, I s A → Turned w.heap.size A B → I s B) (hIS : ∀ s A B, I s A → Step A B → I s B) (h0 : I [] w) (a₁ : α → World → Act) (g : α → World → World) (hgs : ∀ x W, KeepsOthers W (g x W)) (hgk : ∀ x W, Kp W (g x W))
    (hassign : ∀ (x : α) (W : World) (K : Act → World → Prop), K (a₁ x W) (g x W) →
      assign.wpIn (F.inRound (w.heap.size + 1)) (n - 1 - 1) P (Exit.then K (fun _ _ _ => False)) { tmps := (ps.zip (encs x)).foldl (fun t (p, v) => t.setIfInBounds p v) a.tmps, defers := [] } W)
    (hbody : ∀ (pre : List α) (x : α) (W0 W1 : World) (o' : Obj), I pre W0 → Step W0 W1 → E W0 W1 x → pre.length < N → w.heap.size + 1 < W0.heap.size → w.heap.size + 1 < W1.heap.size → (∃ o : Obj, W1.heap[w.heap.size + 1]? = some o ∧ o.isCells = false) →
      body.wpIn (F.inRound (w.heap.size + 1)) (n - 1 - 1) P (stepPost Kp I (pre ++ [x]) ((g x W1).putObj (w.heap.size + 1) o')) (a₁ x W1) ((g x W1).putObj (w.heap.size + 1) o'))
    (hdone : ∀ (xs : List α) (W : World), S xs → I xs W → W.heap[w.heap.size]? = some (.deferred (some [])) → Q .normal { a with defers := { target := .collected w.heap.size, args := #[] } :: a.defers } W) :
    (Code.rangeFunc fo ps assign body).wpIn F n P Q a w := by
  refine wpIn_rangeFunc ?_
  intro fn hfn
  rw [hro]
  obtain ⟨D, hD⟩ : ∃ D, D = w.heap.size := ⟨_, rfl⟩
  obtain ⟨rec, hrec⟩ : ∃ rec : LoopState → Option Code → Loop, rec = fun st pe => { state := st, pending := pe, fn, tmps := a.tmps, params := ps, assign, body, defers := D } := ⟨_, rfl⟩
  obtain ⟨W1, hW1⟩ : ∃ W1, (w.alloc (.deferred (some []))).alloc (.loop (rec .ready none)) = W1 := ⟨_, rfl⟩
  have hL1 : W1.heap[D + 1]? = some (.loop (rec .ready none)) := by
    have h := World.alloc_heap_new (w.alloc (.deferred (some []))) (.loop (rec .ready none))
    rw [World.size_alloc, hW1, ← hD] at h; exact h
  have hK1 : W1.heap[D]? = some (.deferred (some [])) := by
    rw [← hW1, hD]; exact (Below.heap_alloc _ _ _ (by simp)).trans (World.alloc_heap_new w _)
  have hI1 : I [] W1 := by
    refine hI _ _ _ h0 ?_
    rw [← hW1]
    exact ⟨rfl, rfl, rfl, by simp only [World.size_alloc]; omega, fun b hb _ _ => (Below.heap_alloc _ _ b (by simp only [World.size_alloc]; omega)).trans (Below.heap_alloc _ _ b hb)⟩
  have hb1 : Below w0.heap.size w0 W1 := by
    rw [← hW1]; exact hb0.trans ((((Below.refl _ w).alloc (Nat.le_refl _) _).alloc (by simp) _).mono hb0.size)
  rw [← hD] at hSk hKb hI hassign hbody hdone
  -- the three facts that go through every step
  let J : List α → World → Prop := fun pre W => I pre W ∧ W.heap[D + 1]? = some (.loop (rec .ready none)) ∧ W.heap[D]? = some (.deferred (some []))
  have hJ : ∀ s A B, J s A → Step A B → J s B := fun s A B h hs => ⟨hIS s A B h.1 hs, hSk A B _ _ hs (by omega) h.2.1 rfl, hSk A B _ _ hs (Nat.le_refl _) h.2.2 rfl⟩
  have round : ∀ pre x W0 W2, J pre W0 → Step W0 W2 → E W0 W2 x → pre.length < N → YieldAt F (n - 1 - 1) P (D + 1) (encs x) W2 fun e W' => e = .returned (.bool true) ∧ J (pre ++ [x]) W' ∧ Kp W2 W' := by
    intro pre x W0 W2 h0 hs he hlen
    have hlt0 : D + 1 < W0.heap.size := (Array.getElem?_eq_some_iff.1 h0.2.1).1
    obtain ⟨_, hl, hk⟩ := hJ pre W0 W2 h0 hs
    have hlt : D + 1 < W2.heap.size := (Array.getElem?_eq_some_iff.1 hl).1
    have hy := run_yield (P := P) (args := encs x) hl (by rw [hrec]; exact hps x)
    rw [hrec] at hy
    have hlg := (hgs x W2).same _ _ hl rfl
    have hltg : D + 1 < (g x W2).heap.size := (Array.getElem?_eq_some_iff.1 hlg).1
    have hl2 : ((g x W2).putObj (D + 1) (.loop { rec .ready none with state := .busy })).heap[D + 1]? = some (.loop { rec .ready none with state := .busy }) := World.putObj_heap_same hltg
    have hk2 : ((g x W2).putObj (D + 1) (.loop { rec .ready none with state := .busy })).heap[D]? = some (.deferred (some [])) := (World.putObj_heap_other (by omega)).trans ((hgs x W2).same _ _ hk rfl)
    refine ⟨fn, _, assign, body, hy, roundIn_of_wpIn hfn (hassign x W2 _ ⟨_, run_beginRound hlg (by rw [hrec]), ?_⟩)⟩
    refine wpIn_mono (hbody pre x W0 W2 (.loop { rec .ready none with state := .busy }) h0.1 hs he hlen hlt0 hlt ⟨_, hl, rfl⟩) ?_
    intro e a3 W3 hp
    cases e with
    | normal =>
      obtain ⟨hk3, hkp3, hi3⟩ := hp
      have hl3 := hk3.same _ _ hl2 rfl
      have hr := run_endRound (P := P) none hl3
      rw [hrec] at hr
      refine ⟨_, _, hr, ?_⟩
      rw [hrec] at hl3
      refine ⟨rfl, ⟨hI _ _ _ hi3 (Turned.putObj _ _ (.inr rfl)), ?_, ?_⟩, hKt (hKt (hKt (hgk x W2) (hKb _ _ _ _ (by omega) hlg rfl rfl)) hkp3) (hKb _ _ _ _ (by omega) hl3 rfl rfl)⟩
      · rw [World.putObj_heap_same (Array.getElem?_eq_some_iff.1 hl3).1, hrec]; rfl
      · exact (World.putObj_heap_other (by omega)).trans (hk3.same _ _ hk2 rfl)
    | ret => exact hp.elim
    | exit id => exact hp.elim
    | goto t => exact hp.elim
    | panic ch => exact hp.elim
    | outgrown => exact hp.elim
  refine ⟨D + 1, [{ target := .collected D, args := #[] }], W1, { target := .fn (.func gf) lb, args := #[.func (.yield (D + 1)) #[] #[]] }, W1, gf, #[.func (.yield (D + 1)) #[] #[]] ++ lb, W1, ?_, ?_, ?_, ?_, fun _ => h1, ?_⟩
  · rw [← hW1, hrec, hD]; exact run_enterLoop_outer _ _ _ _ _
  · simp only [resolve, hg]
    simp [go_sem]
  · intro f' hf'; simp [Target.leads] at hf'; subst hf'; exact hFg
  · simp [invoke, go_sem, eg]
  · refine (hseq (D + 1) J W1 hb1 hJ round ⟨hI1, hL1, hK1⟩).mono ?_
    rintro e W2 ⟨⟨v, rfl⟩, xs, hS, hi, hl, hk⟩
    have hend := run_endLoop (P := P) hl (by rw [hrec]; simp)
    rw [hrec] at hend
    exact ⟨none, _, hend, hdone xs _ hS (hI _ _ _ hi (Turned.putObj _ _ (.inr rfl))) ((World.putObj_heap_other (by omega)).trans hk)⟩

end Go.Proofs.YthndnkafckapnaaGreatDoor
