/- Part of the texts of a proof: own texts joined in the order of their building; what they say stands at each theorem. -/
import Derived.Test.YtfjdijakgjhieaaGreatBas02
import Derived.Test.YtfjdijakgjhieaaGreatRows
import Derived.StillTailTactics
import Derived.BigQuiet
import Derived.WalkLawsBesides
import Derived.Test.YtfjdijakgjhieaaGreatBas01
namespace Go.Proofs.YtfjdijakgjhieaaGreat
set_option linter.unusedSimpArgs false
set_option linter.unusedVariables false
open Go.RowKit

/-! ### Slots, patterns, numbers -/
def GS.num (s : GS) : Int := match s.v with
 | none => -1
 | some v => (v : Int)
def SlotE (_ : World) (cs : List Value) (s : GS) : Prop := cs = [.int .i64 s.num, .string s.w] ∧ s.w.size ≤ maxLen
def SlotsR (S : Nat → Prop) : World → Value → List GS → Prop := SliceR S 2 SlotE
def kSlot : Kind GS := ⟨2, fun _ => SlotE, by decide, fun h _ _ _ => h, fun h => by obtain ⟨rfl, _⟩ := h; intro u hu; simp at hu; rcases hu with rfl | rfl <;> rfl, fun h => by obtain ⟨rfl, _⟩ := h; rfl⟩
theorem SlotsR.impL {S S' : Nat → Prop} {w w' : World} {v : Value} {xs : List GS} (h : SlotsR S w v xs) (hS : ∀ b, S b → b < w.heap.size → S' b) (he : Agree S w w') (hsz : w.heap.size ≤ w'.heap.size) : SlotsR S' w' v xs := ListK.imp (k := kSlot) h hS he hsz
theorem SlotsR.ext {S : Nat → Prop} {w w' : World} {v : Value} {xs : List GS} (h : SlotsR S w v xs) (he : Ext w w') : SlotsR S w' v xs := h.impL (fun _ h _ => h) (.of_ext he) he.size
theorem SlotsR.at_ {S : Nat → Prop} {w : World} {A : Option Addr} {n c : Nat} {xs : List GS} (h : SlotsR S w (.slice A n c) xs) {k : Nat} (hk : k < n) :
 ∃ (b off : Nat) (x : GS), A = some ⟨b, off, none⟩ ∧ b < w.heap.size ∧ xs[k]? = some x ∧ x.w.size ≤ maxLen ∧
   w.cell? ⟨b, off + k * 2, none⟩ = some (.int .i64 x.num) ∧ w.cell? ⟨b, off + k * 2 + 1, none⟩ = some (.string x.w) := by
 obtain ⟨b, off, x, cs, hA, hb, hx, _, hc, rfl, hs⟩ := SliceR.at_ h hk
 exact ⟨b, off, x, hA, hb, hx, hs, hc 0 _ rfl, hc 1 _ rfl⟩

def PatE (S : Nat → Prop) (w : World) (cs : List Value) (p : GPat) : Prop := ∃ v, cs = [.string p.n, v] ∧ p.n.size ≤ maxLen ∧ SlotsR S w v p.slots
def kPat : Kind GPat := ⟨2, PatE, by decide, fun h hS he hsz => by obtain ⟨v, h1, h2, h3⟩ := h; exact ⟨v, h1, h2, h3.impL hS he hsz⟩,
 fun {_ _ l x} h => by obtain ⟨v, rfl, _, ht⟩ := h; intro y hy; simp at hy; rcases hy with rfl | rfl <;> first | rfl | exact ListK.one (k := kSlot) ht, fun h => by obtain ⟨v, rfl, _⟩ := h; rfl⟩
def PatsR (S : Nat → Prop) : World → Value → List GPat → Prop := SliceR S 2 (PatE S)
theorem PatsR.impL {S S' : Nat → Prop} {w w' : World} {v : Value} {xs : List GPat} (h : PatsR S w v xs) (hS : ∀ b, S b → b < w.heap.size → S' b) (he : Agree S w w') (hsz : w.heap.size ≤ w'.heap.size) : PatsR S' w' v xs := ListK.imp (k := kPat) h hS he hsz
theorem PatsR.ext {S : Nat → Prop} {w w' : World} {v : Value} {xs : List GPat} (h : PatsR S w v xs) (he : Ext w w') : PatsR S w' v xs := h.impL (fun _ h _ => h) (.of_ext he) he.size
theorem PatsR.at_ {S : Nat → Prop} {w : World} {A : Option Addr} {n c : Nat} {xs : List GPat} (h : PatsR S w (.slice A n c) xs) {k : Nat} (hk : k < n) :
 ∃ (b off : Nat) (x : GPat) (v : Value), A = some ⟨b, off, none⟩ ∧ b < w.heap.size ∧ xs[k]? = some x ∧ x.n.size ≤ maxLen ∧ SlotsR S w v x.slots ∧
   w.cell? ⟨b, off + k * 2, none⟩ = some (.string x.n) ∧ w.cell? ⟨b, off + k * 2 + 1, none⟩ = some v := by
 obtain ⟨b, off, x, cs, hA, hb, hx, _, hc, v, rfl, hs, ht⟩ := SliceR.at_ h hk
 exact ⟨b, off, x, v, hA, hb, hx, hs, ht, hc 0 _ rfl, hc 1 _ rfl⟩

def NumE (_ : World) (cs : List Value) (n : Nat) : Prop := cs = [.int .i64 (n : Int)]
def kNum : Kind Nat := ⟨1, fun _ => NumE, by decide, fun h _ _ _ => h, fun h => by obtain rfl := h; intro u hu; simp at hu; subst hu; rfl, fun h => by obtain rfl := h; rfl⟩
def NumsR (S : Nat → Prop) : World → Value → List Nat → Prop := SliceR S 1 NumE
theorem NumsR.impL {S S' : Nat → Prop} {w w' : World} {v : Value} {xs : List Nat} (h : NumsR S w v xs) (hS : ∀ b, S b → b < w.heap.size → S' b) (he : Agree S w w') (hsz : w.heap.size ≤ w'.heap.size) : NumsR S' w' v xs := ListK.imp (k := kNum) h hS he hsz
theorem NumsR.ext {S : Nat → Prop} {w w' : World} {v : Value} {xs : List Nat} (h : NumsR S w v xs) (he : Ext w w') : NumsR S w' v xs := h.impL (fun _ h _ => h) (.of_ext he) he.size
theorem NumsR.at_ {S : Nat → Prop} {w : World} {A : Option Addr} {n c : Nat} {xs : List Nat} (h : NumsR S w (.slice A n c) xs) {k : Nat} (hk : k < n) :
 ∃ (b off x : Nat), A = some ⟨b, off, none⟩ ∧ b < w.heap.size ∧ xs[k]? = some x ∧ w.cell? ⟨b, off + k, none⟩ = some (.int .i64 (x : Int)) := by
 obtain ⟨b, off, x, cs, hA, hb, hx, _, hc, rfl⟩ := SliceR.at_ h hk
 exact ⟨b, off, x, hA, hb, hx, by simpa using hc 0 _ rfl⟩

/-! ### The search's block -/
structure Sea where
 st : Value
 q0 : Value
 q1 : Value
 q2 : Value
 wanted : List Bool
 inOrd : Bool
 ahead : Int
 W : Words
 bd : List Nat
 cnt : Nat
 tell : Value
def Sea.f (s : Sea) (i : Nat) : Value :=
 if i = 0 then s.st else if i = 1 then s.q0 else if i = 2 then s.q1 else if i = 3 then s.q2
 else if i < 16 then .bool (s.wanted.getD (i - 4) false)
 else if i = 16 then .bool s.inOrd else if i = 17 then .int .i64 s.ahead
 else if i < 30 then .string (s.W.at_ (i - 18))
 else if i < 42 then .int .i64 ((s.bd.getD (i - 30) 0 : Nat) : Int)
 else if i = 42 then .int .i64 (s.cnt : Int) else s.tell
def Sea.cells (s : Sea) : Array Value := Array.ofFn (n := 44) fun i => s.f i.val
theorem Sea.size (s : Sea) : s.cells.size = 44 := by simp [Sea.cells]
theorem Sea.at_ (s : Sea) {i : Nat} (h : i < 44) : s.cells[i]? = some (s.f i) := by simp [Sea.cells, h]
theorem Sea.set_ (s t : Sea) {j : Nat} {u : Value} (hj : j < 44) (h1 : t.f j = u) (h2 : ∀ i, i < 44 → i ≠ j → t.f i = s.f i) : s.cells.setIfInBounds j u = t.cells := by
 apply Array.ext_getElem?
 intro i
 rw [Array.getElem?_setIfInBounds]
 by_cases hi : i < 44
 · rw [t.at_ hi]
   by_cases hij : j = i
   · subst hij; rw [if_pos rfl, if_pos (by rw [s.size]; exact hj), h1]
   · rw [if_neg hij, s.at_ hi, h2 i hi (fun e => hij e.symm)]
 · have e1 : t.cells[i]? = none := Array.getElem?_eq_none (by rw [t.size]; omega)
   have e2 : s.cells[i]? = none := Array.getElem?_eq_none (by rw [s.size]; omega)
   rw [e1, e2, if_neg (by omega : ¬ j = i)]
/-- The search's block. -/
structure SeaAt (w : World) (sb : Nat) (s : Sea) : Prop where
 blk : Blk w sb 151 s.cells
 lW : s.W.length = 12
 lB : s.bd.length = 12
 lw : s.wanted.length = 12
 small : ∀ x ∈ s.W, x.size ≤ maxLen
section
variable {w w' : World} {sb : Nat} {s : Sea}
theorem SeaAt.lt (h : SeaAt w sb s) : sb < w.heap.size := h.blk.lt
theorem SeaAt.ext (h : SeaAt w sb s) (hx : Ext w w') : SeaAt w' sb s := ⟨h.blk.ext hx, h.lW, h.lB, h.lw, h.small⟩
theorem SeaAt.inside {S : Nat → Prop} (h : SeaAt w sb s) (hx : Inside S w w') (hS : ¬ S sb) : SeaAt w' sb s := ⟨hx.blk h.blk hS, h.lW, h.lB, h.lw, h.small⟩
theorem SeaAt.cell (h : SeaAt w sb s) {i : Nat} (hi : i < 44) : w.cell? ⟨sb, i, none⟩ = some (s.f i) := by rw [h.blk.cell, s.at_ hi]
theorem SeaAt.frozen (h : SeaAt w sb s) (i : Nat) : w.frozen? ⟨sb, i, none⟩ = false := h.blk.frozen i
theorem SeaAt.word (h : SeaAt w sb s) {v : Nat} (hv : v < 12) : w.cell? ⟨sb, 18 + v, none⟩ = some (.string (s.W.at_ v)) := by
 rw [h.cell (by omega)]
 unfold Sea.f
 rw [if_neg (by omega), if_neg (by omega), if_neg (by omega), if_neg (by omega), if_neg (by omega), if_neg (by omega), if_neg (by omega), if_pos (by omega)]
 rw [show 18 + v - 18 = v by omega]
theorem SeaAt.bound (h : SeaAt w sb s) {c : Nat} (hc : c < 12) : w.cell? ⟨sb, 30 + c, none⟩ = some (.int .i64 ((s.bd.getD c 0 : Nat) : Int)) := by
 rw [h.cell (by omega)]
 unfold Sea.f
 rw [if_neg (by omega), if_neg (by omega), if_neg (by omega), if_neg (by omega), if_neg (by omega), if_neg (by omega), if_neg (by omega), if_neg (by omega), if_pos (by omega)]
 rw [show 30 + c - 30 = c by omega]
theorem SeaAt.want (h : SeaAt w sb s) {c : Nat} (hc : c < 12) : w.cell? ⟨sb, 4 + c, none⟩ = some (.bool (s.wanted.getD c false)) := by
 rw [h.cell (by omega)]
 unfold Sea.f
 rw [if_neg (by omega), if_neg (by omega), if_neg (by omega), if_neg (by omega), if_pos (by omega)]
 rw [show 4 + c - 4 = c by omega]
theorem SeaAt.st (h : SeaAt w sb s) : w.cell? ⟨sb, 0, none⟩ = some s.st := h.cell (i := 0) (by omega)
theorem SeaAt.q0 (h : SeaAt w sb s) : w.cell? ⟨sb, 1, none⟩ = some s.q0 := h.cell (i := 1) (by omega)
theorem SeaAt.q1 (h : SeaAt w sb s) : w.cell? ⟨sb, 2, none⟩ = some s.q1 := h.cell (i := 2) (by omega)
theorem SeaAt.inOrd (h : SeaAt w sb s) : w.cell? ⟨sb, 16, none⟩ = some (.bool s.inOrd) := h.cell (i := 16) (by omega)
theorem SeaAt.ahead (h : SeaAt w sb s) : w.cell? ⟨sb, 17, none⟩ = some (.int .i64 s.ahead) := h.cell (i := 17) (by omega)
theorem SeaAt.cnt (h : SeaAt w sb s) : w.cell? ⟨sb, 42, none⟩ = some (.int .i64 (s.cnt : Int)) := h.cell (i := 42) (by omega)
theorem SeaAt.tell (h : SeaAt w sb s) : w.cell? ⟨sb, 43, none⟩ = some s.tell := h.cell (i := 43) (by omega)
theorem SeaAt.setW (h : SeaAt w sb s) {v : Nat} (hv : v < 12) {x : ByteArray} (hx : x.size ≤ maxLen) : SeaAt (w.setCell ⟨sb, 18 + v, none⟩ (.string x)) sb { s with W := s.W.set v x } := by
 refine ⟨?_, by rw [List.length_set]; exact h.lW, h.lB, h.lw, fun y hy => ?_⟩
 · have h1 := h.blk.set_ (18 + v) (.string x)
   rwa [s.set_ { s with W := s.W.set v x } (by omega) (by
    unfold Sea.f
    rw [if_neg (by omega), if_neg (by omega), if_neg (by omega), if_neg (by omega), if_neg (by omega), if_neg (by omega), if_neg (by omega), if_pos (by omega)]
    rw [show 18 + v - 18 = v by omega]
    show Value.string (Words.at_ (s.W.set v x) v) = _
    rw [at_set, if_pos ⟨rfl, by rw [h.lW]; exact hv⟩]) (fun i hi hne => by
    unfold Sea.f
    by_cases h18 : 18 ≤ i ∧ i < 30
    · rw [if_neg (by omega), if_neg (by omega), if_neg (by omega), if_neg (by omega), if_neg (by omega), if_neg (by omega), if_neg (by omega), if_pos (by omega)]
      rw [if_neg (by omega), if_neg (by omega), if_neg (by omega), if_neg (by omega), if_neg (by omega), if_neg (by omega), if_neg (by omega), if_pos (by omega)]
      show Value.string (Words.at_ (s.W.set v x) (i - 18)) = _
      rw [at_set, if_neg (by omega)]
    · rcases (by omega : i = 0 ∨ i = 1 ∨ i = 2 ∨ i = 3 ∨ i = 4 ∨ i = 5 ∨ i = 6 ∨ i = 7 ∨ i = 8 ∨ i = 9 ∨ i = 10 ∨ i = 11 ∨ i = 12 ∨ i = 13 ∨ i = 14 ∨ i = 15 ∨ i = 16 ∨ i = 17 ∨ i = 30 ∨ i = 31 ∨ i = 32 ∨ i = 33 ∨ i = 34 ∨ i = 35 ∨ i = 36 ∨ i = 37 ∨ i = 38 ∨ i = 39 ∨ i = 40 ∨ i = 41 ∨ i = 42 ∨ i = 43) with rfl | rfl | rfl | rfl | rfl | rfl | rfl | rfl | rfl | rfl | rfl | rfl | rfl | rfl | rfl | rfl | rfl | rfl | rfl | rfl | rfl | rfl | rfl | rfl | rfl | rfl | rfl | rfl | rfl | rfl | rfl | rfl <;> rfl)] at h1
 · rcases List.mem_or_eq_of_mem_set hy with h1 | h1
   · exact h.small y h1
   · rw [h1]; exact hx
theorem SeaAt.setB (h : SeaAt w sb s) {c : Nat} (hc : c < 12) (n : Nat) : SeaAt (w.setCell ⟨sb, 30 + c, none⟩ (.int .i64 (n : Int))) sb { s with bd := s.bd.set c n } := by
 refine ⟨?_, h.lW, by rw [List.length_set]; exact h.lB, h.lw, h.small⟩
 have h1 := h.blk.set_ (30 + c) (.int .i64 (n : Int))
 rwa [s.set_ { s with bd := s.bd.set c n } (by omega) (by
  unfold Sea.f
  rw [if_neg (by omega), if_neg (by omega), if_neg (by omega), if_neg (by omega), if_neg (by omega), if_neg (by omega), if_neg (by omega), if_neg (by omega), if_pos (by omega)]
  rw [show 30 + c - 30 = c by omega]
  show Value.int .i64 (((s.bd.set c n).getD c 0 : Nat) : Int) = _
  rw [List.getD_eq_getElem?_getD, List.getElem?_set_self (by rw [h.lB]; exact hc)]; rfl) (fun i hi hne => by
  unfold Sea.f
  by_cases h18 : 30 ≤ i ∧ i < 42
  · rw [if_neg (by omega), if_neg (by omega), if_neg (by omega), if_neg (by omega), if_neg (by omega), if_neg (by omega), if_neg (by omega), if_neg (by omega), if_pos (by omega)]
    rw [if_neg (by omega), if_neg (by omega), if_neg (by omega), if_neg (by omega), if_neg (by omega), if_neg (by omega), if_neg (by omega), if_neg (by omega), if_pos (by omega)]
    show Value.int .i64 (((s.bd.set c n).getD (i - 30) 0 : Nat) : Int) = _
    rw [List.getD_eq_getElem?_getD, List.getElem?_set_ne (by omega), ← List.getD_eq_getElem?_getD]
  · rcases (by omega : i = 0 ∨ i = 1 ∨ i = 2 ∨ i = 3 ∨ i = 4 ∨ i = 5 ∨ i = 6 ∨ i = 7 ∨ i = 8 ∨ i = 9 ∨ i = 10 ∨ i = 11 ∨ i = 12 ∨ i = 13 ∨ i = 14 ∨ i = 15 ∨ i = 16 ∨ i = 17 ∨ i = 18 ∨ i = 19 ∨ i = 20 ∨ i = 21 ∨ i = 22 ∨ i = 23 ∨ i = 24 ∨ i = 25 ∨ i = 26 ∨ i = 27 ∨ i = 28 ∨ i = 29 ∨ i = 42 ∨ i = 43) with rfl | rfl | rfl | rfl | rfl | rfl | rfl | rfl | rfl | rfl | rfl | rfl | rfl | rfl | rfl | rfl | rfl | rfl | rfl | rfl | rfl | rfl | rfl | rfl | rfl | rfl | rfl | rfl | rfl | rfl | rfl | rfl <;> rfl)] at h1
theorem SeaAt.setC (h : SeaAt w sb s) (n : Nat) : SeaAt (w.setCell ⟨sb, 42, none⟩ (.int .i64 (n : Int))) sb { s with cnt := n } := by
 refine ⟨?_, h.lW, h.lB, h.lw, h.small⟩
 have h1 := h.blk.set_ 42 (.int .i64 (n : Int))
 rwa [s.set_ { s with cnt := n } (j := 42) (u := .int .i64 (n : Int)) (by omega) rfl (fun i hi hne => by
  rcases (by omega : i = 0 ∨ i = 1 ∨ i = 2 ∨ i = 3 ∨ i = 4 ∨ i = 5 ∨ i = 6 ∨ i = 7 ∨ i = 8 ∨ i = 9 ∨ i = 10 ∨ i = 11 ∨ i = 12 ∨ i = 13 ∨ i = 14 ∨ i = 15 ∨ i = 16 ∨ i = 17 ∨ i = 18 ∨ i = 19 ∨ i = 20 ∨ i = 21 ∨ i = 22 ∨ i = 23 ∨ i = 24 ∨ i = 25 ∨ i = 26 ∨ i = 27 ∨ i = 28 ∨ i = 29 ∨ i = 30 ∨ i = 31 ∨ i = 32 ∨ i = 33 ∨ i = 34 ∨ i = 35 ∨ i = 36 ∨ i = 37 ∨ i = 38 ∨ i = 39 ∨ i = 40 ∨ i = 41 ∨ i = 43) with rfl | rfl | rfl | rfl | rfl | rfl | rfl | rfl | rfl | rfl | rfl | rfl | rfl | rfl | rfl | rfl | rfl | rfl | rfl | rfl | rfl | rfl | rfl | rfl | rfl | rfl | rfl | rfl | rfl | rfl | rfl | rfl | rfl | rfl | rfl | rfl | rfl | rfl | rfl | rfl | rfl | rfl | rfl <;> rfl)] at h1
theorem word_small (h : SeaAt w sb s) (v : Nat) : (s.W.at_ v).size ≤ maxLen := by
 unfold Words.at_
 rw [List.getD_eq_getElem?_getD]
 cases hg : s.W[v]? with
 | none => exact Nat.zero_le _
 | some x => exact h.small x (List.mem_of_getElem? hg)
theorem wordOf_small (h : SeaAt w sb s) {t : GS} (ht : t.w.size ≤ maxLen) : (wordOf s.W t).size ≤ maxLen := by
 unfold wordOf
 split
 · exact ht
 · exact word_small h _
end

/-! ### What a match has bound -/
def traceW : List GS → List GT → Words → List Nat
 | s :: ss, t :: ts, W =>
   if t.v || isNo t.n then []
   else if isNo (wordOf W s) then s.v.toList ++ traceW ss ts (bindW W s t.n)
   else if wordOf W s = t.n then traceW ss ts W else []
 | _, _, _ => []
def traceP (p : GPat) (a : GA) (W : Words) : List Nat := if p.n = a.n ∧ p.slots.length = a.args.length then traceW p.slots a.args W else []
def clearW (W : Words) : List Nat → Words
 | [] => W
 | v :: vs => (clearW W vs).set v noWord
theorem clear_match : ∀ (ss : List GS) (ts : List GT) (W : Words), (∀ s ∈ ss, okSlot W.length s) → clearW (matchW ss ts W).1 (traceW ss ts W) = W
 | [], ts, W, _ => by simp [matchW, traceW, clearW]
 | s :: ss, [], W, _ => by simp [matchW, traceW, clearW]
 | s :: ss, t :: ts, W, h => by
   have hs := h s List.mem_cons_self
   simp only [matchW, traceW]
   split
   · rfl
   · split
     · rename_i h1 h2
       cases hv : s.v with
       | none =>
         unfold okSlot at hs; rw [hv] at hs
         unfold wordOf at h2; rw [hv] at h2
         simp only at hs h2
         rw [hs] at h2; cases h2
       | some v =>
         have hvl : v < W.length := by unfold okSlot at hs; rw [hv] at hs; exact hs
         have hw : isNo (W.at_ v) = true := by unfold wordOf at h2; rw [hv] at h2; exact h2
         have hb : bindW W s t.n = W.set v t.n := by unfold bindW; rw [hv]
         have ih := clear_match ss ts (W.set v t.n) (fun q hq => by rw [List.length_set]; exact h q (List.mem_cons_of_mem _ hq))
         show clearW (matchW ss ts (bindW W s t.n)).1 (v :: traceW ss ts (bindW W s t.n)) = W
         rw [hb]
         simp only [clearW]
         rw [ih, List.set_set]
         apply List.ext_getElem?
         intro i
         rw [List.getElem?_set]
         by_cases hi : v = i
         · subst hi
           rw [if_pos rfl, if_pos hvl]
           have := isNo_iff.1 hw
           unfold Words.at_ at this
           rw [List.getD_eq_getElem?_getD, List.getElem?_eq_getElem hvl] at this
           rw [List.getElem?_eq_getElem hvl, ← this]; rfl
         · rw [if_neg hi]
     · split
       · exact clear_match ss ts W (fun q hq => h q (List.mem_cons_of_mem _ hq))
       · rfl
theorem clear_matchP {p : GPat} {a : GA} {W : Words} (h : ∀ s ∈ p.slots, okSlot W.length s) : clearW (matchP p a W).1 (traceP p a W) = W := by
 unfold matchP traceP
 split
 · exact clear_match _ _ _ h
 · rfl
theorem nodup_most : ∀ (l m : List Nat), l.Nodup → (∀ x ∈ l, x ∈ m) → l.length ≤ m.length
 | [], _, _, _ => Nat.zero_le _
 | x :: l, m, h, hs => by
   obtain ⟨hx, hl⟩ := List.nodup_cons.1 h
   have hm := hs x List.mem_cons_self
   have ih := nodup_most l (m.erase x) hl (fun y hy => (List.mem_erase_of_ne (fun (e : y = x) => hx (by rw [← e]; exact hy))).2 (hs y (List.mem_cons_of_mem _ hy)))
   rw [List.length_erase_of_mem hm] at ih
   have : 0 < m.length := List.length_pos_of_mem hm
   rw [List.length_cons]; omega
/-- What is bound: each once, each with a word. -/
def Bok (W : Words) (l : List Nat) : Prop := l.Nodup ∧ ∀ v ∈ l, v < 12 ∧ isNo (W.at_ v) = false
theorem Bok.len {W : Words} {l : List Nat} (h : Bok W l) : l.length ≤ 12 := by
 have := nodup_most l (List.range 12) h.1 (fun v hv => List.mem_range.2 (h.2 v hv).1)
 simpa using this
theorem Bok.snoc {W : Words} {l : List Nat} {v : Nat} {x : ByteArray} (h : Bok W l) (hW : W.length = 12) (hv : v < 12) (hn : isNo (W.at_ v) = true) (hx : isNo x = false) : Bok (W.set v x) (l ++ [v]) := by
 have hm : v ∉ l := fun hm => by rw [(h.2 v hm).2] at hn; cases hn
 refine ⟨List.nodup_append.2 ⟨h.1, by simp, fun a ha b hb => by simp at hb; subst hb; exact fun e => hm (e ▸ ha)⟩, fun u hu => ?_⟩
 rcases List.mem_append.1 hu with hu | hu
 · refine ⟨(h.2 u hu).1, ?_⟩
   rw [at_set, if_neg (fun (e : v = u ∧ v < W.length) => hm (e.1 ▸ hu))]
   exact (h.2 u hu).2
 · simp at hu; subst hu
   exact ⟨hv, by rw [at_set, if_pos ⟨rfl, by omega⟩]; exact hx⟩
theorem Bok.room {W : Words} {l : List Nat} {v : Nat} (h : Bok W l) (hW : W.length = 12) (hv : v < 12) (hn : isNo (W.at_ v) = true) : l.length < 12 := by
 have := (h.snoc (x := ⟨#[0]⟩) hW hv hn rfl).len
 simp at this; omega

end Go.Proofs.YtfjdijakgjhieaaGreat

namespace Go.Proofs.YtfjdijakgjhieaaGreat
open Go.RowKit

set_option maxHeartbeats 400000 in
theorem l1In_any (n lo hi : Int) (w : World) :
 Calls Tryz.prog 66 #[.int .i64 n, .int .i64 lo, .int .i64 hi] w fun e w' => e = .returned (.bool (inB n lo hi)) ∧ w' = w := by
 by_cases h1 : lo ≤ n
 · by_cases h2 : n ≤ hi
   · have HD := Lib.hid (inB_yes h1 h2)
     go_enter Tryz.func66, Tryz.ntmps66
     go_wp2
     go_ret
     exact ⟨by rw [HD.out]; rfl, rfl⟩
   · have HD := Lib.hid (inB_high (lo := lo) (Int.not_le.1 h2))
     go_enter Tryz.func66, Tryz.ntmps66
     go_wp2
     go_ret
     exact ⟨by rw [HD.out]; rfl, rfl⟩
 · have HD := Lib.hid (inB_low (hi := hi) (Int.not_le.1 h1))
   go_enter Tryz.func66, Tryz.ntmps66
   go_wp2
   go_ret
   exact ⟨by rw [HD.out]; rfl, rfl⟩

set_option maxHeartbeats 1000000 in
theorem l1Letters_any (s : ByteArray) (w : World) (hs : s.size ≤ maxLen) :
 Calls Tryz.prog 80 #[.string s] w fun e w' => e = .returned (.bool (lettersB s)) ∧ w' = w := by
 unfold maxLen at hs
 go_enter Tryz.func80, Tryz.ntmps80
 go_wp2
 go_loop [3] (fun i => ∃ k : Nat, k ≤ s.size ∧ i = .int .i64 k ∧ Hid (plainB (s.data.toList.take k) = true)) (fun i => s.size - (intOf i).toNat)
 case atStart => exact ⟨0, Nat.zero_le _, rfl, rfl⟩
 case round =>
  obtain ⟨k, hk, rfl, hp⟩ := hrel
  by_cases hlt : k < s.size
  · have HT := Lib.hid (take_snoc' s k hlt)
    have hc : s[k].toNat < 256 := s[k].toNat_lt
    cases hd : lowDig s[k]
    · have HF := Lib.hid (show lettersB s = false from by
        have : plainB (s.data.toList.take (k + 1)) = false := by rw [HT.out, plainB_snoc, hd, Bool.and_false]
        unfold lettersB; rw [plainB_false this]; rfl)
      rcases lowDig_no hd with h | h | h
      all_goals
       clear hd
       go_wp2
       go_ret
       exact ⟨by rw [HF.out]; rfl, rfl⟩
    · have HP := Lib.hid (show plainB (s.data.toList.take (k + 1)) = true from by rw [HT.out, plainB_snoc, hd, hp.out]; rfl)
      rcases lowDig_yes hd with h | h
      all_goals
       clear hd
       go_wp2
       go_round
       case rel => exact ⟨k + 1, by omega, by go_num, HP⟩
       case measure => simp [intOf]; omega
  · have HF := Lib.hid (show inB s.size 1 8 = lettersB s from by
      have hkk : k = s.size := by omega
      have hp1 := hp.out
      rw [hkk, take_all] at hp1
      unfold lettersB; rw [hp1]; rfl)
    go_wp2_with (go_at_call 66; refine (l1In_any _ _ _ _).mono ?_; rintro e w' ⟨rfl, rfl⟩)
    go_ret
    exact ⟨by rw [← HF.out]; rfl, rfl⟩

set_option maxHeartbeats 400000 in
theorem specNameOk_any (s : ByteArray) (w : World) (hs : s.size ≤ maxLen) :
 Calls Tryz.prog 43 #[.string s] w fun e w' => e = .returned (.bool (nameOkB s)) ∧ w' = w := by
 have hw := l1Letters_any s w hs
 cases hl : lettersB s
 · have HF := Lib.hid (show nameOkB s = false from by unfold nameOkB; rw [hl]; rfl)
   rw [hl] at hw
   have HW := Lib.hid hw
   clear hw hl
   go_enter Tryz.func43, Tryz.ntmps43
   go_wp2_with (go_at_call 80; refine HW.out.mono ?_; rintro e w' ⟨rfl, rfl⟩)
   go_ret
   exact ⟨by rw [HF.out]; rfl, rfl⟩
 · have HF := Lib.hid (show nameOkB s = !(isNot s) from by unfold nameOkB; rw [hl]; rfl)
   rw [hl] at hw
   have HW := Lib.hid hw
   clear hw hl
   go_enter Tryz.func43, Tryz.ntmps43
   go_wp2_with (go_at_call 80; refine HW.out.mono ?_; rintro e w' ⟨rfl, rfl⟩)
   go_ret
   exact ⟨by rw [HF.out]; rfl, rfl⟩

theorem bool_ways {P : Program} {f : FuncId} {args : Array Value} {w : World} {b : Bool} {R : World → Prop} (h : Calls P f args w fun e w' => e = .returned (.bool b) ∧ R w') :
 (b = true → Calls P f args w fun e w' => e = .returned (.bool true) ∧ R w') ∧ (b = false → Calls P f args w fun e w' => e = .returned (.bool false) ∧ R w') :=
 ⟨fun hb => by rw [hb] at h; exact h, fun hb => by rw [hb] at h; exact h⟩

set_option maxHeartbeats 1000000 in
theorem l1Term_any (t : GT) (w : World) (hs : t.n.size ≤ maxLen) :
 Calls Tryz.prog 42 #[.agg #[.bool t.v, .string t.n]] w fun e w' => e = .returned (.bool (termOkB t)) ∧ Ext w w' := by
 obtain ⟨v, s⟩ := t
 cases v
 · have HF := Lib.hid (show termOkB ⟨false, s⟩ = nameOkB s from rfl)
   go_enter Tryz.func42, Tryz.ntmps42
   go_wp2_with (go_at_call 43; refine (specNameOk_any s _ hs).mono ?_; rintro e w' ⟨rfl, rfl⟩)
   go_ret
   exact ⟨by rw [HF.out]; rfl, (Ext.refl _).alloc _⟩
 · have HF := Lib.hid (show termOkB ⟨true, s⟩ = varOkB s from rfl)
   have hm : s.size ≤ 9223372036854775807 := hs
   by_cases h0 : s.size = 0
   · have HC := Lib.hid (show varOkB s = false from by
       have : s.data.toList = [] := by apply List.eq_nil_of_length_eq_zero; simpa using h0
       unfold varOkB capB; rw [this]; rfl)
     have H0 := Lib.hid h0
     have hz : (((s.size : Nat) : Int) == 0) = true := by simp [h0]
     clear h0
     go_enter Tryz.func42, Tryz.ntmps42
     go_wp2
     go_ret
     exact ⟨by rw [HF.out, HC.out]; rfl, (Ext.refl _).alloc _⟩
   · have hp : 0 < s.size := Nat.pos_of_ne_zero h0
     have hz : (((s.size : Nat) : Int) == 0) = false := by rw [beq_eq_false_iff_ne]; omega
     have hc : s[0].toNat < 256 := s[0].toNat_lt
     cases hu : upper s[0]
     · have HC := Lib.hid (show varOkB s = false from by unfold varOkB; rw [capB_cons hp, hu]; rfl)
       have hr : s[0].toNat < 65 ∨ 90 < s[0].toNat := by have h9 := of_decide_eq_false hu; clear hs hz; omega
       clear hu
       rcases hr with hr | hr
       all_goals
        go_enter Tryz.func42, Tryz.ntmps42
        go_wp2
        go_ret
        exact ⟨by rw [HF.out, HC.out]; rfl, (Ext.refl _).alloc _⟩
     · obtain ⟨hr1, hr2⟩ := of_decide_eq_true hu
       by_cases h1 : s.size = 1
       · have HC := Lib.hid (show varOkB s = true from by
           have hd : s.data.toList.drop 1 = [] := by apply List.eq_nil_of_length_eq_zero; simp [h1]
           unfold varOkB; rw [capB_cons hp, hu, hd, h1]; rfl)
         have hy : (((s.size : Nat) : Int) == 1) = true := by simp [h1]
         have H1 := Lib.hid h1
         clear h1 hu
         go_enter Tryz.func42, Tryz.ntmps42
         go_wp2
         go_ret
         exact ⟨by rw [HF.out, HC.out]; rfl, (Ext.refl _).alloc _⟩
       · have hy : (((s.size : Nat) : Int) == 1) = false := by rw [beq_eq_false_iff_ne]; omega
         have hv := varOk_long hp hu h1
         have hw := bool_ways (l1Letters_any (s.extract 1 s.size) (w.alloc (.cells #[.bool true, .string s] 33)) (by rw [tail_size _ _ hp]; exact Nat.le_trans (Nat.sub_le _ _) hs))
         cases hl : lettersB (s.extract 1 s.size)
         · have HX := Lib.hid (show varOkB s = false from by rw [hv, hl]; rfl)
           have HW := Lib.hid (hw.2 hl)
           clear h1 hu hw hv hl
           go_enter Tryz.func42, Tryz.ntmps42
           go_wp2_with (go_at_call 80; refine HW.out.mono ?_; rintro e w1 ⟨rfl, rfl⟩)
           go_ret
           exact ⟨by rw [HF.out, HX.out]; rfl, (Ext.refl _).alloc _⟩
         · have HW := Lib.hid (hw.1 hl)
           by_cases h8 : s.size ≤ 8
           · have HX := Lib.hid (show varOkB s = true from by rw [hv, hl]; simp [h8])
             clear h1 hu hw hv hl
             go_enter Tryz.func42, Tryz.ntmps42
             go_wp2_with (go_at_call 80; refine HW.out.mono ?_; rintro e w1 ⟨rfl, rfl⟩)
             go_ret
             exact ⟨by rw [HF.out, HX.out]; exact ret_bool (by simp; omega), (Ext.refl _).alloc _⟩
           · have HX := Lib.hid (show varOkB s = false from by rw [hv, hl]; simp [h8])
             clear h1 hu hw hv hl
             go_enter Tryz.func42, Tryz.ntmps42
             go_wp2_with (go_at_call 80; refine HW.out.mono ?_; rintro e w1 ⟨rfl, rfl⟩)
             go_ret
             exact ⟨by rw [HF.out, HX.out]; exact ret_bool (by simp; omega), (Ext.refl _).alloc _⟩

set_option maxRecDepth 100000 in
set_option maxHeartbeats 1000000 in
theorem specAtomOk_any (a : GA) (v : Value) (w : World) {S : Nat → Prop} (hs : a.n.size ≤ maxLen) (hv : TermsR S w v a.args) :
 Calls Tryz.prog 13 #[.agg #[.string a.n, v]] w fun e w' => e = .returned (.bool (atomOkB a)) ∧ Ext w w' := by
 obtain ⟨A, c, rfl, hc1, hc2⟩ := SliceR.form hv
 have HV := Lib.hid (hv.ext ((Ext.refl w).alloc (.cells #[.string a.n, .slice A a.args.length c] 26)))
 clear hv
 go_enter Tryz.func13, Tryz.ntmps13
 go_wp2
 go_loopw [3] (fun i wr => ∃ k : Nat, k ≤ a.args.length ∧ i = .int .i64 k ∧ Hid ((a.args.take k).all termOkB = true) ∧ Ext (w.alloc (.cells #[.string a.n, .slice A a.args.length c] 26)) wr) (fun i _ => a.args.length - (intOf i).toNat)
 case atStart => exact ⟨0, Nat.zero_le _, rfl, rfl, Ext.refl _⟩
 case round =>
  obtain ⟨k, hk, rfl, hp, hx⟩ := hrel
  obtain ⟨hcc, hcf⟩ := hx.cells
  by_cases hlt : k < a.args.length
  · obtain ⟨b, off, x, rfl, hb, hxk, hxs, hc0, hc1⟩ := TermsR.at_ (HV.out.ext hx) hlt
    have HK := Lib.hid hxk
    have hw := bool_ways (l1Term_any x wr hxs)
    clear hxk
    cases ht : termOkB x
    · have HF := Lib.hid (show atomOkB a = false from by unfold atomOkB; rw [all_false _ _ k x HK.out ht, Bool.and_false])
      have HW := Lib.hid (hw.2 ht)
      clear hw ht
      go_wp2_with (go_at_call 42; refine HW.out.mono ?_; rintro e w1 ⟨rfl, hx1⟩)
      go_ret
      exact ⟨by rw [HF.out]; rfl, ((Ext.refl _).alloc _).trans' (hx.trans' hx1)⟩
    · have HP := Lib.hid (show (a.args.take (k + 1)).all termOkB = true from by rw [all_snoc _ _ k x HK.out, hp.out, ht]; rfl)
      have HW := Lib.hid (hw.1 ht)
      clear hw ht
      go_wp2_with (go_at_call 42; refine HW.out.mono ?_; rintro e w1 ⟨rfl, hx1⟩)
      go_roundw
      case rel => exact ⟨k + 1, by omega, by go_num, HP, hx.trans' hx1⟩
      case measure => simp [intOf]; omega
  · have hall := all_whole _ _ k hlt hp.out
    have hw := bool_ways (specNameOk_any a.n wr hs)
    clear hp
    cases hn : nameOkB a.n
    · have HF := Lib.hid (show atomOkB a = false from by unfold atomOkB; rw [hn]; rfl)
      have HW := Lib.hid (hw.2 hn)
      clear hw hn hall
      go_wp2_with (go_at_call 43; refine HW.out.mono ?_; rintro e w1 ⟨rfl, rfl⟩)
      go_ret
      exact ⟨by rw [HF.out]; rfl, ((Ext.refl _).alloc _).trans' hx⟩
    · have HF := Lib.hid (show atomOkB a = decide (a.args.length ≤ 3) from by unfold atomOkB; rw [hn, hall]; simp)
      have HW := Lib.hid (hw.1 hn)
      clear hw hn hall
      go_wp2_with (go_at_call 43; refine HW.out.mono ?_; rintro e w1 ⟨rfl, rfl⟩)
      go_ret
      exact ⟨by rw [HF.out]; exact ret_bool (by simp; omega), ((Ext.refl _).alloc _).trans' hx⟩

end Go.Proofs.YtfjdijakgjhieaaGreat

namespace Go.Proofs.YtfjdijakgjhieaaGreat
open Go.RowKit

set_option maxHeartbeats 400000 in
theorem l1Texts_any (a b : ByteArray) (w : World) :
 Calls Tryz.prog 109 #[.string a, .string b] w fun e w' => e = .returned (.int .i64 (cmpS a b)) ∧ w' = w := by
 go_enter Tryz.func109, Tryz.ntmps109
 go_wp2
 · go_ret
   exact ⟨by rw [cmpS_less (by assumption)]; rfl, rfl⟩
 · go_ret
   exact ⟨by rw [cmpS_more (by assumption) (by assumption)]; rfl, rfl⟩
 · go_ret
   exact ⟨by rw [cmpS_same (by assumption) (by assumption)]; rfl, rfl⟩

set_option maxRecDepth 100000 in
set_option maxHeartbeats 2000000 in
theorem l1Cmp_any (a b : GA) (v u : Value) (w : World) {S T : Nat → Prop} (hv : TermsR S w v a.args) (hu : TermsR T w u b.args) :
 Calls Tryz.prog 79 #[.agg #[.string a.n, v], .agg #[.string b.n, u]] w fun e w' => e = .returned (.int .i64 (cmpA a b)) ∧ Ext w w' := by
 obtain ⟨A, c, rfl, hc1, hc2⟩ := SliceR.form hv
 obtain ⟨B, d, rfl, hd1, hd2⟩ := SliceR.form hu
 have HV := Lib.hid (hv.ext (((Ext.refl w).alloc (.cells #[.string a.n, .slice A a.args.length c] 26)).alloc (.cells #[.string b.n, .slice B b.args.length d] 26)))
 have HU := Lib.hid (hu.ext (((Ext.refl w).alloc (.cells #[.string a.n, .slice A a.args.length c] 26)).alloc (.cells #[.string b.n, .slice B b.args.length d] 26)))
 clear hv hu
 have hr0 := cmpS_range a.n b.n
 go_enter Tryz.func79, Tryz.ntmps79
 go_wp2_with (go_at_call 109; refine (l1Texts_any _ _ _).mono ?_; rintro e w' ⟨rfl, rfl⟩)
 go_loopw [5, 6] (fun q i wr => ∃ (k : Nat) (z : Int), (k ≤ a.args.length ∧ k ≤ b.args.length) ∧ i = .int .i64 k ∧ q = .int .i64 z ∧ Hid (cmpA a b = cmpFrom a.args b.args k z) ∧ (z = -1 ∨ z = 0 ∨ z = 1) ∧ Ext ((w.alloc (.cells #[.string a.n, .slice A a.args.length c] 26)).alloc (.cells #[.string b.n, .slice B b.args.length d] 26)) wr) (fun _ i _ => a.args.length - (intOf i).toNat)
 case atStart => exact ⟨0, _, ⟨Nat.zero_le _, Nat.zero_le _⟩, rfl, rfl, rfl, hr0, Ext.refl _⟩
 case round =>
  obtain ⟨k, z, ⟨hk1, hk2⟩, rfl, rfl, hz, hzr, hx⟩ := hrel
  obtain ⟨hcc, hcf⟩ := hx.cells
  clear hr0
  by_cases hq : z = 0
  · have hq0 : ((z : Int) == 0) = true := by simp [hq]
    obtain rfl : (0 : Int) = z := hq.symm
    clear hzr hq hq0
    by_cases h1 : k < a.args.length
    · by_cases h2 : k < b.args.length
      · obtain ⟨ba, offa, x, rfl, hba, hxk, hxs, hx0, hx1⟩ := TermsR.at_ (HV.out.ext hx) h1
        obtain ⟨bb, offb, y, rfl, hbb, hyk, hys, hy0, hy1⟩ := TermsR.at_ (HU.out.ext hx) h2
        have HZ := Lib.hid (hz.out.trans (cmpFrom_step hxk hyk))
        have hr1 := Lib.hid (cmpS_range x.n y.n)
        have hk0 : (0 : Int) ≤ (k : Int) := Int.natCast_nonneg _
        have hi1 : (k : Int) < (a.args.length : Int) := by omega
        have hi2 : (k : Int) < (b.args.length : Int) := by omega
        clear hxk hyk hz
        go_wp2_with fail
        go_still_tail 12, (by kernel_rfl)
        change wpList _ _ _ _ _ wr.drew
        go_wp2_with (go_at_call 109; refine (l1Texts_any _ _ _).mono ?_; rintro e w1 ⟨rfl, rfl⟩)
        go_roundw
        case rel => exact ⟨k + 1, _, ⟨by omega, by omega⟩, by go_num, rfl, HZ, hr1.out, hx.drew⟩
        case measure => simp [intOf]; omega
      · have HZ := Lib.hid (hz.out.trans (cmpFrom_end (.inr (by omega)) ⟨hk1, hk2⟩))
        clear hz
        have hl : b.args.length < a.args.length := by omega
        go_wp2
        go_ret
        exact ⟨by rw [HZ.out, if_neg (by omega), if_pos hl]; rfl, (((Ext.refl _).alloc _).alloc _).trans' hx⟩
    · have HZ := Lib.hid (hz.out.trans (cmpFrom_end (.inl (by omega)) ⟨hk1, hk2⟩))
      clear hz
      by_cases hl : a.args.length < b.args.length
      · go_wp2
        go_ret
        exact ⟨by rw [HZ.out, if_pos hl]; rfl, (((Ext.refl _).alloc _).alloc _).trans' hx⟩
      · go_wp2
        go_ret
        exact ⟨by rw [HZ.out, if_neg (by omega), if_neg (by omega)]; rfl, (((Ext.refl _).alloc _).alloc _).trans' hx⟩
  · have HZ := Lib.hid (hz.out.trans (cmpFrom_done hq))
    have hq0 : ((z : Int) == 0) = false := by simp [hq]
    have hq1 : ((z : Int) != 0) = true := by simp [hq]
    clear hz hq hzr
    by_cases h1 : k < a.args.length
    · by_cases h2 : k < b.args.length
      · go_wp2
        go_ret
        exact ⟨by rw [HZ.out]; rfl, (((Ext.refl _).alloc _).alloc _).trans' hx⟩
      · go_wp2
        go_ret
        exact ⟨by rw [HZ.out]; rfl, (((Ext.refl _).alloc _).alloc _).trans' hx⟩
    · go_wp2
      go_ret
      exact ⟨by rw [HZ.out]; rfl, (((Ext.refl _).alloc _).alloc _).trans' hx⟩

end Go.Proofs.YtfjdijakgjhieaaGreat

namespace Go.Proofs.YtfjdijakgjhieaaGreat
open Go.RowKit

/-- A world in which nothing that w had has turned. -/
structure Later (w : World) : Type where
 at_ : World
 ext : Ext w at_

instance (w : World) : Nonempty (Later w) := ⟨⟨w, Ext.refl w⟩⟩

@[go_sem] theorem later_cell {w : World} (n : Later w) (b o : Nat) (h : b < w.heap.size) : n.at_.cell? ⟨b, o, none⟩ = w.cell? ⟨b, o, none⟩ := (Ext.cells n.ext).1 b o h
@[go_sem] theorem later_frozen {w : World} (n : Later w) (b o : Nat) (h : b < w.heap.size) : n.at_.frozen? ⟨b, o, none⟩ = w.frozen? ⟨b, o, none⟩ := (Ext.cells n.ext).2 b o h

theorem calm_region {P : Program} {id : Nat} {Q : Exit → Act → World → Prop} {a : Act} {w : World} {l : List Oper} (hm : P.follows .mixedOrders = true) (hB : Region.lexB .any l.toArray = true)
 (h : wpQuiet P l.toArray (fun w' => ∃ n : Later w, w' = n.at_) (fun a' => ∀ w', (∃ n : Later w, w' = n.at_) → Q .normal a' w') l a) : (Code.region id l.toArray true).wp P Q a w :=
 wp_region_quiet (C := fun w' => ∃ n : Later w, w' = n.at_) hm hB ⟨⟨w.drew, (Ext.refl w).drew⟩, rfl⟩ (by simpa using h)

theorem calm_call {P : Program} {f : FuncId} {args : Array Value} {w : World} {n : Later w} {v : Value} (h : Calls P f args n.at_ fun e w' => e = .returned v ∧ Ext n.at_ w') :
 Calls P f args n.at_ fun e w'' => e = .returned v ∧ ∃ m : Later w, w'' = m.at_ :=
 h.mono fun _ w'' ⟨he, hx⟩ => ⟨he, ⟨w'', n.ext.trans' hx⟩, rfl⟩
theorem calm_same {P : Program} {f : FuncId} {args : Array Value} {w : World} {n : Later w} {v : Value} (h : Calls P f args n.at_ fun e w' => e = .returned v ∧ w' = n.at_) :
 Calls P f args n.at_ fun e w'' => e = .returned v ∧ ∃ m : Later w, w'' = m.at_ :=
 h.mono fun _ _ ⟨he, hx⟩ => ⟨he, n, hx⟩

end Go.Proofs.YtfjdijakgjhieaaGreat

namespace Go.Proofs.YtfjdijakgjhieaaGreat
open Go.RowKit

def noVar (t : GT) : Bool := !t.v
theorem noVar_yes {t : GT} (h : t.v = false) : noVar t = true := by unfold noVar; rw [h]; rfl
theorem noVar_no {t : GT} (h : t.v = true) : noVar t = false := by unfold noVar; rw [h]; rfl

set_option maxRecDepth 100000 in
set_option maxHeartbeats 1000000 in
theorem l3Ground_any (a : GA) (v : Value) (w : World) {S : Nat → Prop} (hs : a.n.size ≤ maxLen) (hv : TermsR S w v a.args) :
 Calls Tryz.prog 39 #[.agg #[.string a.n, v]] w fun e w' => e = .returned (.bool (factB a)) ∧ Ext w w' := by
 obtain ⟨A, c, rfl, hc1, hc2⟩ := SliceR.form hv
 have HV := Lib.hid (hv.ext ((Ext.refl w).alloc (.cells #[.string a.n, .slice A a.args.length c] 26)))
 clear hv
 go_enter Tryz.func39, Tryz.ntmps39
 go_wp2
 go_loopw [3] (fun i wr => ∃ k : Nat, k ≤ a.args.length ∧ i = .int .i64 k ∧ Hid ((a.args.take k).all noVar = true) ∧ wr = w.alloc (.cells #[.string a.n, .slice A a.args.length c] 26)) (fun i _ => a.args.length - (intOf i).toNat)
 case atStart => exact ⟨0, Nat.zero_le _, rfl, rfl, rfl⟩
 case round =>
  obtain ⟨k, hk, rfl, hp, rfl⟩ := hrel
  by_cases hlt : k < a.args.length
  · obtain ⟨b, off, x, rfl, hb, hxk, hxs, hc0, hc1⟩ := TermsR.at_ HV.out hlt
    have HK := Lib.hid hxk
    clear hxk
    cases ht : x.v
    · have HP := Lib.hid (show (a.args.take (k + 1)).all noVar = true from by rw [all_snoc _ _ k x HK.out, hp.out, noVar_yes ht]; rfl)
      rw [ht] at hc0
      clear ht
      go_wp2
      go_roundw
      case rel => exact ⟨k + 1, by omega, by go_num, HP, trivial⟩
      case measure => simp [intOf]; omega
    · have HF := Lib.hid (show factB a = false from by unfold factB; rw [show (a.args.all fun t => !t.v) = false from all_false noVar _ k x HK.out (noVar_no ht), Bool.and_false])
      rw [ht] at hc0
      clear ht
      go_wp2
      go_ret
      exact ⟨by rw [HF.out]; rfl, (Ext.refl _).alloc _⟩
  · have HF := Lib.hid (show factB a = atomOkB a from by unfold factB; rw [show (a.args.all fun t => !t.v) = true from all_whole noVar _ k hlt hp.out, Bool.and_true])
    go_wp2_with (go_at_call 13; refine (specAtomOk_any a _ _ hs HV.out).mono ?_; rintro e w1 ⟨rfl, hx1⟩)
    go_ret
    exact ⟨by rw [HF.out]; rfl, ((Ext.refl _).alloc _).trans' hx1⟩

def ltA (a b : GA) : Bool := decide (cmpA a b < 0)
/-- In order, each once. -/
def ascB : List GA → Bool
 | [] => true
 | [_] => true
 | a :: b :: l => ltA a b && ascB (b :: l)
def factsB (l : List GA) (most : Nat) : Bool := l.all factB && ascB l && decide (l.length ≤ most)

theorem ascB_snoc : ∀ (l : List GA) (a b : GA), ascB (l ++ [a, b]) = (ascB (l ++ [a]) && ltA a b)
 | [], a, b => by simp [ascB]
 | [c], a, b => by simp [ascB]
 | c :: d :: l, a, b => by
   have := ascB_snoc (d :: l) a b
   simp only [List.cons_append] at this ⊢
   simp only [ascB, this, Bool.and_assoc]

theorem ascB_false_append : ∀ (l m : List GA), ascB l = false → ascB (l ++ m) = false
 | [], m, h => by simp [ascB] at h
 | [c], m, h => by simp [ascB] at h
 | c :: d :: l, m, h => by
   simp only [List.cons_append, ascB, Bool.and_eq_false_iff] at h ⊢
   rcases h with h | h
   · exact .inl h
   · exact .inr (ascB_false_append (d :: l) m h)

/-- The first k are in order. -/
def ascTo (l : List GA) (k : Nat) : Bool := ascB (l.take k)
theorem ascTo_one {l : List GA} {a : GA} (h : l[0]? = some a) : ascTo l 1 = true := by
 unfold ascTo; cases l with
 | nil => simp at h
 | cons b l => rfl
theorem take_two {l : List GA} {k : Nat} {a b : GA} (ha : l[k]? = some a) (hb : l[k + 1]? = some b) : l.take (k + 2) = l.take k ++ [a, b] ∧ l.take (k + 1) = l.take k ++ [a] := by
 obtain ⟨h1, rfl⟩ := List.getElem?_eq_some_iff.1 ha
 obtain ⟨h2, rfl⟩ := List.getElem?_eq_some_iff.1 hb
 have e1 := List.take_succ_eq_append_getElem h1
 have e2 := List.take_succ_eq_append_getElem h2
 exact ⟨by rw [e2, e1, List.append_assoc]; rfl, e1⟩
theorem ascTo_step {l : List GA} {k : Nat} {a b : GA} (ha : l[k]? = some a) (hb : l[k + 1]? = some b) : ascTo l (k + 2) = (ascTo l (k + 1) && ltA a b) := by
 obtain ⟨e1, e2⟩ := take_two ha hb
 unfold ascTo; rw [e1, e2, ascB_snoc]
theorem ascTo_false {l : List GA} {k : Nat} (h : ascTo l k = false) : ascB l = false := by
 rw [← List.take_append_drop k l]; exact ascB_false_append _ _ h

set_option maxRecDepth 100000 in
set_option maxHeartbeats 2000000 in
theorem l3Ok_any (v : Value) (xs : List GA) (most : Nat) (w : World) {S : Nat → Prop} (hv : AtomsR S w v xs) :
 Calls Tryz.prog 41 #[v, .int .i64 most] w fun e w' => e = .returned (.bool (factsB xs most)) ∧ Ext w w' := by
 obtain ⟨A, c, rfl, hc1, hc2⟩ := SliceR.form hv
 have HV := Lib.hid hv
 clear hv
 go_enter Tryz.func41, Tryz.ntmps41
 go_wp2
 go_loopw [5] (fun i wr => ∃ k : Nat, k ≤ xs.length ∧ i = .int .i64 k ∧ Hid ((xs.take k).all factB = true) ∧ Hid (ascTo xs k = true) ∧ Ext w wr) (fun i _ => xs.length - (intOf i).toNat)
 case atStart => exact ⟨0, Nat.zero_le _, rfl, rfl, rfl, Ext.refl _⟩
 case round =>
  obtain ⟨k, hk, rfl, hp, ha, hx⟩ := hrel
  have hk0 : (0 : Int) ≤ (k : Int) := Int.natCast_nonneg _
  by_cases hlt : k < xs.length
  · obtain ⟨b, off, x, v1, rfl, hb, hxk, hxs, ht, hc0, hc1⟩ := AtomsR.at_ (HV.out.ext hx) hlt
    have hk1 : (k : Int) < (xs.length : Int) := by omega
    have HK := Lib.hid hxk
    have HT := Lib.hid ht
    clear hxk ht
    cases hf : factB x
    · have HF := Lib.hid (show factsB xs most = false from by unfold factsB; rw [all_false factB _ k x HK.out hf]; rfl)
      have HW := Lib.hid (fun (W : World) (h : Ext wr W) => (bool_ways (l3Ground_any x v1 W hxs (HT.out.ext h))).2 hf)
      clear hf
      go_wp2_with fail
      refine calm_region (by kernel_rfl) (by kernel_rfl) ?_
      repeat (go_big_quiet_step ((go_at_call 39; exact calm_call (HW.out _ (Later.ext _)))))
      refine wpQuiet_nil ?_
      rintro w1 ⟨⟨_, hx1⟩, rfl⟩
      go_wp2
      go_ret
      exact ⟨by rw [HF.out]; rfl, hx.trans' hx1⟩
    · have HW := Lib.hid (fun (W : World) (h : Ext wr W) => (bool_ways (l3Ground_any x v1 W hxs (HT.out.ext h))).1 hf)
      have HP := Lib.hid (show (xs.take (k + 1)).all factB = true from by rw [all_snoc _ _ k x HK.out, hp.out, hf]; rfl)
      clear hf hp
      by_cases hk2 : k < 1
      · have HA := Lib.hid (show ascTo xs (k + 1) = true from by
          obtain rfl : k = 0 := by omega
          exact ascTo_one HK.out)
        have hg : decide (0 < k) = false := decide_eq_false (by omega)
        go_wp2_with fail
        refine calm_region (by kernel_rfl) (by kernel_rfl) ?_
        repeat (go_big_quiet_step ((go_at_call 39; exact calm_call (HW.out _ (Later.ext _)))))
        refine wpQuiet_nil ?_
        rintro w1 ⟨⟨_, hx1⟩, rfl⟩
        go_wp2
        go_roundw
        case rel => exact ⟨k + 1, by omega, by go_num, HP, HA, hx.trans' hx1⟩
        case measure => simp [intOf]; omega
      · obtain ⟨j, rfl⟩ : ∃ j, k = j + 1 := ⟨k - 1, by omega⟩
        obtain ⟨b', off', y, v2, hbb, hb', hyk, hys, ht', hd0, hd1⟩ := AtomsR.at_ (HV.out.ext hx) (k := j) (by omega)
        injection hbb with hbb
        injection hbb with e1 e2
        subst e1; subst e2
        have HY := Lib.hid ht'
        have HS := Lib.hid (ascTo_step hyk HK.out)
        have HC := Lib.hid (fun (W : World) (h : Ext wr W) => l1Cmp_any y x v2 v1 W (HY.out.ext h) (HT.out.ext h))
        have hj0 : (0 : Int) ≤ (j : Int) := Int.natCast_nonneg _
        have hj1 : (j : Int) < (xs.length : Int) := by omega
        clear ht' hyk hk0
        by_cases hcmp : cmpA y x < 0
        · have HA := Lib.hid (show ascTo xs (j + 1 + 1) = true from by rw [HS.out, ha.out]; unfold ltA; simp [hcmp])
          go_wp2_with fail
          refine calm_region (by kernel_rfl) (by kernel_rfl) ?_
          repeat (go_big_quiet_step ((first | (go_at_call 39; exact calm_call (HW.out _ (Later.ext _))) | (go_at_call 79; exact calm_call (HC.out _ (Later.ext _))))))
          refine wpQuiet_nil ?_
          rintro w1 ⟨⟨_, hx1⟩, rfl⟩
          go_wp2
          go_roundw
          case rel => exact ⟨j + 1 + 1, by omega, by go_num, HP, HA, hx.trans' hx1⟩
          case measure => simp [intOf]; omega
        · have HF := Lib.hid (show factsB xs most = false from by
            have : ascTo xs (j + 1 + 1) = false := by rw [HS.out]; unfold ltA; simp [hcmp]
            unfold factsB; rw [ascTo_false this]; simp)
          go_wp2_with fail
          refine calm_region (by kernel_rfl) (by kernel_rfl) ?_
          repeat (go_big_quiet_step ((first | (go_at_call 39; exact calm_call (HW.out _ (Later.ext _))) | (go_at_call 79; exact calm_call (HC.out _ (Later.ext _))))))
          refine wpQuiet_nil ?_
          rintro w1 ⟨⟨_, hx1⟩, rfl⟩
          go_wp2
          go_ret
          exact ⟨by rw [HF.out]; rfl, hx.trans' hx1⟩
  · have HF := Lib.hid (show factsB xs most = decide (xs.length ≤ most) from by
      have h1 := all_whole factB _ k hlt hp.out
      have h2 := ha.out
      unfold ascTo at h2
      rw [List.take_of_length_le (by omega)] at h2
      unfold factsB; rw [h1, h2]; rfl)
    go_wp2
    go_ret
    exact ⟨by rw [HF.out]; exact ret_bool (by simp), hx⟩

theorem specFactsOk_any (v : Value) (xs : List GA) (w : World) {S : Nat → Prop} (hv : AtomsR S w v xs) :
 Calls Tryz.prog 12 #[v] w fun e w' => e = .returned (.bool (factsB xs 300)) ∧ Ext w w' := by
 obtain ⟨A, c, rfl, hc1, hc2⟩ := SliceR.form hv
 have HV := Lib.hid hv
 clear hv
 go_enter Tryz.func12, Tryz.ntmps12
 go_wp2_with (go_at_call 41; refine (l3Ok_any _ xs 300 _ HV.out).mono ?_; rintro e w1 ⟨rfl, hx1⟩)
 go_ret
 exact ⟨rfl, hx1⟩

end Go.Proofs.YtfjdijakgjhieaaGreat

namespace Go.Proofs.YtfjdijakgjhieaaGreat
set_option linter.unusedSimpArgs false
set_option linter.unusedVariables false
open Go.RowKit

set_option maxHeartbeats 1000000 in
theorem plain_any (s : ByteArray) (w : World) (hs : s.size ≤ maxLen) :
 Calls Tryz.prog 173 #[.string s] w fun e w' => e = .returned (.bool (plainB s.data.toList)) ∧ w' = w := by
 unfold maxLen at hs
 go_enter Tryz.func173, Tryz.ntmps173
 go_wp2
 go_loop [3] (fun i => ∃ k : Nat, k ≤ s.size ∧ i = .int .i64 k ∧ Hid (plainB (s.data.toList.take k) = true)) (fun i => s.size - (intOf i).toNat)
 case atStart => exact ⟨0, Nat.zero_le _, rfl, rfl⟩
 case round =>
  obtain ⟨k, hk, rfl, hp⟩ := hrel
  by_cases hlt : k < s.size
  · have HT := Lib.hid (take_snoc' s k hlt)
    have hc : s[k].toNat < 256 := s[k].toNat_lt
    cases hd : lowDig s[k]
    · have HF := Lib.hid (show plainB s.data.toList = false from by
        have : plainB (s.data.toList.take (k + 1)) = false := by rw [HT.out, plainB_snoc, hd, Bool.and_false]
        exact plainB_false this)
      rcases lowDig_no hd with h | h | h
      all_goals
       clear hd
       go_wp2
       go_ret
       exact ⟨by rw [HF.out]; rfl, rfl⟩
    · have HP := Lib.hid (show plainB (s.data.toList.take (k + 1)) = true from by rw [HT.out, plainB_snoc, hd, hp.out]; rfl)
      rcases lowDig_yes hd with h | h
      all_goals
       clear hd
       go_wp2
       go_round
       case rel => exact ⟨k + 1, by omega, by go_num, HP⟩
       case measure => simp [intOf]; omega
  · have HF := Lib.hid (show plainB s.data.toList = true from by
      have hkk : k = s.size := by omega
      have hp1 := hp.out
      rw [hkk, take_all] at hp1
      exact hp1)
    go_wp2
    go_ret
    exact ⟨by rw [HF.out]; rfl, rfl⟩

theorem capB_nil {s : ByteArray} (h : s.size = 0) : capB s = false := by
 have : s.data.toList = [] := by apply List.eq_nil_of_length_eq_zero; simpa using h
 unfold capB; rw [this]
theorem list_nil {s : ByteArray} (h : s.size = 0) : s.toList = [] := by
 rw [ByteArray.toList_eq]; apply List.eq_nil_of_length_eq_zero; simpa using h
theorem list_ne {s : ByteArray} (h : ¬ s.size = 0) : s.toList.isEmpty = false := by
 rw [ByteArray.toList_eq]
 cases h2 : s.data.toList with
 | nil => exact absurd (by have := congrArg List.length h2; simpa using this) h
 | cons => rfl

set_option maxHeartbeats 1000000 in
theorem capital_any (s : ByteArray) (w : World) (hs : s.size ≤ maxLen) :
 Calls Tryz.prog 193 #[.string s] w fun e w' => e = .returned (.bool (capB s)) ∧ w' = w := by
 unfold maxLen at hs
 by_cases h0 : s.size = 0
 · have HF := Lib.hid (capB_nil h0)
   have h1 : s.toList = [] := list_nil h0
   have h2 : (!s.toList.isEmpty) = false := by rw [h1]; rfl
   have H0 := Lib.hid h0
   clear h0
   go_enter Tryz.func193, Tryz.ntmps193
   go_wp2
   go_ret
   exact ⟨by rw [HF.out]; rfl, rfl⟩
 · have hp : 0 < s.size := Nat.pos_of_ne_zero h0
   have h1 : s.toList.isEmpty = false := list_ne h0
   have hc : s[0].toNat < 256 := s[0].toNat_lt
   cases hu : upper s[0]
   · have HF := Lib.hid ((capB_cons hp).trans hu)
     have hr : s[0].toNat < 65 ∨ 90 < s[0].toNat := by have h9 := of_decide_eq_false hu; clear h1; omega
     clear hu h0
     rcases hr with hr | hr
     all_goals
      go_enter Tryz.func193, Tryz.ntmps193
      go_wp2
      go_ret
      exact ⟨by rw [HF.out]; exact ret_bool (by first | (simp; done) | (simp; omega)), rfl⟩
   · have HF := Lib.hid ((capB_cons hp).trans hu)
     obtain ⟨hr1, hr2⟩ := of_decide_eq_true hu
     clear hu h0
     go_enter Tryz.func193, Tryz.ntmps193
     go_wp2
     go_ret
     exact ⟨by rw [HF.out]; exact ret_bool (by first | (simp; done) | (simp; omega)), rfl⟩

def tailB (s : ByteArray) : Bool := plainB (s.data.toList.drop 1)
theorem varOkB_eq (s : ByteArray) : varOkB s = (decide (s.size ≤ 8) && capB s && plainB (s.data.toList.drop 1)) := by
 unfold varOkB; rw [Bool.and_comm (capB s)]
theorem capB_pos {s : ByteArray} (h : capB s = true) : 0 < s.size := by
 rcases Nat.eq_zero_or_pos s.size with h0 | h0
 · rw [capB_nil h0] at h; cases h
 · exact h0

set_option maxHeartbeats 1000000 in
theorem variableOk_any (s : ByteArray) (w : World) (hs : s.size ≤ maxLen) :
 Calls Tryz.prog 175 #[.string s] w fun e w' => e = .returned (.bool (varOkB s)) ∧ w' = w := by
 have hm : s.size ≤ 9223372036854775807 := hs
 by_cases h8 : s.size ≤ 8
 · have hw := bool_ways (capital_any s w hs)
   have hd8 : decide ((s.size : Int) ≤ 8) = true := by simp; omega
   cases hc : capB s
   · have HF := Lib.hid (show varOkB s = false from by rw [varOkB_eq, hc]; simp)
     have HW := Lib.hid (hw.2 hc)
     clear hw hc
     go_enter Tryz.func175, Tryz.ntmps175
     go_wp2_with (go_at_call 193; refine HW.out.mono ?_; rintro e w1 ⟨rfl, rfl⟩)
     go_ret
     exact ⟨by rw [HF.out]; rfl, rfl⟩
   · have hp := capB_pos hc
     have HW := Lib.hid (hw.1 hc)
     have hq := plain_any (s.extract 1 s.size) w (by rw [tail_size _ _ hp]; exact Nat.le_trans (Nat.sub_le _ _) hs)
     have hq2 : Calls Tryz.prog 173 #[.string (s.extract 1 s.size)] w fun e w' => e = .returned (.bool (tailB s)) ∧ w' = w := by rw [tail_list] at hq; exact hq
     have HQ := Lib.hid hq2
     have HF := Lib.hid (show varOkB s = tailB s from by rw [varOkB_eq, hc]; unfold tailB; simp [h8])
     clear hw hc hq hq2
     go_enter Tryz.func175, Tryz.ntmps175
     go_wp2_with (first | (go_at_call 193; refine HW.out.mono ?_; rintro e w1 ⟨rfl, rfl⟩) | (go_at_call 173; refine HQ.out.mono ?_; rintro e w1 ⟨rfl, rfl⟩))
     go_ret
     exact ⟨by rw [HF.out]; rfl, rfl⟩
 · have HF := Lib.hid (show varOkB s = false from by rw [varOkB_eq]; simp [h8])
   have hd8 : decide ((s.size : Int) ≤ 8) = false := by simp; omega
   go_enter Tryz.func175, Tryz.ntmps175
   go_wp2
   go_ret
   exact ⟨by rw [HF.out]; exact ret_bool (by first | (simp; done) | (simp; omega)), rfl⟩

set_option maxHeartbeats 1000000 in
theorem nameOk_any (s : ByteArray) (w : World) (hs : s.size ≤ maxLen) :
 Calls Tryz.prog 137 #[.string s] w fun e w' => e = .returned (.bool (nameOkB s)) ∧ w' = w := by
 have hm : s.size ≤ 9223372036854775807 := hs
 by_cases h1 : 1 ≤ s.size
 · by_cases h8 : s.size ≤ 8
   · have hw := bool_ways (plain_any s w hs)
     cases hc : plainB s.data.toList
     · have HF := Lib.hid (show nameOkB s = false from by unfold nameOkB lettersB; rw [hc]; rfl)
       have HW := Lib.hid (hw.2 hc)
       clear hw hc
       go_enter Tryz.func137, Tryz.ntmps137
       go_wp2_with (go_at_call 173; refine HW.out.mono ?_; rintro e w1 ⟨rfl, rfl⟩)
       go_ret
       exact ⟨by rw [HF.out]; rfl, rfl⟩
     · have HF := Lib.hid (show nameOkB s = !(isNot s) from by unfold nameOkB lettersB; rw [hc, inB_yes (by omega) (by omega)]; rfl)
       have HW := Lib.hid (hw.1 hc)
       clear hw hc
       go_enter Tryz.func137, Tryz.ntmps137
       go_wp2_with (go_at_call 173; refine HW.out.mono ?_; rintro e w1 ⟨rfl, rfl⟩)
       go_ret
       exact ⟨by rw [HF.out]; rfl, rfl⟩
   · have HF := Lib.hid (show nameOkB s = false from by unfold nameOkB lettersB; rw [inB_high (by omega)]; simp)
     go_enter Tryz.func137, Tryz.ntmps137
     go_wp2
     go_ret
     exact ⟨by rw [HF.out]; first | rfl | exact ret_bool (by first | (simp; done) | (simp; omega)), rfl⟩
 · have HF := Lib.hid (show nameOkB s = false from by unfold nameOkB lettersB; rw [inB_low (by omega)]; simp)
   go_enter Tryz.func137, Tryz.ntmps137
   go_wp2
   go_ret
   exact ⟨by rw [HF.out]; first | rfl | exact ret_bool (by first | (simp; done) | (simp; omega)), rfl⟩

end Go.Proofs.YtfjdijakgjhieaaGreat
