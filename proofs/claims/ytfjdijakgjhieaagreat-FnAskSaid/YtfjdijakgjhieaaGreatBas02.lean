/- Part of the texts of a proof: own texts joined in the order of their building; what they say stands at each theorem. -/
import Derived.Test.YtfjdijakgjhieaaGreatBas01
import Derived.Lib.Strings
import Derived.Lib.Bytealg
import Derived.Lib.ItoaNum
namespace Go.Proofs.YtfjdijakgjhieaaGreat
open Go.RowKit

section
variable {α : Type} {k : Kind α} {S S' T : Nat → Prop} {w w' : World} {v u : Value} {xs : List α}
theorem ListK.one {v : Value} {xs : List α} (h : ListK k S w v xs) : v.oneCell' = true := by obtain ⟨A, c, rfl, _⟩ := SliceR.form h; rfl
end

theorem AtomsR.impL {S S' : Nat → Prop} {w w' : World} {v : Value} {xs : List GA} (h : AtomsR S w v xs) (hS : ∀ b, S b → b < w.heap.size → S' b) (he : Agree S w w') (hsz : w.heap.size ≤ w'.heap.size) : AtomsR S' w' v xs := ListK.imp (k := kAtom) h hS he hsz
def kPart : Kind GP := ⟨3, PartE, by decide, fun h hS he hsz => by obtain ⟨v, h1, h2, h3⟩ := h; exact ⟨v, h1, h2, h3.impL hS he hsz⟩,
 fun {_ _ l x} h => by obtain ⟨v, rfl, _, ht⟩ := h; intro u hu; simp at hu; rcases hu with rfl | rfl | rfl <;> first | rfl | exact ListK.one (k := kTerm) ht, fun h => by obtain ⟨v, rfl, _⟩ := h; rfl⟩
theorem PartsR.impL {S S' : Nat → Prop} {w w' : World} {v : Value} {xs : List GP} (h : PartsR S w v xs) (hS : ∀ b, S b → b < w.heap.size → S' b) (he : Agree S w w') (hsz : w.heap.size ≤ w'.heap.size) : PartsR S' w' v xs := ListK.imp (k := kPart) h hS he hsz
def kRule : Kind GR := ⟨3, RuleE, by decide, fun h hS he hsz => by obtain ⟨v, u, h1, h2, h3, h4⟩ := h; exact ⟨v, u, h1, h2, h3.impL hS he hsz, h4.impL hS he hsz⟩,
 fun {_ _ l x} h => by obtain ⟨v, u, rfl, _, ht, hp⟩ := h; intro y hy; simp at hy; rcases hy with rfl | rfl | rfl <;> first | rfl | exact ListK.one (k := kTerm) ht | exact ListK.one (k := kPart) hp, fun h => by obtain ⟨v, u, rfl, _⟩ := h; rfl⟩
end Go.Proofs.YtfjdijakgjhieaaGreat

namespace Go.Proofs.YtfjdijakgjhieaaGreat
set_option linter.unusedSimpArgs false
set_option linter.unusedVariables false
open Go.RowKit

/-! ### Patterns and words -/
/-- A slot: the place of a variable, or a word. -/
structure GS where
 v : Option Nat
 w : ByteArray
structure GPat where
 n : ByteArray
 slots : List GS
abbrev Words := List ByteArray
def noWord : ByteArray := ⟨#[]⟩
def Words.at_ (W : Words) (v : Nat) : ByteArray := W.getD v noWord
def wordOf (W : Words) (s : GS) : ByteArray := match s.v with
 | none => s.w
 | some v => W.at_ v
def isNo (s : ByteArray) : Bool := decide (s.size = 0)
theorem isNo_iff {s : ByteArray} : isNo s = true ↔ s = noWord := by
 unfold isNo noWord
 constructor
 · intro h
   have h1 := of_decide_eq_true h
   cases s with
   | mk d =>
     have : d.size = 0 := h1
     rw [Array.eq_empty_of_size_eq_zero this]
 · intro h; subst h; rfl
def bindW (W : Words) (s : GS) (x : ByteArray) : Words := match s.v with
 | none => W
 | some v => W.set v x
/-- What a fact's terms say of slots; if false, some may be bound. -/
def matchW : List GS → List GT → Words → Words × Bool
 | s :: ss, t :: ts, W =>
   if t.v || isNo t.n then (W, false)
   else if isNo (wordOf W s) then matchW ss ts (bindW W s t.n)
   else if wordOf W s = t.n then matchW ss ts W else (W, false)
 | _, _, W => (W, true)
def matchP (p : GPat) (a : GA) (W : Words) : Words × Bool := if p.n = a.n ∧ p.slots.length = a.args.length then matchW p.slots a.args W else (W, false)
def factP (W : Words) (p : GPat) : GA := ⟨p.n, p.slots.map fun s => ⟨false, wordOf W s⟩⟩

/-! ### Candidates -/
/-- Does the fact at a place stand under name, size (and a word at a place)? -/
def under (facts : List GA) (n : ByteArray) (size : Nat) (at_ : Option (Nat × ByteArray)) (j : Nat) : Bool := match facts[j]? with
 | none => false
 | some a => decide (a.n = n ∧ a.args.length = size) && match at_ with
   | none => true
   | some (i, w) => match a.args[i]? with
     | none => false
     | some t => decide (t.n = w)
def placesOf (facts : List GA) (n : ByteArray) (size : Nat) (at_ : Option (Nat × ByteArray)) : List Nat := (List.range facts.length).filter (under facts n size at_)
def candStep (facts : List GA) (p : GPat) (W : Words) (best : List Nat) (x : GS × Nat) : List Nat :=
 if isNo (wordOf W x.1) then best
 else if (placesOf facts p.n p.slots.length (some (x.2, wordOf W x.1))).length < best.length then placesOf facts p.n p.slots.length (some (x.2, wordOf W x.1)) else best
def candP (facts : List GA) (p : GPat) (W : Words) : List Nat := p.slots.zipIdx.foldl (candStep facts p W) (placesOf facts p.n p.slots.length none)

/-- What is searched. -/
structure SE where
 facts : List GA
 rounds : List Nat
 parts : List GPat
 nots : List GPat
 wanted : List Bool
 inOrder : Bool
 ahead : Nat
def SE.settled (E : SE) (W : Words) : Bool := E.wanted.zipIdx.all fun x => !x.1 || !isNo (W.at_ x.2)
def sameA (a b : GA) : Bool := decide (a.n = b.n ∧ a.args.map (·.n) = b.args.map (·.n))
def SE.hindered (E : SE) (W : Words) : Bool := E.nots.any fun p => E.facts.any (sameA (factP W p))
/-- The next part, and places of facts for it. -/
def chooseStep (E : SE) (left : Nat) (W : Words) (o : Option (Nat × List Nat)) (x : GPat × Nat) : Option (Nat × List Nat) :=
 if left.testBit x.2 then match o with
  | none => some (x.2, candP E.facts x.1 W)
  | some (b, l) => if E.inOrder then some (b, l) else if (candP E.facts x.1 W).length < l.length then some (x.2, candP E.facts x.1 W) else some (b, l)
 else o
def SE.choose (E : SE) (left : Nat) (W : Words) : Option (Nat × List Nat) := E.parts.zipIdx.foldl (chooseStep E left W) none
def without (left i : Nat) : Nat := if left.testBit i then left ^^^ 2 ^ i else left
def SE.skip (E : SE) (j : Nat) : Bool := E.inOrder && decide (E.ahead ≤ E.rounds.getD j 0)
/-- Through candidates; what is told, and whether something held. -/
def toldLoop (E : SE) (rec_ : Words → List Words × Bool) (settled : Bool) (p : GPat) (W : Words) : List Nat → Bool → List Words × Bool
 | [], held => ([], held)
 | j :: l, held =>
   if E.skip j then toldLoop E rec_ settled p W l held
   else match E.facts[j]? with
    | none => toldLoop E rec_ settled p W l held
    | some a =>
      if (matchP p a W).2 then
       let r := rec_ (matchP p a W).1
       if (held || r.2) && settled then (r.1, held || r.2)
       else let q := toldLoop E rec_ settled p W l (held || r.2); (r.1 ++ q.1, q.2)
      else if held && settled then ([], held) else toldLoop E rec_ settled p W l held
def told (E : SE) : Nat → Nat → Words → List Words × Bool
 | 0, _, _ => ([], false)
 | f + 1, left, W =>
   if E.settled W && E.hindered W then ([], false)
   else if left = 0 then ([W], true)
   else match E.choose left W with
    | none => ([], false)
    | some (i, l) => match E.parts[i]? with
      | none => ([], false)
      | some p => toldLoop E (told E f (without left i)) (E.settled W) p W l false
/-- What is told, one by one, to who may say no. -/
def feed {σ : Type} (tell : σ → Words → σ × Bool) : List Words → σ → σ × Bool
 | [], st => (st, true)
 | W :: l, st => if (tell st W).2 then feed tell l (tell st W).1 else ((tell st W).1, false)

/-! ### What words say -/
/-- W knows nothing else than V. -/
def Words.below (W V : Words) : Prop := W.length = V.length ∧ ∀ v, isNo (W.at_ v) = false → V.at_ v = W.at_ v
theorem below_refl (W : Words) : W.below W := ⟨rfl, fun _ _ => rfl⟩
theorem below_trans {U V W : Words} (h : U.below V) (k : V.below W) : U.below W := ⟨h.1.trans k.1, fun v hv => by
 have h1 := h.2 v hv
 rw [← h1] at hv ⊢
 exact k.2 v hv⟩
theorem at_set (W : Words) (v : Nat) (x : ByteArray) (u : Nat) : Words.at_ (W.set v x) u = if v = u ∧ v < W.length then x else W.at_ u := by
 unfold Words.at_
 rw [List.getD_eq_getElem?_getD, List.getD_eq_getElem?_getD, List.getElem?_set]
 by_cases h : v = u
 · subst h
   by_cases h2 : v < W.length
   · simp [h2]
   · simp [h2]
 · simp [h]
/-- Slots of a pattern lie in bounds, and words are words. -/
def okSlot (m : Nat) (s : GS) : Prop := match s.v with
 | none => isNo s.w = false
 | some v => v < m
def okFact (a : GA) : Prop := ∀ t ∈ a.args, t.v = false ∧ isNo t.n = false
theorem below_bind {W : Words} {s : GS} {x : ByteArray} (hs : okSlot W.length s) (h : isNo (wordOf W s) = true) : W.below (bindW W s x) ∧ wordOf (bindW W s x) s = x := by
 unfold okSlot at hs
 unfold wordOf at h ⊢
 unfold bindW
 cases hv : s.v with
 | none => rw [hv] at hs h; simp only at hs h; rw [h] at hs; cases hs
 | some v =>
   rw [hv] at hs h
   simp only at hs h ⊢
   refine ⟨⟨(List.length_set).symm, fun u hu => ?_⟩, ?_⟩
   · rw [at_set]
     split
     · rename_i e
       rw [← e.1, h] at hu; cases hu
     · rfl
   · rw [at_set, if_pos ⟨rfl, hs⟩]
theorem wordOf_below {W V : Words} {s : GS} (h : W.below V) (hk : isNo (wordOf W s) = false) : wordOf V s = wordOf W s := by
 unfold wordOf at hk ⊢
 cases hv : s.v with
 | none => rfl
 | some v => rw [hv] at hk; exact h.2 v hk

/-- A match is right: W grows, the slots' words are known, and are the fact's. -/
theorem matchW_true : ∀ {ss : List GS} {ts : List GT} {W V : Words}, (∀ s ∈ ss, okSlot W.length s) → ss.length = ts.length → matchW ss ts W = (V, true) →
 W.below V ∧ (∀ s ∈ ss, isNo (wordOf V s) = false) ∧ ss.map (wordOf V) = ts.map (·.n) ∧ ∀ v, isNo (W.at_ v) = true → isNo (V.at_ v) = false → ∃ s ∈ ss, s.v = some v
 | [], [], W, V, _, _, h => by
   simp only [matchW, Prod.mk.injEq, and_true] at h
   subst h
   exact ⟨below_refl _, fun s hs => (by cases hs), rfl, fun v h1 h2 => (by rw [h1] at h2; cases h2)⟩
 | [], _ :: _, _, _, _, hl, _ => by simp at hl
 | _ :: _, [], _, _, _, hl, _ => by simp at hl
 | s :: ss, t :: ts, W, V, hs, hl, h => by
   have hl' : ss.length = ts.length := by simpa using hl
   simp only [matchW] at h
   split at h
   · simp at h
   · rename_i hbad
     have ht2 : isNo t.n = false := by
      cases h2 : isNo t.n
      · rfl
      · rw [h2, Bool.or_true] at hbad; exact absurd rfl hbad
     split at h
     · rename_i hno
       have hb := below_bind (x := t.n) (hs s (by simp)) hno
       have hlen : (bindW W s t.n).length = W.length := hb.1.1.symm
       obtain ⟨h1, h2, h3, h4⟩ := matchW_true (fun s' hs' => by rw [hlen]; exact hs s' (List.mem_cons_of_mem _ hs')) hl' h
       have hk : isNo (wordOf (bindW W s t.n) s) = false := by rw [hb.2]; exact ht2
       have hw := wordOf_below h1 hk
       refine ⟨below_trans hb.1 h1, fun s' hs' => ?_, ?_, fun v hv1 hv2 => ?_⟩
       · rcases List.mem_cons.1 hs' with rfl | hs'
         · rw [hw]; exact hk
         · exact h2 s' hs'
       · rw [List.map_cons, List.map_cons, h3, hw, hb.2]
       · by_cases e : isNo ((bindW W s t.n).at_ v) = true
         · obtain ⟨s', hs', hv'⟩ := h4 v e hv2
           exact ⟨s', List.mem_cons_of_mem _ hs', hv'⟩
         · refine ⟨s, by simp, ?_⟩
           unfold bindW at e
           cases hsv : s.v with
           | none => rw [hsv] at e; exact absurd hv1 e
           | some u =>
             rw [hsv] at e
             simp only at e
             rw [at_set] at e
             split at e
             · rename_i e2; rw [e2.1]
             · exact absurd hv1 e
     · rename_i hno
       have hk : isNo (wordOf W s) = false := by simpa using hno
       split at h
       · rename_i heq
         obtain ⟨h1, h2, h3, h4⟩ := matchW_true (fun s' hs' => hs s' (List.mem_cons_of_mem _ hs')) hl' h
         have hw := wordOf_below h1 hk
         refine ⟨h1, fun s' hs' => ?_, ?_, fun v hv1 hv2 => ?_⟩
         · rcases List.mem_cons.1 hs' with rfl | hs'
           · rw [hw]; exact hk
           · exact h2 s' hs'
         · rw [List.map_cons, List.map_cons, h3, hw, heq]
         · obtain ⟨s', hs', hv'⟩ := h4 v hv1 hv2
           exact ⟨s', List.mem_cons_of_mem _ hs', hv'⟩
       · simp at h

/-- What W may become: words R that are known whole. -/
theorem matchW_meets : ∀ {ss : List GS} {ts : List GT} {W R : Words}, (∀ s ∈ ss, okSlot W.length s) → ss.length = ts.length → W.below R → (∀ t ∈ ts, t.v = false ∧ isNo t.n = false) → ss.map (wordOf R) = ts.map (·.n) →
 ∃ V, matchW ss ts W = (V, true) ∧ V.below R
 | [], [], W, R, _, _, hW, _, _ => ⟨W, rfl, hW⟩
 | [], _ :: _, _, _, _, hl, _, _, _ => by simp at hl
 | _ :: _, [], _, _, _, hl, _, _, _ => by simp at hl
 | s :: ss, t :: ts, W, R, hs, hl, hW, ht, hm => by
   have hl' : ss.length = ts.length := by simpa using hl
   obtain ⟨ht1, ht2⟩ := ht t (by simp)
   rw [List.map_cons, List.map_cons] at hm
   injection hm with hm1 hm2
   simp only [matchW]
   rw [if_neg (by rw [ht1, ht2]; simp)]
   by_cases hno : isNo (wordOf W s) = true
   · rw [if_pos hno]
     have hb := below_bind (x := t.n) (hs s (by simp)) hno
     have hlen : (bindW W s t.n).length = W.length := hb.1.1.symm
     refine matchW_meets (fun s' hs' => by rw [hlen]; exact hs s' (List.mem_cons_of_mem _ hs')) hl' ⟨hlen.trans hW.1, fun v hv => ?_⟩ (fun t' ht' => ht t' (List.mem_cons_of_mem _ ht')) hm2
     unfold bindW at hv ⊢
     cases hsv : s.v with
     | none => rw [hsv] at hv; exact hW.2 v hv
     | some u =>
       rw [hsv] at hv
       simp only at hv ⊢
       rw [at_set] at hv ⊢
       split
       · rename_i e
         rw [← hm1, ← e.1]
         unfold wordOf
         rw [hsv]
       · rename_i e
         rw [if_neg e] at hv
         exact hW.2 v hv
   · rw [if_neg hno]
     have hk : isNo (wordOf W s) = false := by simpa using hno
     have hw := wordOf_below hW hk
     rw [if_pos (hw.symm.trans hm1)]
     exact matchW_meets (fun s' hs' => hs s' (List.mem_cons_of_mem _ hs')) hl' hW (fun t' ht' => ht t' (List.mem_cons_of_mem _ ht')) hm2

/-! ### Candidates are all that may match -/
def Holds (facts : List GA) (p : GPat) (V : Words) : Prop := ∃ a ∈ facts, a.n = p.n ∧ a.args.map (·.n) = p.slots.map (wordOf V)
def known (V : Words) (p : GPat) : Prop := ∀ s ∈ p.slots, isNo (wordOf V s) = false
theorem fold_keep {α β : Type} {f : β → α → β} {I : β → Prop} : ∀ {l : List α} {b : β}, (∀ b x, x ∈ l → I b → I (f b x)) → I b → I (l.foldl f b)
 | [], _, _, h => h
 | x :: l, b, hs, h => fold_keep (l := l) (b := f b x) (fun b y hy => hs b y (List.mem_cons_of_mem _ hy)) (hs b x (by simp) h)
theorem places_mem {facts : List GA} {n : ByteArray} {size : Nat} {at_ : Option (Nat × ByteArray)} {j : Nat} : j ∈ placesOf facts n size at_ ↔ under facts n size at_ j = true := by
 unfold placesOf
 rw [List.mem_filter, List.mem_range]
 constructor
 · exact fun h => h.2
 · intro h
   refine ⟨?_, h⟩
   unfold under at h
   cases hj : facts[j]? with
   | none => rw [hj] at h; cases h
   | some a => exact (List.getElem?_eq_some_iff.1 hj).1
theorem under_is {facts : List GA} {n : ByteArray} {size : Nat} {at_ : Option (Nat × ByteArray)} {j : Nat} (h : under facts n size at_ j = true) : ∃ a, facts[j]? = some a ∧ a.n = n ∧ a.args.length = size := by
 unfold under at h
 cases hj : facts[j]? with
 | none => rw [hj] at h; cases h
 | some a =>
   rw [hj] at h
   simp only [Bool.and_eq_true, decide_eq_true_eq] at h
   exact ⟨a, rfl, h.1⟩
theorem cand_is {facts : List GA} {p : GPat} {W : Words} {j : Nat} (h : j ∈ candP facts p W) : ∃ a, facts[j]? = some a ∧ a.n = p.n ∧ a.args.length = p.slots.length := by
 have key : ∀ j ∈ candP facts p W, ∃ at_, under facts p.n p.slots.length at_ j = true := by
  unfold candP
  refine fold_keep (I := fun b => ∀ j ∈ b, ∃ at_, under facts p.n p.slots.length at_ j = true) (fun b x _ hb => ?_) (fun j hj => ⟨none, places_mem.1 hj⟩)
  unfold candStep
  split
  · exact hb
  · split
    · exact fun j hj => ⟨_, places_mem.1 hj⟩
    · exact hb
 obtain ⟨at_, hu⟩ := key j h
 exact under_is hu
theorem cand_all {facts : List GA} {p : GPat} {W R : Words} {j : Nat} {a : GA} (hW : W.below R) (hj : facts[j]? = some a) (hn : a.n = p.n) (hm : a.args.map (·.n) = p.slots.map (wordOf R)) : j ∈ candP facts p W := by
 have hlen : a.args.length = p.slots.length := by simpa using congrArg List.length hm
 unfold candP
 refine fold_keep (I := fun b => j ∈ b) (fun b x hx hb => ?_) (places_mem.2 (by unfold under; rw [hj]; simp [hn, hlen]))
 unfold candStep
 split
 · exact hb
 · rename_i hno
   split
   · refine places_mem.2 ?_
     obtain ⟨s, i⟩ := x
     have hs : p.slots[i]? = some s := List.mem_zipIdx_iff_getElem?.1 hx
     have hk : isNo (wordOf W s) = false := by simpa using hno
     have hw := wordOf_below hW hk
     have hi : (a.args.map (·.n))[i]? = some (wordOf R s) := by rw [hm, List.getElem?_map, hs]; rfl
     rw [List.getElem?_map] at hi
     unfold under
     rw [hj]
     cases ht : a.args[i]? with
     | none => rw [ht] at hi; cases hi
     | some t =>
       rw [ht] at hi
       simp only [Option.map_some, Option.some.injEq] at hi
       simp [hn, hlen, hi, hw, ht]
   · exact hb
theorem choose_is {E : SE} {left : Nat} {W : Words} {i : Nat} {l : List Nat} (h : E.choose left W = some (i, l)) : left.testBit i = true ∧ ∃ p, E.parts[i]? = some p ∧ l = candP E.facts p W := by
 unfold SE.choose at h
 have key : ∀ i l, E.parts.zipIdx.foldl (chooseStep E left W) none = some (i, l) → left.testBit i = true ∧ ∃ p, E.parts[i]? = some p ∧ l = candP E.facts p W := by
  refine fold_keep (I := fun o => ∀ i l, o = some (i, l) → left.testBit i = true ∧ ∃ p, E.parts[i]? = some p ∧ l = candP E.facts p W) (fun o x hx ho => ?_) (fun i l h => by cases h)
  intro i l h
  unfold chooseStep at h
  have hxp : E.parts[x.2]? = some x.1 := List.mem_zipIdx_iff_getElem?.1 hx
  split at h
  · rename_i hb
    have mine : ∀ {i l}, (x.2, candP E.facts x.1 W) = (i, l) → left.testBit i = true ∧ ∃ p, E.parts[i]? = some p ∧ l = candP E.facts p W := fun {i l} e => by
     injection e with e1 e2
     subst e1; subst e2
     exact ⟨hb, x.1, hxp, rfl⟩
    cases ho2 : o with
    | none => rw [ho2] at h; exact mine (Option.some.inj h)
    | some q =>
      obtain ⟨b, m⟩ := q
      rw [ho2] at h
      simp only at h
      split at h
      · exact ho i l (ho2.trans h)
      · split at h
        · exact mine (Option.some.inj h)
        · exact ho i l (ho2.trans h)
  · exact ho i l h
 exact key i l h
theorem choose_some {E : SE} {left : Nat} {W : Words} {i : Nat} (hi : i < E.parts.length) (hb : left.testBit i = true) : E.choose left W ≠ none := by
 unfold SE.choose
 obtain ⟨x, hx⟩ : ∃ x, E.parts[i]? = some x := ⟨_, List.getElem?_eq_getElem hi⟩
 have hm : (x, i) ∈ E.parts.zipIdx := List.mem_zipIdx_iff_getElem?.2 hx
 obtain ⟨l1, l2, hl⟩ := List.append_of_mem hm
 rw [hl, List.foldl_append, List.foldl_cons]
 refine fold_keep (I := fun o => o ≠ none) (fun o y _ ho => ?_) ?_
 · unfold chooseStep
   split
   · cases o with
     | none => exact fun h => by cases h
     | some q =>
       simp only
       split
       · exact fun h => by cases h
       · split <;> exact fun h => by cases h
   · exact ho
 · unfold chooseStep
   rw [if_pos hb]
   split
   · exact fun h => by cases h
   · split
     · exact fun h => by cases h
     · split <;> exact fun h => by cases h

/-! ### Through candidates -/
theorem loop_from {E : SE} {rec_ : Words → List Words × Bool} {settled : Bool} {p : GPat} {W : Words} : ∀ {l : List Nat} {held : Bool} {V : Words}, V ∈ (toldLoop E rec_ settled p W l held).1 →
 ∃ j ∈ l, ∃ a, E.facts[j]? = some a ∧ (matchP p a W).2 = true ∧ V ∈ (rec_ (matchP p a W).1).1
 | [], held, V, h => by simp [toldLoop] at h
 | j :: l, held, V, h => by
   have up : (∃ j ∈ l, ∃ a, E.facts[j]? = some a ∧ (matchP p a W).2 = true ∧ V ∈ (rec_ (matchP p a W).1).1) → ∃ j' ∈ j :: l, ∃ a, E.facts[j']? = some a ∧ (matchP p a W).2 = true ∧ V ∈ (rec_ (matchP p a W).1).1 := fun ⟨j', h1, h2⟩ => ⟨j', List.mem_cons_of_mem _ h1, h2⟩
   simp only [toldLoop] at h
   split at h
   · exact up (loop_from h)
   · cases hj : E.facts[j]? with
     | none => rw [hj] at h; exact up (loop_from h)
     | some a =>
       rw [hj] at h
       simp only at h
       split at h
       · rename_i hm
         split at h
         · exact ⟨j, by simp, a, hj, hm, h⟩
         · rcases List.mem_append.1 h with h | h
           · exact ⟨j, by simp, a, hj, hm, h⟩
           · exact up (loop_from h)
       · split at h
         · cases h
         · exact up (loop_from h)
theorem loop_held {E : SE} {rec_ : Words → List Words × Bool} {settled : Bool} {p : GPat} {W : Words} (hr : ∀ W', (rec_ W').2 = !(rec_ W').1.isEmpty) : ∀ {l : List Nat} {held : Bool}, (toldLoop E rec_ settled p W l held).2 = (held || !(toldLoop E rec_ settled p W l held).1.isEmpty)
 | [], held => by simp [toldLoop]
 | j :: l, held => by
   simp only [toldLoop]
   split
   · exact loop_held hr
   · cases hj : E.facts[j]? with
     | none => exact loop_held hr
     | some a =>
       simp only
       split
       · split
         · rw [hr]
         · rw [loop_held hr, hr]
           cases held <;> cases (rec_ (matchP p a W).1).1 <;> simp
       · split
         · rename_i h
           cases held <;> simp at h ⊢
         · exact loop_held hr
theorem loop_all {E : SE} {rec_ : Words → List Words × Bool} {p : GPat} {W : Words} (ho : E.inOrder = false) : ∀ {l : List Nat} {held : Bool} {j : Nat} {a : GA} {V : Words}, j ∈ l → E.facts[j]? = some a → (matchP p a W).2 = true → V ∈ (rec_ (matchP p a W).1).1 →
 V ∈ (toldLoop E rec_ false p W l held).1
 | [], _, _, _, _, h, _, _, _ => by cases h
 | j :: l, held, j', a, V, h, hj, hm, hV => by
   have hsk : E.skip j = false := by unfold SE.skip; rw [ho]; rfl
   simp only [toldLoop, hsk, Bool.false_eq_true, if_false, Bool.and_false]
   rcases List.mem_cons.1 h with rfl | h
   · rw [hj]
     simp only [hm, if_true]
     exact List.mem_append_left _ hV
   · cases hj2 : E.facts[j]? with
     | none => exact loop_all ho h hj hm hV
     | some b =>
       simp only
       split
       · exact List.mem_append_right _ (loop_all ho h hj hm hV)
       · exact loop_all ho h hj hm hV
theorem loop_some {E : SE} {rec_ : Words → List Words × Bool} {settled : Bool} {p : GPat} {W : Words} (ho : E.inOrder = false) (hr : ∀ W', (rec_ W').2 = !(rec_ W').1.isEmpty) : ∀ {l : List Nat} {held : Bool} {j : Nat} {a : GA} {V : Words}, j ∈ l → E.facts[j]? = some a → (matchP p a W).2 = true → V ∈ (rec_ (matchP p a W).1).1 →
 (toldLoop E rec_ settled p W l held).2 = true
 | [], _, _, _, _, h, _, _, _ => by cases h
 | j :: l, held, j', a, V, h, hj, hm, hV => by
   have hsk : E.skip j = false := by unfold SE.skip; rw [ho]; rfl
   simp only [toldLoop, hsk, Bool.false_eq_true, if_false]
   rcases List.mem_cons.1 h with rfl | h
   · rw [hj]
     have hne : (rec_ (matchP p a W).1).2 = true := by
      rw [hr]
      cases hl : (rec_ (matchP p a W).1).1 with
      | nil => rw [hl] at hV; cases hV
      | cons _ _ => rfl
     simp only [hm, if_true, hne, Bool.or_true, Bool.true_and]
     split
     · rfl
     · rw [loop_held hr]; rfl
   · cases hj2 : E.facts[j]? with
     | none => exact loop_some ho hr h hj hm hV
     | some b =>
       simp only
       split
       · split
         · rename_i h2
           rw [Bool.and_eq_true] at h2
           exact h2.1
         · exact loop_some ho hr h hj hm hV
       · split
         · rename_i h2
           rw [Bool.and_eq_true] at h2
           exact h2.1
         · exact loop_some ho hr h hj hm hV

/-! ### What is left -/
theorem without_bit {left i j : Nat} (h : left.testBit i = true) : (without left i).testBit j = (left.testBit j && !decide (i = j)) := by
 unfold without
 rw [if_pos h, Nat.testBit_xor, Nat.testBit_two_pow]
 by_cases e : i = j
 · subst e; simp [h]
 · simp [e]
def bitsOf (n left : Nat) : Nat := (List.range n).countP left.testBit
theorem bits_without {n left i : Nat} (hi : i < n) (h : left.testBit i = true) : bitsOf n (without left i) + 1 ≤ bitsOf n left := by
 unfold bitsOf
 have hm : i ∈ List.range n := List.mem_range.2 hi
 obtain ⟨l1, l2, hl⟩ := List.append_of_mem hm
 have hle : ∀ l : List Nat, l.countP (without left i).testBit ≤ l.countP left.testBit := fun l => List.countP_mono_left (fun x _ hx => by
  rw [without_bit h, Bool.and_eq_true] at hx; exact hx.1)
 rw [hl, List.countP_append, List.countP_append, List.countP_cons, List.countP_cons]
 have e1 : (without left i).testBit i = false := by rw [without_bit h]; simp
 simp only [e1, h, Bool.false_eq_true, if_false, if_true]
 have := hle l1
 have := hle l2
 omega
theorem bit_some {left : Nat} (h : left ≠ 0) : ∃ i, left.testBit i = true := by
 refine Classical.byContradiction fun hn => h ?_
 refine Nat.eq_of_testBit_eq fun i => ?_
 rw [Nat.zero_testBit]
 cases hi : left.testBit i with
 | false => rfl
 | true => exact absurd ⟨i, hi⟩ hn

/-! ### What is told -/
structure SE.Ok (E : SE) (m : Nat) : Prop where
 parts : ∀ p ∈ E.parts, ∀ s ∈ p.slots, okSlot m s
 facts : ∀ a ∈ E.facts, okFact a
 free : E.inOrder = false
 wlen : E.wanted.length = m
 cover : ∀ v, E.wanted[v]? = some true → ∃ p ∈ E.parts, ∃ s ∈ p.slots, s.v = some v
 nots : ∀ p ∈ E.nots, ∀ s ∈ p.slots, ∀ v, s.v = some v → E.wanted[v]? = some true
/-- What is not left any more holds. -/
def SE.Done (E : SE) (left : Nat) (W : Words) : Prop := ∀ i p, E.parts[i]? = some p → left.testBit i = false → known W p ∧ Holds E.facts p W
theorem holds_below {facts : List GA} {p : GPat} {W V : Words} (h : W.below V) (hk : known W p) (hh : Holds facts p W) : known V p ∧ Holds facts p V := by
 have hm : p.slots.map (wordOf V) = p.slots.map (wordOf W) := List.map_congr_left fun s hs => wordOf_below h (hk s hs)
 obtain ⟨a, h1, h2, h3⟩ := hh
 exact ⟨fun s hs => by rw [wordOf_below h (hk s hs)]; exact hk s hs, a, h1, h2, by rw [hm]; exact h3⟩
theorem settled_iff {E : SE} {W : Words} : E.settled W = true ↔ ∀ v, E.wanted[v]? = some true → isNo (W.at_ v) = false := by
 unfold SE.settled
 rw [List.all_eq_true]
 constructor
 · intro h v hv
   have := h (true, v) (List.mem_zipIdx_iff_getElem?.2 hv)
   simpa using this
 · intro h x hx
   have hx2 := List.mem_zipIdx_iff_getElem?.1 hx
   obtain ⟨b, v⟩ := x
   cases b with
   | false => rfl
   | true => simpa using h v hx2
theorem same_iff {a b : GA} : sameA a b = true ↔ a.n = b.n ∧ a.args.map (·.n) = b.args.map (·.n) := by
 unfold sameA; exact decide_eq_true_iff
theorem hindered_congr {E : SE} {m : Nat} (hE : E.Ok m) {V R : Words} (h : ∀ v, E.wanted[v]? = some true → V.at_ v = R.at_ v) : E.hindered V = E.hindered R := by
 unfold SE.hindered
 have key : ∀ p ∈ E.nots, factP V p = factP R p := fun p hp => by
  unfold factP
  congr 1
  refine List.map_congr_left fun s hs => ?_
  unfold wordOf
  cases hv : s.v with
  | none => rfl
  | some v => simp only [h v (hE.nots p hp s hs v hv)]
 rw [Bool.eq_iff_iff, List.any_eq_true, List.any_eq_true]
 constructor
 · rintro ⟨p, hp, h2⟩; exact ⟨p, hp, by rw [← key p hp]; exact h2⟩
 · rintro ⟨p, hp, h2⟩; exact ⟨p, hp, by rw [key p hp]; exact h2⟩
theorem matchP_true {p : GPat} {a : GA} {W : Words} (hs : ∀ s ∈ p.slots, okSlot W.length s) (h : (matchP p a W).2 = true) :
 p.n = a.n ∧ W.below (matchP p a W).1 ∧ known (matchP p a W).1 p ∧ p.slots.map (wordOf (matchP p a W).1) = a.args.map (·.n) := by
 unfold matchP at h ⊢
 split at h
 · rename_i hc
   rw [if_pos hc]
   obtain ⟨h1, h2, h3, _⟩ := matchW_true (V := (matchW p.slots a.args W).1) hs hc.2 (by rw [← h])
   exact ⟨hc.1, h1, h2, h3⟩
 · cases h
theorem matchP_meets {p : GPat} {a : GA} {W R : Words} (hs : ∀ s ∈ p.slots, okSlot W.length s) (hn : p.n = a.n) (hW : W.below R) (ha : okFact a) (hm : p.slots.map (wordOf R) = a.args.map (·.n)) :
 (matchP p a W).2 = true ∧ (matchP p a W).1.below R := by
 have hlen : p.slots.length = a.args.length := by simpa using congrArg List.length hm
 obtain ⟨V, h1, h2⟩ := matchW_meets hs hlen hW ha hm
 unfold matchP
 rw [if_pos ⟨hn, hlen⟩, h1]
 exact ⟨rfl, h2⟩

theorem told_held (E : SE) : ∀ (f left : Nat) (W : Words), (told E f left W).2 = !(told E f left W).1.isEmpty
 | 0, _, _ => rfl
 | f + 1, left, W => by
   simp only [told]
   split
   · rfl
   · split
     · rfl
     · cases hc : E.choose left W with
       | none => rfl
       | some q =>
         obtain ⟨i, l⟩ := q
         simp only
         cases hp : E.parts[i]? with
         | none => rfl
         | some p => simpa using loop_held (told_held E f (without left i)) (held := false)
/-- All that is told is right. -/
theorem told_right {E : SE} {m : Nat} (hE : E.Ok m) : ∀ (f left : Nat) (W V : Words), W.length = m → E.Done left W → V ∈ (told E f left W).1 →
 W.below V ∧ (∀ p ∈ E.parts, known V p ∧ Holds E.facts p V) ∧ E.hindered V = false
 | 0, _, _, _, _, _, h => by cases h
 | f + 1, left, W, V, hlen, hd, h => by
   simp only [told] at h
   split at h
   · cases h
   · rename_i hnh
     split at h
     · rename_i h0
       subst h0
       have hV : V = W := by simpa using h
       subst hV
       have hall : ∀ p ∈ E.parts, known V p ∧ Holds E.facts p V := fun p hp => by
        obtain ⟨i, hi⟩ := List.getElem?_of_mem hp
        exact hd i p hi (Nat.zero_testBit i)
       refine ⟨below_refl _, hall, ?_⟩
       have hst : E.settled V = true := settled_iff.2 fun v hv => by
        obtain ⟨p, hp, s, hs, e⟩ := hE.cover v hv
        have := (hall p hp).1 s hs
        unfold wordOf at this
        rw [e] at this
        exact this
       rw [hst, Bool.true_and] at hnh
       simpa using hnh
     · cases hc : E.choose left W with
       | none => rw [hc] at h; cases h
       | some q =>
         obtain ⟨i, l⟩ := q
         rw [hc] at h
         simp only at h
         obtain ⟨hbit, p, hp, hl⟩ := choose_is hc
         rw [hp] at h
         simp only at h
         obtain ⟨j, hj, a, ha, hm, hV⟩ := loop_from h
         have hs : ∀ s ∈ p.slots, okSlot W.length s := fun s hs => by rw [hlen]; exact hE.parts p (List.mem_of_getElem? hp) s hs
         obtain ⟨h1, h2, h3, h4⟩ := matchP_true hs hm
         have hd2 : E.Done (without left i) (matchP p a W).1 := fun i' p' hp' hb' => by
          rw [without_bit hbit] at hb'
          by_cases e : i = i'
          · subst e
            have : p' = p := Option.some.inj (hp'.symm.trans hp)
            subst this
            exact ⟨h3, a, List.mem_of_getElem? ha, h1.symm, h4.symm⟩
          · have hb2 : left.testBit i' = false := by simpa [e] using hb'
            obtain ⟨k1, k2⟩ := hd i' p' hp' hb2
            exact holds_below h2 k1 k2
         obtain ⟨r1, r2, r3⟩ := told_right hE f _ _ V (h2.1.symm.trans hlen) hd2 hV
         exact ⟨below_trans h2 r1, r2, r3⟩
/-- All that is right is told, as far as it is wanted. -/
theorem told_all {E : SE} {m : Nat} (hE : E.Ok m) : ∀ (f left : Nat) (W R : Words), W.length = m → (∀ i, left.testBit i = true → i < E.parts.length) → bitsOf E.parts.length left < f → E.Done left W → W.below R →
 (∀ p ∈ E.parts, known R p ∧ Holds E.facts p R) → E.hindered R = false → ∃ V ∈ (told E f left W).1, ∀ v, E.wanted[v]? = some true → V.at_ v = R.at_ v
 | 0, _, _, _, _, _, hf, _, _, _, _ => by omega
 | f + 1, left, W, R, hlen, hbits, hf, hd, hW, hR, hh => by
   simp only [told]
   split
   · rename_i h
     rw [Bool.and_eq_true] at h
     have : E.hindered W = E.hindered R := hindered_congr hE fun v hv => (hW.2 v (settled_iff.1 h.1 v hv)).symm
     rw [h.2, hh] at this
     cases this
   · split
     · rename_i h0
       subst h0
       refine ⟨W, by simp, fun v hv => ?_⟩
       obtain ⟨p, hp, s, hs, e⟩ := hE.cover v hv
       obtain ⟨i, hi⟩ := List.getElem?_of_mem hp
       have := (hd i p hi (Nat.zero_testBit i)).1 s hs
       unfold wordOf at this
       rw [e] at this
       exact (hW.2 v this).symm
     · rename_i h0
       obtain ⟨i0, hi0⟩ := bit_some h0
       cases hc : E.choose left W with
       | none => exact absurd hc (choose_some (hbits i0 hi0) hi0)
       | some q =>
         obtain ⟨i, l⟩ := q
         simp only
         obtain ⟨hbit, p, hp, hl⟩ := choose_is hc
         rw [hp]
         simp only
         have hs : ∀ s ∈ p.slots, okSlot W.length s := fun s hs => by rw [hlen]; exact hE.parts p (List.mem_of_getElem? hp) s hs
         obtain ⟨hk, a, ham, han, hargs⟩ := hR p (List.mem_of_getElem? hp)
         obtain ⟨j, hj⟩ := List.getElem?_of_mem ham
         have hjl : j ∈ l := by rw [hl]; exact cand_all hW hj han hargs
         obtain ⟨hm, hb⟩ := matchP_meets hs han.symm hW (hE.facts a ham) hargs.symm
         obtain ⟨h1, h2, h3, h4⟩ := matchP_true hs hm
         have hd2 : E.Done (without left i) (matchP p a W).1 := fun i' p' hp' hb' => by
          rw [without_bit hbit] at hb'
          by_cases e : i = i'
          · subst e
            have : p' = p := Option.some.inj (hp'.symm.trans hp)
            subst this
            exact ⟨h3, a, List.mem_of_getElem? hj, h1.symm, h4.symm⟩
          · have hb2 : left.testBit i' = false := by simpa [e] using hb'
            obtain ⟨k1, k2⟩ := hd i' p' hp' hb2
            exact holds_below h2 k1 k2
         have hb3 : ∀ i', (without left i).testBit i' = true → i' < E.parts.length := fun i' h => by
          rw [without_bit hbit, Bool.and_eq_true] at h
          exact hbits i' h.1
         have hcnt := bits_without (hbits i hbit) hbit
         obtain ⟨V, hV, hVR⟩ := told_all hE f _ _ R (h2.1.symm.trans hlen) hb3 (by omega) hd2 hb hR hh
         cases hst : E.settled W with
         | false => exact ⟨V, loop_all hE.free hjl hj hm hV, hVR⟩
         | true =>
           have hne := loop_some (settled := true) (held := false) (rec_ := told E f (without left i)) hE.free (told_held E f _) hjl hj hm hV
           rw [loop_held (told_held E f _), Bool.false_or] at hne
           cases hq : (toldLoop E (told E f (without left i)) true p W l false).1 with
           | nil => rw [hq] at hne; cases hne
           | cons U us =>
             refine ⟨U, by simp, fun v hv => ?_⟩
             obtain ⟨j', hj', a', ha', hm', hU⟩ := loop_from (by rw [hq]; simp : U ∈ _)
             obtain ⟨g1, g2, g3, g4⟩ := matchP_true hs hm'
             have hd3 : E.Done (without left i) (matchP p a' W).1 := fun i' p' hp' hb' => by
              rw [without_bit hbit] at hb'
              by_cases e : i = i'
              · subst e
                have : p' = p := Option.some.inj (hp'.symm.trans hp)
                subst this
                exact ⟨g3, a', List.mem_of_getElem? ha', g1.symm, g4.symm⟩
              · have hb2 : left.testBit i' = false := by simpa [e] using hb'
                obtain ⟨k1, k2⟩ := hd i' p' hp' hb2
                exact holds_below g2 k1 k2
             have hUW := (told_right hE f _ _ U (g2.1.symm.trans hlen) hd3 hU).1
             have hkw := settled_iff.1 hst v hv
             have e1 := (below_trans g2 hUW).2 v hkw
             exact e1.trans (hW.2 v hkw).symm

/-! ### Nothing is told twice -/
theorem places_nodup (facts : List GA) (n : ByteArray) (size : Nat) (at_ : Option (Nat × ByteArray)) : (placesOf facts n size at_).Nodup := List.Pairwise.filter _ List.nodup_range
theorem cand_nodup (facts : List GA) (p : GPat) (W : Words) : (candP facts p W).Nodup := by
 unfold candP
 refine fold_keep (I := fun b : List Nat => List.Nodup b) (fun b x _ hb => ?_) (places_nodup _ _ _ _)
 unfold candStep
 split
 · exact hb
 · split
   · exact places_nodup _ _ _ _
   · exact hb
theorem loop_pair {E : SE} {rec_ : Words → List Words × Bool} {p : GPat} {W : Words} {Q : Words → Words → Prop} : ∀ {l : List Nat} {held : Bool}, l.Nodup →
 (∀ j ∈ l, ∀ a, E.facts[j]? = some a → (matchP p a W).2 = true → (rec_ (matchP p a W).1).1.Pairwise Q) →
 (∀ j ∈ l, ∀ j' ∈ l, j ≠ j' → ∀ a a', E.facts[j]? = some a → E.facts[j']? = some a' → (matchP p a W).2 = true → (matchP p a' W).2 = true → ∀ V ∈ (rec_ (matchP p a W).1).1, ∀ V' ∈ (rec_ (matchP p a' W).1).1, Q V V') →
 (toldLoop E rec_ false p W l held).1.Pairwise Q
 | [], held, _, _, _ => by simp [toldLoop]
 | j :: l, held, hn, h1, h2 => by
   obtain ⟨hn1, hn2⟩ := List.nodup_cons.1 hn
   have ih : ∀ held, (toldLoop E rec_ false p W l held).1.Pairwise Q := fun held => loop_pair hn2 (fun j' hj' => h1 j' (List.mem_cons_of_mem _ hj')) (fun j' hj' k hk => h2 j' (List.mem_cons_of_mem _ hj') k (List.mem_cons_of_mem _ hk))
   simp only [toldLoop, Bool.and_false, Bool.false_eq_true, if_false]
   split
   · exact ih held
   · cases hj : E.facts[j]? with
     | none => exact ih held
     | some a =>
       simp only
       split
       · rename_i hm
         refine List.pairwise_append.2 ⟨h1 j (by simp) a hj hm, ih _, fun V hV V' hV' => ?_⟩
         obtain ⟨j', hj', a', ha', hm', hV2⟩ := loop_from hV'
         exact h2 j (by simp) j' (List.mem_cons_of_mem _ hj') (fun e => hn1 (e ▸ hj')) a a' hj ha' hm hm' V hV V' hV2
       · exact ih held
theorem loop_one {E : SE} {rec_ : Words → List Words × Bool} (hr : ∀ W', (rec_ W').2 = !(rec_ W').1.isEmpty) {p : GPat} {W : Words} : ∀ {l : List Nat}, (toldLoop E rec_ true p W l false).1 = [] ∨ ∃ j ∈ l, ∃ a, E.facts[j]? = some a ∧ (matchP p a W).2 = true ∧ (toldLoop E rec_ true p W l false).1 = (rec_ (matchP p a W).1).1
 | [] => .inl rfl
 | j :: l => by
   have up : ((toldLoop E rec_ true p W l false).1 = [] ∨ ∃ j ∈ l, ∃ a, E.facts[j]? = some a ∧ (matchP p a W).2 = true ∧ (toldLoop E rec_ true p W l false).1 = (rec_ (matchP p a W).1).1) →
    ((toldLoop E rec_ true p W l false).1 = [] ∨ ∃ j' ∈ j :: l, ∃ a, E.facts[j']? = some a ∧ (matchP p a W).2 = true ∧ (toldLoop E rec_ true p W l false).1 = (rec_ (matchP p a W).1).1) := fun h => h.imp id fun ⟨j', h1, h2⟩ => ⟨j', List.mem_cons_of_mem _ h1, h2⟩
   simp only [toldLoop]
   split
   · exact up (loop_one hr)
   · cases hj : E.facts[j]? with
     | none => exact up (loop_one hr)
     | some a =>
       simp only
       by_cases hm : (matchP p a W).2 = true
       · rw [if_pos hm]
         simp only [Bool.false_or, Bool.and_true]
         by_cases hq : (rec_ (matchP p a W).1).2 = true
         · rw [if_pos hq]
           exact .inr ⟨j, by simp, a, hj, hm, rfl⟩
         · rw [if_neg hq]
           have hq2 : (rec_ (matchP p a W).1).2 = false := by simpa using hq
           have he : (rec_ (matchP p a W).1).1 = [] := by
            rw [hr] at hq2
            cases hl : (rec_ (matchP p a W).1).1 with
            | nil => rfl
            | cons _ _ => rw [hl] at hq2; cases hq2
           rw [hq2, he, List.nil_append]
           exact up (loop_one hr)
       · rw [if_neg hm]
         simp only [Bool.false_and, Bool.false_eq_true, if_false]
         exact up (loop_one hr)
theorem told_apart {E : SE} {m : Nat} (hE : E.Ok m) (hall : ∀ p ∈ E.parts, ∀ s ∈ p.slots, ∀ v, s.v = some v → E.wanted[v]? = some true) (hf : E.facts.Pairwise fun a b => sameA a b = false) :
 ∀ (f left : Nat) (W : Words), W.length = m → E.Done left W → (told E f left W).1.Pairwise fun V V' => ∃ v, E.wanted[v]? = some true ∧ V.at_ v ≠ V'.at_ v
 | 0, _, _, _, _ => List.Pairwise.nil
 | f + 1, left, W, hlen, hd => by
   simp only [told]
   split
   · exact List.Pairwise.nil
   · split
     · exact List.pairwise_singleton _ _
     · cases hc : E.choose left W with
       | none => exact List.Pairwise.nil
       | some q =>
         obtain ⟨i, l⟩ := q
         simp only
         obtain ⟨hbit, p, hp, hl⟩ := choose_is hc
         rw [hp]
         simp only
         have hpm := List.mem_of_getElem? hp
         have hs : ∀ s ∈ p.slots, okSlot W.length s := fun s hs => by rw [hlen]; exact hE.parts p hpm s hs
         have hdone : ∀ j a, E.facts[j]? = some a → (matchP p a W).2 = true → E.Done (without left i) (matchP p a W).1 ∧ (matchP p a W).1.length = m := fun j a ha hm => by
          obtain ⟨h1, h2, h3, h4⟩ := matchP_true hs hm
          refine ⟨fun i' p' hp' hb' => ?_, h2.1.symm.trans hlen⟩
          rw [without_bit hbit] at hb'
          by_cases e : i = i'
          · subst e
            have : p' = p := Option.some.inj (hp'.symm.trans hp)
            subst this
            exact ⟨h3, a, List.mem_of_getElem? ha, h1.symm, h4.symm⟩
          · have hb2 : left.testBit i' = false := by simpa [e] using hb'
            obtain ⟨k1, k2⟩ := hd i' p' hp' hb2
            exact holds_below h2 k1 k2
         have hself : ∀ j ∈ l, ∀ a, E.facts[j]? = some a → (matchP p a W).2 = true → (told E f (without left i) (matchP p a W).1).1.Pairwise fun V V' => ∃ v, E.wanted[v]? = some true ∧ V.at_ v ≠ V'.at_ v := fun j _ a ha hm =>
          told_apart hE hall hf f _ _ (hdone j a ha hm).2 (hdone j a ha hm).1
         cases hst : E.settled W with
         | true =>
           rcases loop_one (told_held E f (without left i)) (p := p) (W := W) (l := l) with h | ⟨j, hj, a, ha, hm, h⟩
           · rw [h]; exact List.Pairwise.nil
           · rw [h]; exact hself j hj a ha hm
         | false =>
           refine loop_pair (by rw [hl]; exact cand_nodup _ _ _) hself (fun j hj j' hj' hne a a' ha ha' hm hm' V hV V' hV' => ?_)
           obtain ⟨h1, h2, h3, h4⟩ := matchP_true hs hm
           obtain ⟨g1, g2, g3, g4⟩ := matchP_true hs hm'
           have r1 := (told_right hE f _ _ V (hdone j a ha hm).2 (hdone j a ha hm).1 hV).1
           have r2 := (told_right hE f _ _ V' (hdone j' a' ha' hm').2 (hdone j' a' ha' hm').1 hV').1
           refine Classical.byContradiction fun hn => ?_
           have hsame : ∀ v, E.wanted[v]? = some true → V.at_ v = V'.at_ v := fun v hv => Classical.byContradiction fun h => hn ⟨v, hv, h⟩
           have e1 : p.slots.map (wordOf V) = a.args.map (·.n) := by
            rw [← h4]
            exact List.map_congr_left fun s hs => wordOf_below r1 (h3 s hs)
           have e2 : p.slots.map (wordOf V') = a'.args.map (·.n) := by
            rw [← g4]
            exact List.map_congr_left fun s hs => wordOf_below r2 (g3 s hs)
           have e3 : p.slots.map (wordOf V) = p.slots.map (wordOf V') := List.map_congr_left fun s hs => by
            unfold wordOf
            cases hv : s.v with
            | none => rfl
            | some v => exact hsame v (hall p hpm s hs v hv)
           have e4 : sameA a a' = true := same_iff.2 ⟨h1.symm.trans g1, by rw [← e1, ← e2, e3]⟩
           have e5 : sameA a' a = true := same_iff.2 ⟨g1.symm.trans h1, by rw [← e1, ← e2, e3]⟩
           obtain ⟨hlt, rfl⟩ := List.getElem?_eq_some_iff.1 ha
           obtain ⟨hlt', rfl⟩ := List.getElem?_eq_some_iff.1 ha'
           rcases Nat.lt_or_gt_of_ne hne with h | h
           · have := List.pairwise_iff_getElem.1 hf j j' hlt hlt' h
             rw [e4] at this; cases this
           · have := List.pairwise_iff_getElem.1 hf j' j hlt' hlt h
             rw [e5] at this; cases this

end Go.Proofs.YtfjdijakgjhieaaGreat

namespace Go.Proofs.YtfjdijakgjhieaaGreat
open Go.RowKit

def lowDig (c : UInt8) : Bool := decide ((97 ≤ c.toNat ∧ c.toNat ≤ 122) ∨ (48 ≤ c.toNat ∧ c.toNat ≤ 57))
def upper (c : UInt8) : Bool := decide (65 ≤ c.toNat ∧ c.toNat ≤ 90)
def plainB (l : List UInt8) : Bool := l.all lowDig
def inB (n lo hi : Int) : Bool := decide (lo ≤ n ∧ n ≤ hi)
theorem inB_yes {n lo hi : Int} (h1 : lo ≤ n) (h2 : n ≤ hi) : inB n lo hi = true := decide_eq_true ⟨h1, h2⟩
theorem inB_low {n lo hi : Int} (h1 : n < lo) : inB n lo hi = false := decide_eq_false (by omega)
theorem inB_high {n lo hi : Int} (h1 : hi < n) : inB n lo hi = false := decide_eq_false (by omega)
def lettersB (s : ByteArray) : Bool := plainB s.data.toList && inB s.size 1 8
def isNot (s : ByteArray) : Bool := s.toList == [110, 111, 116]
def nameOkB (s : ByteArray) : Bool := lettersB s && !(isNot s)
def capB (s : ByteArray) : Bool := match s.data.toList with | [] => false | c :: _ => upper c
def varOkB (s : ByteArray) : Bool := capB s && decide (s.size ≤ 8) && plainB (s.data.toList.drop 1)
def termOkB (t : GT) : Bool := if t.v then varOkB t.n else nameOkB t.n
def atomOkB (a : GA) : Bool := nameOkB a.n && decide (a.args.length ≤ 3) && a.args.all termOkB
def factB (a : GA) : Bool := atomOkB a && a.args.all fun t => !t.v

theorem lowDig_yes {c : UInt8} (h : lowDig c = true) : (97 ≤ c.toNat ∧ c.toNat ≤ 122) ∨ (48 ≤ c.toNat ∧ c.toNat ≤ 57) := of_decide_eq_true h
theorem lowDig_no {c : UInt8} (h : lowDig c = false) : c.toNat < 48 ∨ (57 < c.toNat ∧ c.toNat < 97) ∨ 122 < c.toNat := by
 have := of_decide_eq_false h; omega

theorem plainB_snoc (l : List UInt8) (c : UInt8) : plainB (l ++ [c]) = (plainB l && lowDig c) := by simp [plainB]

theorem take_snoc' (s : ByteArray) (k : Nat) (h : k < s.size) : s.data.toList.take (k + 1) = s.data.toList.take k ++ [s[k]] := by
 rw [List.take_succ_eq_append_getElem (by simpa using h)]; rfl

theorem take_all (s : ByteArray) : s.data.toList.take s.size = s.data.toList := List.take_of_length_le (by simp)

/-- A prefix that is not plain spoils the whole. -/
theorem plainB_false {l : List UInt8} {k : Nat} (h : plainB (l.take k) = false) : plainB l = false := by
 rw [← List.take_append_drop k l]
 unfold plainB at h ⊢
 rw [List.all_append, h]; rfl

theorem tail_list (s : ByteArray) (k : Nat) : (s.extract k s.size).data.toList = s.data.toList.drop k := by
 simp only [ByteArray.data_extract, Array.toList_extract]
 rw [List.extract_eq_take_drop]
 exact List.take_of_length_le (by simp)

theorem tail_size (s : ByteArray) (k : Nat) (_h : k ≤ s.size) : (s.extract k s.size).size = s.size - k := by
 simp [ByteArray.size_extract]

theorem capB_cons {s : ByteArray} (h : 0 < s.size) : capB s = upper s[0] := by
 unfold capB
 have h1 : s.data.toList = s[0] :: s.data.toList.drop 1 := by
  have h2 : 0 < s.data.toList.length := by simpa using h
  have h3 := List.drop_eq_getElem_cons h2
  rw [List.drop_zero] at h3
  exact h3
 rw [h1]

theorem varOk_long {s : ByteArray} (hp : 0 < s.size) (hu : upper s[0] = true) (h1 : ¬ s.size = 1) : varOkB s = (lettersB (s.extract 1 s.size) && decide (s.size ≤ 8)) := by
 unfold varOkB lettersB
 rw [capB_cons hp, hu, tail_list, tail_size s 1 (by omega)]
 by_cases h8 : s.size ≤ 8
 · rw [inB_yes (by omega) (by omega)]; simp [h8]
 · simp [h8]

theorem all_snoc {α : Type} (p : α → Bool) (l : List α) (k : Nat) (x : α) (h : l[k]? = some x) : (l.take (k + 1)).all p = ((l.take k).all p && p x) := by
 obtain ⟨hk, rfl⟩ := List.getElem?_eq_some_iff.1 h
 rw [List.take_succ_eq_append_getElem hk, List.all_append]; simp
theorem all_false {α : Type} (p : α → Bool) (l : List α) (k : Nat) (x : α) (h : l[k]? = some x) (hp : p x = false) : l.all p = false := by
 rw [List.all_eq_false]; exact ⟨x, List.mem_of_getElem? h, by simp [hp]⟩
theorem all_whole {α : Type} (p : α → Bool) (l : List α) (k : Nat) (hk : ¬ k < l.length) (h : (l.take k).all p = true) : l.all p = true := by
 rwa [List.take_of_length_le (by omega)] at h
theorem compare_eq : ∀ (x y : List UInt8), Lib.compareBytes x y = if Op.bytesLess x y = true then -1 else if (x == y) = true then 0 else 1
 | [], [] => rfl
 | [], _ :: _ => rfl
 | _ :: _, [] => rfl
 | a :: x, b :: y => by
   have ih := compare_eq x y
   unfold Lib.compareBytes Op.bytesLess
   by_cases h1 : a < b
   · simp [h1]
   · by_cases h2 : b < a
     · have hne : ¬ a = b := fun e => h1 (e ▸ h2)
       simp [h1, h2, hne]
     · have hab : a = b := by
         have h3 := UInt8.not_lt.1 h1; have h4 := UInt8.not_lt.1 h2
         exact UInt8.le_antisymm h4 h3
       subst hab
       simp [h1, ih]

/-- How two texts stand to each other. -/
def cmpS (a b : ByteArray) : Int := Lib.compareBytes a.data.toList b.data.toList
theorem cmpS_less {a b : ByteArray} (h : Op.bytesLess a.toList b.toList = true) : cmpS a b = -1 := by
 unfold cmpS; rw [compare_eq, ← ByteArray.toList_eq, ← ByteArray.toList_eq, if_pos h]
theorem cmpS_same {a b : ByteArray} (h1 : Op.bytesLess a.toList b.toList = false) (h : (!a.toList == b.toList) = false) : cmpS a b = 0 := by
 unfold cmpS; rw [compare_eq, ← ByteArray.toList_eq, ← ByteArray.toList_eq, if_neg (by simp [h1]), if_pos (by simpa using h)]
theorem cmpS_more {a b : ByteArray} (h1 : Op.bytesLess a.toList b.toList = false) (h : (!a.toList == b.toList) = true) : cmpS a b = 1 := by
 unfold cmpS; rw [compare_eq, ← ByteArray.toList_eq, ← ByteArray.toList_eq, if_neg (by simp [h1]), if_neg (by simpa using h)]

def cmpArgs : List GT → List GT → Int
 | [], [] => 0
 | [], _ :: _ => -1
 | _ :: _, [] => 1
 | s :: x, t :: y => if cmpS s.n t.n = 0 then cmpArgs x y else cmpS s.n t.n
def cmpA (a b : GA) : Int := if cmpS a.n b.n = 0 then cmpArgs a.args b.args else cmpS a.n b.n

theorem cmpS_range (a b : ByteArray) : cmpS a b = -1 ∨ cmpS a b = 0 ∨ cmpS a b = 1 := by
 unfold cmpS; rw [compare_eq]; split
 · exact .inl rfl
 · split
   · exact .inr (.inl rfl)
   · exact .inr (.inr rfl)
theorem drop_cons {α : Type} {l : List α} {k : Nat} {x : α} (h : l[k]? = some x) : l.drop k = x :: l.drop (k + 1) := by
 obtain ⟨hk, rfl⟩ := List.getElem?_eq_some_iff.1 h
 exact List.drop_eq_getElem_cons hk

/-- What is still to be compared behind k terms, where q was found. -/
def cmpFrom (x y : List GT) (k : Nat) (q : Int) : Int := if q = 0 then cmpArgs (x.drop k) (y.drop k) else q
theorem cmpFrom_step {x y : List GT} {k : Nat} {s t : GT} (hs : x[k]? = some s) (ht : y[k]? = some t) : cmpFrom x y k 0 = cmpFrom x y (k + 1) (cmpS s.n t.n) := by
 unfold cmpFrom; rw [if_pos rfl, drop_cons hs, drop_cons ht]; rfl
theorem cmpFrom_done {x y : List GT} {k : Nat} {q : Int} (h : ¬ q = 0) : cmpFrom x y k q = q := if_neg h
theorem cmpFrom_end {x y : List GT} {k : Nat} (h : x.length ≤ k ∨ y.length ≤ k) (hk : k ≤ x.length ∧ k ≤ y.length) :
 cmpFrom x y k 0 = if x.length < y.length then -1 else if y.length < x.length then 1 else 0 := by
 unfold cmpFrom; rw [if_pos rfl]
 rcases Nat.lt_or_ge k x.length with h1 | h1
 · have h2 : y.length ≤ k := by omega
   rw [drop_cons (List.getElem?_eq_getElem h1), List.drop_eq_nil_of_le h2, if_neg (by omega), if_pos (by omega)]; rfl
 · rcases Nat.lt_or_ge k y.length with h2 | h2
   · rw [drop_cons (List.getElem?_eq_getElem h2), List.drop_eq_nil_of_le h1, if_pos (by omega)]; rfl
   · rw [List.drop_eq_nil_of_le h1, List.drop_eq_nil_of_le h2, if_neg (by omega), if_neg (by omega)]; rfl

end Go.Proofs.YtfjdijakgjhieaaGreat

namespace Go.Proofs.YtfjdijakgjhieaaGreat
open Go.RowKit

def strOf (l : List UInt8) : ByteArray := ⟨l.toArray⟩
theorem strOf_append (l m : List UInt8) : strOf l ++ strOf m = strOf (l ++ m) := by
 apply ByteArray.ext
 show (strOf l ++ strOf m).data = _
 rw [ByteArray.data_append]
 simp [strOf]
theorem strOf_size (l : List UInt8) : (strOf l).size = l.length := by simp [strOf, ByteArray.size]

/-- Names with commas between. -/
def namesL : List GT → List UInt8
 | [] => []
 | [t] => t.n.data.toList
 | t :: u :: l => t.n.data.toList ++ [44] ++ namesL (u :: l)
def atomL (a : GA) : List UInt8 := a.n.data.toList ++ [40] ++ namesL a.args ++ [41]
theorem namesL_snoc : ∀ (l : List GT) (t : GT), namesL (l ++ [t]) = (if l = [] then [] else namesL l ++ [44]) ++ t.n.data.toList
 | [], t => rfl
 | [u], t => by simp [namesL]
 | u :: v :: l, t => by
   have ih := namesL_snoc (v :: l) t
   simp only [List.cons_append] at ih ⊢
   simp only [namesL, ih]
   simp

theorem namesL_take {l : List GT} {k : Nat} {t : GT} (h : l[k]? = some t) : namesL (l.take (k + 1)) = (if k = 0 then [] else namesL (l.take k) ++ [44]) ++ t.n.data.toList := by
 obtain ⟨hk, rfl⟩ := List.getElem?_eq_some_iff.1 h
 rw [List.take_succ_eq_append_getElem hk, namesL_snoc]
 congr 1
 by_cases h0 : k = 0
 · subst h0; rfl
 · rw [if_neg h0, if_neg]
   rw [List.take_eq_nil_iff]
   rintro (e | e)
   · exact h0 e
   · subst e; simp at hk

theorem namesL_len : ∀ (l : List GT), (namesL l).length ≤ wTerms l
 | [] => Nat.zero_le _
 | [t] => by simp [namesL, wTerms, wTerm]
 | t :: u :: l => by
   have ih := namesL_len (u :: l)
   simp only [namesL, wTerms, wTerm, List.length_append, List.length_cons, List.map_cons, List.sum_cons, List.length_nil] at ih ⊢
   have : t.n.data.toList.length = t.n.size := by simp
   omega
theorem wTerms_take (l : List GT) (k : Nat) : wTerms (l.take k) ≤ wTerms l := by
 unfold wTerms
 have h : (l.map wTerm).sum = ((l.take k ++ l.drop k).map wTerm).sum := by rw [List.take_append_drop]
 rw [h, List.map_append, List.sum_append, List.length_take]; omega
theorem atomL_len (a : GA) : (atomL a).length ≤ wAtom a + 2 := by
 have := namesL_len a.args
 have h : a.n.data.toList.length = a.n.size := by simp
 unfold atomL wAtom
 simp only [List.length_append, List.length_cons, List.length_nil]; omega
end Go.Proofs.YtfjdijakgjhieaaGreat

namespace Go.Proofs.YtfjdijakgjhieaaGreat
open Go.RowKit

/-- Only blocks of S have turned. -/
structure Inside (S : Nat → Prop) (w w' : World) : Prop where
 os : w'.os = w.os
 tape : w'.tape = w.tape
 output : w'.output = w.output
 size : w.heap.size ≤ w'.heap.size
 block : ∀ b, b < w.heap.size → ¬ S b → w'.heap[b]? = w.heap[b]?

section
variable {S T : Nat → Prop} {a b c : World}
theorem Inside.refl (S : Nat → Prop) (w : World) : Inside S w w := ⟨rfl, rfl, rfl, Nat.le_refl _, fun _ _ _ => rfl⟩
theorem Inside.of_ext (h : Ext a b) : Inside S a b := ⟨h.os, h.tape, h.output, h.size, fun k hk _ => h.block k hk⟩
theorem Inside.trans' (h : Inside S a b) (k : Inside S b c) : Inside S a c :=
 ⟨k.os.trans h.os, k.tape.trans h.tape, k.output.trans h.output, Nat.le_trans h.size k.size, fun i hi hn => (k.block i (Nat.lt_of_lt_of_le hi h.size) hn).trans (h.block i hi hn)⟩
theorem Inside.sub (h : Inside S a b) (hS : ∀ i, S i → i < a.heap.size → T i) : Inside T a b := ⟨h.os, h.tape, h.output, h.size, fun k hk hn => h.block k hk (fun hs => hn (hS k hs hk))⟩
theorem Inside.set (w : World) (p : Addr) (u : Value) (h : S p.block) : Inside S w (w.setCell p u) :=
 ⟨rfl, rfl, rfl, by simp [World.setCell], fun k _ hn => Below.heap_setCell w p u k (fun e => hn (e ▸ h))⟩
theorem Inside.toExt (h : Inside S b c) (hx : Ext a b) (hS : ∀ i, S i → a.heap.size ≤ i) : Ext a c :=
 ⟨h.os.trans hx.os, h.tape.trans hx.tape, h.output.trans hx.output, Nat.le_trans hx.size h.size, fun k hk => (h.block k (Nat.lt_of_lt_of_le hk hx.size) (fun hs => absurd (hS k hs) (Nat.not_le.2 hk))).trans (hx.block k hk)⟩
theorem Inside.agree (h : Inside S a b) : Agree (fun i => ¬ S i) a b := fun i hi hlt => h.block i hlt hi
theorem Inside.blk {g : Nat} {t : TypeId} {cs : Array Value} (h : Inside S a b) (hb : Blk a g t cs) (hg : ¬ S g) : Blk b g t cs := (h.block g hb.lt hg).trans hb
end

end Go.Proofs.YtfjdijakgjhieaaGreat
