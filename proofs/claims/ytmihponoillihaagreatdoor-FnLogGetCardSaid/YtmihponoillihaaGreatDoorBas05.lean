/- Part of the texts of a proof: own texts joined in the order of their building; what they say stands at each theorem. -/
import Derived.Test.YtmihponoillihaaGreatDoorBas04
import Derived.Test.YtmihponoillihaaGreatDoorBas02
import Derived.Maps.OwnSet
import Derived.Maps.OwnOps
import Derived.Maps.Views
import Derived.StringKeys
import Derived.Test.YtmihponoillihaaGreatDoorBas03
set_option linter.unusedSimpArgs false
set_option linter.unusedVariables false
namespace Go.Proofs.YtmihponoillihaaGreatDoor
open Go.RowKit

/-- A comparison that is a total order. -/
structure Total {α : Type} (c : α → α → Int) : Prop where
 eq : ∀ a b, c a b = 0 ↔ a = b
 neg : ∀ a b, c b a = - c a b
 trans : ∀ a b d, c a b < 0 → c b d < 0 → c a d < 0

def lexC {α : Type} (c : α → α → Int) : List α → List α → Int
 | [], [] => 0
 | [], _ :: _ => -1
 | _ :: _, [] => 1
 | a :: x, b :: y => if c a b = 0 then lexC c x y else c a b

theorem lex_eq {α : Type} {c : α → α → Int} (h : Total c) : ∀ x y : List α, lexC c x y = 0 ↔ x = y
 | [], [] => by simp [lexC]
 | [], _ :: _ => by simp [lexC]
 | _ :: _, [] => by simp [lexC]
 | a :: x, b :: y => by
   have ih := lex_eq h x y
   unfold lexC
   by_cases hc : c a b = 0
   · rw [if_pos hc, ih]; have := (h.eq a b).1 hc; subst this; simp
   · rw [if_neg hc]
     have : a ≠ b := fun e => hc ((h.eq a b).2 e)
     simp [hc, this]
theorem lex_neg {α : Type} {c : α → α → Int} (h : Total c) : ∀ x y : List α, lexC c y x = - lexC c x y
 | [], [] => by simp [lexC]
 | [], _ :: _ => by simp [lexC]
 | _ :: _, [] => by simp [lexC]
 | a :: x, b :: y => by
   have ih := lex_neg h x y
   unfold lexC
   by_cases hc : c a b = 0
   · rw [if_pos hc, if_pos (by rw [h.neg a b]; omega), ih]
   · rw [if_neg hc, if_neg (by rw [h.neg a b]; omega), h.neg a b]
theorem lex_trans {α : Type} {c : α → α → Int} (h : Total c) : ∀ x y z : List α, lexC c x y < 0 → lexC c y z < 0 → lexC c x z < 0
 | [], [], z => by simp [lexC]
 | [], _ :: _, [] => by simp [lexC]
 | [], _ :: _, _ :: _ => by simp [lexC]
 | _ :: _, [], z => by simp [lexC]
 | _ :: _, _ :: _, [] => by simp [lexC]
 | a :: x, b :: y, d :: z => by
   have ih := lex_trans h x y z
   unfold lexC
   intro h1 h2
   by_cases e1 : c a b = 0
   · rw [if_pos e1] at h1
     have e1' := (h.eq a b).1 e1
     subst e1'
     by_cases e2 : c a d = 0
     · rw [if_pos e2] at h2 ⊢; exact ih h1 h2
     · rw [if_neg e2] at h2 ⊢; exact h2
   · rw [if_neg e1] at h1
     by_cases e2 : c b d = 0
     · have e2' := (h.eq b d).1 e2
       subst e2'
       rw [if_neg e1]; exact h1
     · rw [if_neg e2] at h2
       have h3 := h.trans a b d h1 h2
       rw [if_neg (by omega)]; exact h3
theorem lex_total {α : Type} {c : α → α → Int} (h : Total c) : Total (lexC c) := ⟨lex_eq h, fun a b => lex_neg h a b, lex_trans h⟩

def cByte (a b : UInt8) : Int := if a.toNat < b.toNat then -1 else if b.toNat < a.toNat then 1 else 0
theorem cByte_total : Total cByte where
 eq a b := by
  unfold cByte
  rw [← UInt8.toNat_inj]
  split
  · constructor <;> intro h <;> omega
  · split
    · constructor <;> intro h <;> omega
    · constructor <;> intro h <;> omega
 neg a b := by
  unfold cByte
  split <;> split <;> omega
 trans a b d := by
  unfold cByte
  intro h1 h2
  split at h1
  · split at h2
    · rw [if_pos (by omega)]; omega
    · split at h2 <;> omega
  · split at h1 <;> omega
theorem cByte_lt (a b : UInt8) : cByte a b = if a < b then -1 else if b < a then 1 else 0 := by
 unfold cByte
 by_cases h1 : a < b
 · rw [if_pos h1, if_pos (UInt8.lt_iff_toNat_lt.1 h1)]
 · rw [if_neg h1, if_neg (fun h => h1 (UInt8.lt_iff_toNat_lt.2 h))]
   by_cases h2 : b < a
   · rw [if_pos h2, if_pos (UInt8.lt_iff_toNat_lt.1 h2)]
   · rw [if_neg h2, if_neg (fun h => h2 (UInt8.lt_iff_toNat_lt.2 h))]
theorem compareBytes_lex : ∀ x y : List UInt8, Lib.compareBytes x y = lexC cByte x y
 | [], [] => rfl
 | [], _ :: _ => rfl
 | _ :: _, [] => rfl
 | a :: x, b :: y => by
   have ih := compareBytes_lex x y
   simp only [Lib.compareBytes, lexC, cByte_lt]
   by_cases h1 : a < b
   · simp [h1]
   · by_cases h2 : b < a
     · simp [h1, h2]
     · simp [h1, h2, ih]
theorem bytes_total : Total (Lib.compareBytes) := by
 have := lex_total cByte_total
 rw [show Lib.compareBytes = lexC cByte from funext fun x => funext fun y => compareBytes_lex x y]
 exact this

/-- What the order looks at. -/
def argKeys (l : List GT) : List (List UInt8) := l.map fun t => t.n.data.toList
def keyA (a : GA) : List (List UInt8) := a.n.data.toList :: argKeys a.args
theorem cmpArgs_lex : ∀ x y : List GT, cmpArgs x y = lexC Lib.compareBytes (argKeys x) (argKeys y)
 | [], [] => rfl
 | [], _ :: _ => rfl
 | _ :: _, [] => rfl
 | s :: x, t :: y => by
   have ih := cmpArgs_lex x y
   unfold cmpArgs
   simp only [argKeys, List.map_cons, lexC] at ih ⊢
   rw [ih]; rfl
theorem cmpA_lex (a b : GA) : cmpA a b = lexC Lib.compareBytes (keyA a) (keyA b) := by
 unfold cmpA keyA lexC
 rw [cmpArgs_lex]; rfl

theorem cmpA_eq (a b : GA) : cmpA a b = 0 ↔ keyA a = keyA b := by rw [cmpA_lex]; exact (lex_total bytes_total).eq _ _
theorem cmpA_neg (a b : GA) : cmpA b a = - cmpA a b := by rw [cmpA_lex, cmpA_lex]; exact (lex_total bytes_total).neg _ _
theorem cmpA_trans {a b d : GA} (h1 : cmpA a b < 0) (h2 : cmpA b d < 0) : cmpA a d < 0 := by
 rw [cmpA_lex] at *; exact (lex_total bytes_total).trans _ _ _ h1 h2

def Asc (l : List GA) : Prop := l.Pairwise fun a b => cmpA a b < 0

theorem asc_of : ∀ (l : List GA), ascB l = true → Asc l
 | [], _ => List.Pairwise.nil
 | [a], _ => List.pairwise_singleton _ _
 | a :: b :: l, h => by
   simp only [ascB, Bool.and_eq_true] at h
   have ih := asc_of (b :: l) h.2
   have hab : cmpA a b < 0 := of_decide_eq_true h.1
   refine List.Pairwise.cons ?_ ih
   intro z hz
   rcases List.mem_cons.1 hz with rfl | hz
   · exact hab
   · exact cmpA_trans hab ((List.pairwise_cons.1 ih).1 z hz)

theorem hasA_cons_lt {y : GA} {m : List GA} {x : GA} (h : cmpA y x < 0) : hasA (y :: m) x = hasA m x := by
 have hp : placeA (y :: m) x = placeA m x + 1 := by
  unfold placeA; rw [List.takeWhile_cons, if_pos (show ltA y x = true from decide_eq_true h)]; rfl
 unfold hasA; rw [hp]; unfold isAt; rw [List.getElem?_cons_succ]
theorem hasA_cons_ge {y : GA} {m : List GA} {x : GA} (h : ¬ cmpA y x < 0) : hasA (y :: m) x = decide (cmpA y x = 0) := by
 have hp : placeA (y :: m) x = 0 := by
  unfold placeA; rw [List.takeWhile_cons, if_neg (by unfold ltA; simp; omega)]; rfl
 unfold hasA; rw [hp]; rfl

theorem hasA_iff : ∀ (m : List GA) (x : GA), Asc m → (hasA m x = true ↔ ∃ y ∈ m, cmpA y x = 0)
 | [], x, _ => by simp [hasA, isAt]
 | y :: m, x, h => by
   have h1 := List.pairwise_cons.1 h
   have ih := hasA_iff m x h1.2
   by_cases hlt : cmpA y x < 0
   · rw [hasA_cons_lt hlt, ih]
     constructor
     · rintro ⟨z, hz, e⟩; exact ⟨z, List.mem_cons_of_mem _ hz, e⟩
     · rintro ⟨z, hz, e⟩
       rcases List.mem_cons.1 hz with rfl | hz
       · omega
       · exact ⟨z, hz, e⟩
   · rw [hasA_cons_ge hlt]
     constructor
     · intro e; exact ⟨y, by simp, of_decide_eq_true e⟩
     · rintro ⟨z, hz, e⟩
       rcases List.mem_cons.1 hz with rfl | hz
       · exact decide_eq_true e
       · have hyz := h1.1 z hz
         have hxz : cmpA y x < 0 := by
          have e1 := (cmpA_eq z x).1 e
          have : cmpA y x = cmpA y z := by rw [cmpA_lex, cmpA_lex, e1]
          omega
         exact absurd hxz hlt

theorem mergeP_left_all : ∀ (xs : List P2), mergeP xs [] = xs.map fun x => ⟨x.1, x.2, 0⟩
 | [] => rfl
 | x :: xs => by rw [mergeP_left, mergeP_left_all xs]; rfl
theorem mergeP_right_all : ∀ (ys : List P2), mergeP [] ys = ys.map fun y => ⟨y.1, y.2, 1⟩
 | [] => rfl
 | y :: ys => by rw [mergeP_right, mergeP_right_all ys]; rfl

theorem noBoth_iff : ∀ (n : Nat) (xs ys : List P2), xs.length + ys.length ≤ n → Asc (xs.map (·.1)) → Asc (ys.map (·.1)) →
 (noBoth (mergeP xs ys) = true ↔ ∀ x ∈ xs, ∀ y ∈ ys, ¬ cmpA x.1 y.1 = 0)
 | _, [], ys, _, _, _ => by
   rw [mergeP_right_all]; simp [noBoth]
 | _, x :: xs, [], _, _, _ => by
   rw [mergeP_left_all]; simp [noBoth]
 | 0, _ :: _, _ :: _, h, _, _ => by simp at h
 | n + 1, x :: xs, y :: ys, h, hx, hy => by
   have h1 := List.pairwise_cons.1 (show Asc (x.1 :: xs.map (·.1)) from hx)
   have h2 := List.pairwise_cons.1 (show Asc (y.1 :: ys.map (·.1)) from hy)
   have ltx : ∀ z ∈ xs, cmpA x.1 z.1 < 0 := fun z hz => h1.1 z.1 (List.mem_map_of_mem hz)
   have lty : ∀ z ∈ ys, cmpA y.1 z.1 < 0 := fun z hz => h2.1 z.1 (List.mem_map_of_mem hz)
   rcases Int.lt_trichotomy (cmpA x.1 y.1) 0 with hc | hc | hc
   · have ih := noBoth_iff n xs (y :: ys) (by simp at h ⊢; omega) h1.2 hy
     rw [mergeP_lt _ _ hc]
     have : noBoth (⟨x.1, x.2, 0⟩ :: mergeP xs (y :: ys)) = noBoth (mergeP xs (y :: ys)) := by simp [noBoth]
     rw [this, ih]
     constructor
     · intro hh z hz w hw
       rcases List.mem_cons.1 hz with rfl | hz
       · rcases List.mem_cons.1 hw with rfl | hw
         · omega
         · have := cmpA_trans hc (lty w hw); omega
       · exact hh z hz w hw
     · intro hh z hz w hw; exact hh z (List.mem_cons_of_mem _ hz) w hw
   · rw [mergeP_eq _ _ hc]
     have : noBoth (⟨x.1, x.2, 2⟩ :: mergeP xs ys) = false := by simp [noBoth]
     rw [this]
     constructor
     · intro hh; cases hh
     · intro hh; exact absurd hc (hh x (by simp) y (by simp))
   · have ih := noBoth_iff n (x :: xs) ys (by simp at h ⊢; omega) hx h2.2
     rw [mergeP_gt _ _ hc]
     have : noBoth (⟨y.1, y.2, 1⟩ :: mergeP (x :: xs) ys) = noBoth (mergeP (x :: xs) ys) := by simp [noBoth]
     rw [this, ih]
     have hc' : cmpA y.1 x.1 < 0 := by rw [cmpA_neg]; omega
     constructor
     · intro hh z hz w hw
       rcases List.mem_cons.1 hw with rfl | hw
       · rcases List.mem_cons.1 hz with rfl | hz
         · omega
         · have h3 := cmpA_trans hc' (ltx z hz)
           rw [cmpA_neg] at h3; omega
       · exact hh z hz w hw
     · intro hh z hz w hw; exact hh z hz w (List.mem_cons_of_mem _ hw)

theorem noBoth_common {ps qs : List P2} (hx : Asc (ps.map (·.1))) (hy : Asc (qs.map (·.1))) : (!noBoth (mergeP ps qs)) = commonB (ps.map (·.1)) (qs.map (·.1)) := by
 have h := noBoth_iff _ ps qs (Nat.le_refl _) hx hy
 have hc : commonB (ps.map (·.1)) (qs.map (·.1)) = true ↔ ∃ x ∈ ps, ∃ y ∈ qs, cmpA x.1 y.1 = 0 := by
  unfold commonB
  rw [List.any_eq_true]
  constructor
  · rintro ⟨a, ha, hh⟩
    obtain ⟨x, hx1, rfl⟩ := List.mem_map.1 ha
    obtain ⟨b, hb, e⟩ := (hasA_iff _ _ hy).1 hh
    obtain ⟨y, hy1, rfl⟩ := List.mem_map.1 hb
    exact ⟨x, hx1, y, hy1, by rw [cmpA_neg] at e; omega⟩
  · rintro ⟨x, hx1, y, hy1, e⟩
    exact ⟨x.1, List.mem_map_of_mem hx1, (hasA_iff _ _ hy).2 ⟨y.1, List.mem_map_of_mem hy1, by rw [cmpA_neg]; omega⟩⟩
 cases hn : noBoth (mergeP ps qs)
 · symm
   show commonB _ _ = true
   rw [hc]
   rw [hn] at h
   apply Classical.byContradiction
   intro hne
   have : false = true := h.2 (fun x hx1 y hy1 e => hne ⟨x, hx1, y, hy1, e⟩)
   cases this
 · symm
   show commonB _ _ = false
   rw [Bool.eq_false_iff]
   intro ht
   obtain ⟨x, hx1, y, hy1, e⟩ := hc.1 ht
   exact h.1 hn x hx1 y hy1 e

theorem factsB_asc {l : List GA} {n : Nat} (h : factsB l n = true) : Asc l := by
 unfold factsB at h
 simp only [Bool.and_eq_true] at h
 exact asc_of l h.1.2

end Go.Proofs.YtmihponoillihaaGreatDoor

namespace Go.Proofs.YtmihponoillihaaGreatDoor
open Go.RowKit

/-! ### Lists -/
theorem nodup_len {α : Type} [DecidableEq α] : ∀ (a b : List α), a.Nodup → (∀ x ∈ a, x ∈ b) → a.length ≤ b.length
 | [], _, _, _ => Nat.zero_le _
 | x :: a, b, h, hs => by
   have hx := hs x (by simp)
   obtain ⟨h1, h2⟩ := List.nodup_cons.1 h
   have ih := nodup_len a (b.erase x) h2 (fun y hy => (List.mem_erase_of_ne (fun (e : y = x) => h1 (by rw [← e]; exact hy))).2 (hs y (List.mem_cons_of_mem _ hy)))
   have hl := List.length_erase_of_mem hx
   have hp : 0 < b.length := List.length_pos_of_mem hx
   simp only [List.length_cons]
   omega

/-! ### Atoms of rules, and how many terms a name has -/
def ruleAtoms (r : GR) : List GA := r.head :: r.body.map (·.atom)
def atomsOf (l : List GR) : List GA := (l.map ruleAtoms).flatten
def ruleOkB (r : GR) : Bool := (r.body.all fun p => atomOkB p.atom) && (atomOkB r.head && decide (r.body.length ≤ 4))
def firstLen : List GA → ByteArray → Option Nat
 | [], _ => none
 | a :: l, x => if a.n = x then some a.args.length else firstLen l x
def argsB (l : List GA) : Bool := l.all fun a => decide (firstLen l a.n = some a.args.length)
theorem firstLen_some : ∀ {l : List GA} {x : ByteArray} {n : Nat}, firstLen l x = some n → ∃ a ∈ l, a.n = x ∧ a.args.length = n
 | b :: l, x, n, h => by
   simp only [firstLen] at h
   split at h
   · injection h with h
     exact ⟨b, by simp, by assumption, h⟩
   · obtain ⟨a, h1, h2⟩ := firstLen_some h
     exact ⟨a, List.mem_cons_of_mem _ h1, h2⟩
theorem firstLen_mem : ∀ {l : List GA} {a : GA}, a ∈ l → ∃ n, firstLen l a.n = some n
 | b :: l, a, h => by
   simp only [firstLen]
   by_cases e : b.n = a.n
   · exact ⟨_, if_pos e⟩
   · rw [if_neg e]
     rcases List.mem_cons.1 h with rfl | h
     · exact absurd rfl e
     · exact firstLen_mem h
/-- As the reference says it: pair by pair. -/
theorem argsB_pairs (l : List GA) : argsB l = true ↔ ∀ (i k : Nat) (a b : GA), l[i]? = some a → l[k]? = some b → k < i → a.n = b.n → a.args.length = b.args.length := by
 have hall : argsB l = true ↔ ∀ a ∈ l, ∀ b ∈ l, a.n = b.n → a.args.length = b.args.length := by
  unfold argsB
  rw [List.all_eq_true]
  constructor
  · intro h a ha b hb e
    have h1 := of_decide_eq_true (h a ha)
    have h2 := of_decide_eq_true (h b hb)
    rw [e, h2] at h1
    injection h1 with h1
    exact h1.symm
  · intro h a ha
    obtain ⟨n, hn⟩ := firstLen_mem ha
    obtain ⟨b, hb, e1, e2⟩ := firstLen_some hn
    exact decide_eq_true (by rw [hn, ← e2, h b hb a ha e1])
 rw [hall]
 constructor
 · intro h i k a b ha hb _ e
   exact h a (List.mem_of_getElem? ha) b (List.mem_of_getElem? hb) e
 · intro h a ha b hb e
   obtain ⟨i, hi, rfl⟩ := List.mem_iff_getElem.1 ha
   obtain ⟨k, hk, rfl⟩ := List.mem_iff_getElem.1 hb
   rcases Nat.lt_trichotomy k i with hlt | rfl | hlt
   · exact h i k _ _ (List.getElem?_eq_getElem hi) (List.getElem?_eq_getElem hk) hlt e
   · rfl
   · exact (h k i _ _ (List.getElem?_eq_getElem hk) (List.getElem?_eq_getElem hi) hlt e.symm).symm

/-! ### Loose variables -/
def varsOf (a : GA) : List ByteArray := (a.args.filter (·.v)).map (·.n)
def memS (x : ByteArray) (l : List ByteArray) : Bool := l.any fun y => decide (y = x)
theorem memS_iff {x : ByteArray} {l : List ByteArray} : memS x l = true ↔ x ∈ l := by
 unfold memS
 rw [List.any_eq_true]
 constructor
 · rintro ⟨y, hy, h⟩
   exact of_decide_eq_true h ▸ hy
 · intro h
   exact ⟨x, h, decide_eq_true rfl⟩
def boundIn (body : List GP) (x : ByteArray) : Bool := body.any fun p => !p.no && memS x (varsOf p.atom)
def tightB (r : GR) : Bool := (ruleAtoms r).all fun a => (varsOf a).all (boundIn r.body)

def ltS (a b : ByteArray) : Bool := decide (Lib.compareBytes a.data.toList b.data.toList < 0)
theorem ltS_irr (a : ByteArray) : ltS a a = false := by
 unfold ltS
 rw [(bytes_total.eq _ _).2 rfl]; rfl
theorem ltS_trans {a b c : ByteArray} (h : ltS a b = true) (k : ltS b c = true) : ltS a c = true := decide_eq_true (bytes_total.trans _ _ _ (of_decide_eq_true h) (of_decide_eq_true k))
theorem ltS_other {a b : ByteArray} (h : ltS a b = false) (hn : a ≠ b) : ltS b a = true := by
 have h1 : ¬ Lib.compareBytes a.data.toList b.data.toList < 0 := of_decide_eq_false h
 have h2 : Lib.compareBytes a.data.toList b.data.toList ≠ 0 := fun e => by
  have e2 := (bytes_total.eq _ _).1 e
  have e3 : a.data = b.data := by
   rw [← Array.toList_inj]; exact e2
  exact hn (by cases a; cases b; simp at e3; rw [e3])
 have h3 := bytes_total.neg b.data.toList a.data.toList
 exact decide_eq_true (by omega)
def putS : List ByteArray → ByteArray → List ByteArray
 | [], s => [s]
 | x :: l, s => if ltS x s = true then x :: putS l s else if x = s then x :: l else s :: x :: l
def whileS : List ByteArray → ByteArray → Nat
 | [], _ => 0
 | x :: l, s => if ltS x s = true then whileS l s + 1 else 0
theorem whileS_le : ∀ (l : List ByteArray) (s : ByteArray), whileS l s ≤ l.length
 | [], _ => Nat.le_refl _
 | x :: l, s => by
   have := whileS_le l s
   unfold whileS; split <;> simp <;> omega
theorem whileS_at : ∀ {l : List ByteArray} {s : ByteArray} {i : Nat} {x : ByteArray}, i < whileS l s → l[i]? = some x → ltS x s = true
 | y :: l, s, i, x, h, hx => by
   unfold whileS at h
   split at h
   · cases i with
     | zero => simp at hx; subst hx; assumption
     | succ i => exact whileS_at (l := l) (s := s) (i := i) (by omega) (by simpa using hx)
   · omega
theorem whileS_end : ∀ {l : List ByteArray} {s : ByteArray} {x : ByteArray}, l[whileS l s]? = some x → ltS x s = false
 | y :: l, s, x, hx => by
   unfold whileS at hx
   split at hx
   · exact whileS_end (by simpa using hx)
   · rename_i h
     simp at hx; subst hx
     exact Bool.not_eq_true _ ▸ h
theorem whileS_is {l : List ByteArray} {s : ByteArray} {k : Nat} (hk : k ≤ l.length) (h1 : ∀ i x, i < k → l[i]? = some x → ltS x s = true) (h2 : ∀ x, l[k]? = some x → ltS x s = false) : whileS l s = k := by
 rcases Nat.lt_trichotomy (whileS l s) k with h | h | h
 · have hl : whileS l s < l.length := by omega
   have e1 := h1 _ _ h (List.getElem?_eq_getElem hl)
   rw [whileS_end (List.getElem?_eq_getElem hl)] at e1
   cases e1
 · exact h
 · have hl : k < l.length := by have := whileS_le l s; omega
   have e1 := h2 _ (List.getElem?_eq_getElem hl)
   rw [whileS_at h (List.getElem?_eq_getElem hl)] at e1
   cases e1
theorem putS_eq : ∀ (l : List ByteArray) (s : ByteArray), putS l s = if l[whileS l s]? = some s then l else l.take (whileS l s) ++ [s] ++ l.drop (whileS l s)
 | [], s => rfl
 | x :: l, s => by
   have ih := putS_eq l s
   unfold putS whileS
   by_cases h : ltS x s = true
   · rw [if_pos h, if_pos h, ih]
     simp only [List.getElem?_cons_succ, List.take_succ_cons, List.drop_succ_cons]
     split <;> simp
   · rw [if_neg h, if_neg h]
     simp only [List.getElem?_cons_zero, Option.some.injEq, List.take_zero, List.drop_zero, List.nil_append]
     rfl
theorem putS_mem : ∀ {l : List ByteArray} {s x : ByteArray}, x ∈ putS l s ↔ x ∈ l ∨ x = s
 | [], s, x => by simp [putS]
 | y :: l, s, x => by
   have ih := putS_mem (l := l) (s := s) (x := x)
   unfold putS
   split
   · simp only [List.mem_cons, ih, or_assoc]
   · split
     · rename_i h; subst h; simp only [List.mem_cons]
       constructor
       · exact fun h => .inl h
       · rintro (h | h)
         · exact h
         · exact .inl h
     · simp only [List.mem_cons]
       constructor
       · rintro (h | h | h)
         · exact .inr h
         · exact .inl (.inl h)
         · exact .inl (.inr h)
       · rintro ((h | h) | h)
         · exact .inr (.inl h)
         · exact .inr (.inr h)
         · exact .inl h
def AscS (l : List ByteArray) : Prop := l.Pairwise fun a b => ltS a b = true
theorem AscS.put : ∀ {l : List ByteArray} {s : ByteArray}, AscS l → AscS (putS l s)
 | [], s, _ => by unfold putS; exact List.pairwise_singleton _ _
 | y :: l, s, h => by
   obtain ⟨h1, h2⟩ := List.pairwise_cons.1 h
   unfold putS
   split
   · rename_i hlt
     refine List.pairwise_cons.2 ⟨fun z hz => ?_, AscS.put h2⟩
     rcases putS_mem.1 hz with hz | rfl
     · exact h1 z hz
     · exact hlt
   · rename_i hlt
     split
     · exact h
     · rename_i hne
       have hsy := ltS_other (Bool.not_eq_true _ ▸ hlt) hne
       refine List.pairwise_cons.2 ⟨fun z hz => ?_, h⟩
       rcases List.mem_cons.1 hz with rfl | hz
       · exact hsy
       · exact ltS_trans hsy (h1 z hz)
theorem AscS.nodup {l : List ByteArray} (h : AscS l) : l.Nodup := by
 refine List.Pairwise.imp (fun {a b} hab => ?_) h
 intro e
 rw [e, ltS_irr] at hab
 cases hab
def varsPut (out : List ByteArray) (a : GA) : List ByteArray := (varsOf a).foldl putS out
theorem foldS_mem : ∀ {vs out : List ByteArray} {x : ByteArray}, x ∈ vs.foldl putS out ↔ x ∈ out ∨ x ∈ vs
 | [], out, x => by simp
 | v :: vs, out, x => by rw [List.foldl_cons, foldS_mem, putS_mem, List.mem_cons, or_assoc]
theorem foldS_asc : ∀ {vs out : List ByteArray}, AscS out → AscS (vs.foldl putS out)
 | [], _, h => h
 | v :: vs, out, h => by rw [List.foldl_cons]; exact foldS_asc h.put
def allVars (r : GR) : List ByteArray := r.body.foldl (fun o p => varsPut o p.atom) (varsPut [] r.head)
def boundVars (r : GR) : List ByteArray := r.body.foldl (fun o p => if p.no then o else varsPut o p.atom) []
theorem all_fold : ∀ (ps : List GP) (o : List ByteArray), AscS o → AscS (ps.foldl (fun o p => varsPut o p.atom) o) ∧ ∀ x, x ∈ ps.foldl (fun o p => varsPut o p.atom) o ↔ x ∈ o ∨ ∃ p ∈ ps, x ∈ varsOf p.atom
 | [], o, h => ⟨h, fun x => by simp⟩
 | p :: ps, o, h => by
   obtain ⟨h1, h2⟩ := all_fold ps (varsPut o p.atom) (foldS_asc h)
   refine ⟨h1, fun x => ?_⟩
   rw [List.foldl_cons, h2, varsPut, foldS_mem, or_assoc]
   simp [or_and_right, exists_or]
theorem bound_fold : ∀ (ps : List GP) (o : List ByteArray), AscS o → AscS (ps.foldl (fun o p => if p.no then o else varsPut o p.atom) o) ∧ ∀ x, x ∈ ps.foldl (fun o p => if p.no then o else varsPut o p.atom) o ↔ x ∈ o ∨ boundIn ps x = true
 | [], o, h => ⟨h, fun x => by simp [boundIn]⟩
 | p :: ps, o, h => by
   have e : ∀ x, boundIn (p :: ps) x = ((!p.no && memS x (varsOf p.atom)) || boundIn ps x) := fun x => rfl
   by_cases hn : p.no = true
   · obtain ⟨h1, h2⟩ := bound_fold ps o h
     rw [List.foldl_cons, if_pos hn]
     exact ⟨h1, fun x => by rw [h2, e, hn]; simp⟩
   · obtain ⟨h1, h2⟩ := bound_fold ps (varsPut o p.atom) (foldS_asc h)
     rw [List.foldl_cons, if_neg hn]
     refine ⟨h1, fun x => ?_⟩
     have hn' : p.no = false := Bool.not_eq_true _ ▸ hn
     rw [h2, e, hn', varsPut, foldS_mem, or_assoc, Bool.or_eq_true, Bool.not_false, Bool.true_and, memS_iff]
theorem tight_len (r : GR) : tightB r = ((allVars r).length == (boundVars r).length) := by
 obtain ⟨a1, a2⟩ := all_fold r.body (varsPut [] r.head) (foldS_asc List.Pairwise.nil)
 obtain ⟨b1, b2⟩ := bound_fold r.body [] List.Pairwise.nil
 have ha : ∀ x, x ∈ allVars r ↔ ∃ a ∈ ruleAtoms r, x ∈ varsOf a := fun x => by
  unfold allVars
  rw [a2, varsPut, foldS_mem]
  constructor
  · rintro ((h | h) | ⟨p, hp, h⟩)
    · cases h
    · exact ⟨r.head, by unfold ruleAtoms; simp, h⟩
    · exact ⟨p.atom, List.mem_cons_of_mem _ (List.mem_map_of_mem hp), h⟩
  · rintro ⟨a, ha, h⟩
    rcases List.mem_cons.1 ha with rfl | ha
    · exact .inl (.inr h)
    · obtain ⟨p, hp, rfl⟩ := List.mem_map.1 ha
      exact .inr ⟨p, hp, h⟩
 have hb : ∀ x, x ∈ boundVars r ↔ boundIn r.body x = true := fun x => by unfold boundVars; rw [b2]; simp
 have hsub : ∀ x ∈ boundVars r, x ∈ allVars r := fun x hx => by
  have h := (hb x).1 hx
  unfold boundIn at h
  rw [List.any_eq_true] at h
  obtain ⟨p, hp, h⟩ := h
  simp only [Bool.and_eq_true, memS_iff] at h
  exact (ha x).2 ⟨p.atom, List.mem_cons_of_mem _ (List.mem_map_of_mem hp), h.2⟩
 have hN : (allVars r).Nodup := AscS.nodup a1
 have hM : (boundVars r).Nodup := AscS.nodup b1
 have hle := nodup_len _ _ hM hsub
 rw [Bool.eq_iff_iff, beq_iff_eq]
 unfold tightB
 rw [List.all_eq_true]
 constructor
 · intro h
   have := nodup_len _ _ hN (fun x hx => (hb x).2 (by
    obtain ⟨a, h1, h2⟩ := (ha x).1 hx
    exact List.all_eq_true.1 (h a h1) x h2))
   omega
 · intro h a haa
   rw [List.all_eq_true]
   intro x hx
   have hxa := (ha x).2 ⟨a, haa, hx⟩
   by_cases hxb : x ∈ boundVars r
   · exact (hb x).1 hxb
   · have := nodup_len (x :: boundVars r) (allVars r) (List.nodup_cons.2 ⟨hxb, hM⟩) (fun y hy => by
       rcases List.mem_cons.1 hy with rfl | hy
       · exact hxa
       · exact hsub y hy)
     simp only [List.length_cons] at this
     omega

/-! ### Strata -/
def one (b : Bool) : Nat := if b then 1 else 0
def dep (l : List GR) (f : ByteArray → Nat) : Prop := ∀ r ∈ l, ∀ p ∈ r.body, (∃ r' ∈ l, r'.head.n = p.atom.n) → f p.atom.n + one p.no ≤ f r.head.n
def Strat (l : List GR) : Prop := ∃ f, dep l f
def rankIn (hs : List ByteArray) (f : ByteArray → Nat) (x : ByteArray) : Nat := ((List.range (f x)).filter fun v => decide (v ∈ hs.map f)).length
theorem rank_mono {hs : List ByteArray} {f : ByteArray → Nat} {x y : ByteArray} (h : f x ≤ f y) : rankIn hs f x ≤ rankIn hs f y :=
 ((List.range_sublist.2 h).filter _).length_le
theorem rank_lt {hs : List ByteArray} {f : ByteArray → Nat} {x y : ByteArray} (hx : x ∈ hs) (h : f x < f y) : rankIn hs f x + 1 ≤ rankIn hs f y := by
 have h1 := ((List.range_sublist.2 (show f x + 1 ≤ f y from h)).filter (fun v => decide (v ∈ hs.map f))).length_le
 rw [List.range_succ, List.filter_append, List.length_append] at h1
 have h2 : ([f x].filter fun v => decide (v ∈ hs.map f)).length = 1 := by
  rw [List.filter_cons_of_pos (by simpa using ⟨x, hx, rfl⟩)]; rfl
 unfold rankIn
 omega
theorem rank_bound {hs : List ByteArray} {f : ByteArray → Nat} {x : ByteArray} (hx : x ∈ hs) : rankIn hs f x < hs.length := by
 have h := nodup_len (f x :: (List.range (f x)).filter fun v => decide (v ∈ hs.map f)) (hs.map f) (List.nodup_cons.2 ⟨fun hm => by
  have := (List.mem_filter.1 hm).1
  rw [List.mem_range] at this; omega, List.nodup_range.filter _⟩) (fun y hy => by
  rcases List.mem_cons.1 hy with rfl | hy
  · exact List.mem_map_of_mem hx
  · exact of_decide_eq_true (List.mem_filter.1 hy).2)
 simp only [List.length_cons, List.length_map] at h
 unfold rankIn
 omega
/-- Strata that are as few as there are names. -/
theorem strat_few {l : List GR} {hs : List ByteArray} (hh : ∀ r ∈ l, r.head.n ∈ hs) (h : Strat l) : ∃ f, dep l f ∧ ∀ x ∈ hs, f x < hs.length := by
 obtain ⟨f, hf⟩ := h
 refine ⟨rankIn hs f, fun r hr p hp he => ?_, fun x hx => rank_bound hx⟩
 have h1 := hf r hr p hp he
 obtain ⟨r', hr', e⟩ := he
 have hm : p.atom.n ∈ hs := e ▸ hh r' hr'
 unfold one at h1 ⊢
 cases hn : p.no with
 | true =>
   rw [hn] at h1
   have h2 : f p.atom.n + 1 ≤ f r.head.n := h1
   exact rank_lt hm h2
 | false =>
   rw [hn] at h1
   exact rank_mono (by simpa using h1)

/-! #### as the reference works them out -/
def at0 (o : List Nat) (i : Nat) : Nat := o.getD i 0
def stepH (a b : GR) (i k : Nat) (o : List Nat) : List Nat := if b.head.n = a.head.n ∧ at0 o i < at0 o k then o.set i (at0 o k) else o
def stepJ (n : Nat) (b : GR) (i k : Nat) (o : List Nat) (p : GP) : List Nat := if p.atom.n = b.head.n ∧ at0 o i < at0 o k + one p.no ∧ at0 o i ≤ n then o.set i (at0 o k + one p.no) else o
def stepK (l : List GR) (a : GR) (i : Nat) (o : List Nat) (k : Nat) : List Nat := match l[k]? with
 | none => o
 | some b => a.body.foldl (stepJ l.length b i k) (stepH a b i k o)
def stepI (l : List GR) (o : List Nat) (i : Nat) : List Nat := match l[i]? with
 | none => o
 | some a => (List.range l.length).foldl (stepK l a i) o
def passL (l : List GR) (o : List Nat) : List Nat := (List.range l.length).foldl (stepI l) o
def levelsN (l : List GR) : Nat → List Nat
 | 0 => List.replicate l.length 0
 | n + 1 => passL l (levelsN l n)
def levelsL (l : List GR) : List Nat := levelsN l ((l.length + 1) * (l.length + 2))

/-- Nothing falls. -/
def Up (o o' : List Nat) : Prop := o'.length = o.length ∧ ∀ i, at0 o i ≤ at0 o' i
theorem Up.refl (o : List Nat) : Up o o := ⟨rfl, fun _ => Nat.le_refl _⟩
theorem Up.trans {a b c : List Nat} (h : Up a b) (k : Up b c) : Up a c := ⟨k.1.trans h.1, fun i => Nat.le_trans (h.2 i) (k.2 i)⟩
theorem at0_some {o : List Nat} {i : Nat} (h : i < o.length) : o[i]? = some (at0 o i) := by
 unfold at0; rw [List.getD_eq_getElem?_getD, List.getElem?_eq_getElem h]; rfl
theorem Up.antisymm {a b : List Nat} (h : Up a b) (k : Up b a) : a = b := by
 apply List.ext_getElem?
 intro i
 by_cases hi : i < a.length
 · rw [at0_some hi, at0_some (by have := h.1; omega)]
   have h1 := h.2 i
   have h2 := k.2 i
   rw [show at0 a i = at0 b i from by omega]
 · rw [List.getElem?_eq_none (by omega), List.getElem?_eq_none (by have := h.1; omega)]
theorem at0_set {o : List Nat} {i j v : Nat} (h : i < o.length) : at0 (o.set i v) j = if i = j then v else at0 o j := by
 unfold at0
 rw [List.getD_eq_getElem?_getD, List.getD_eq_getElem?_getD, List.getElem?_set]
 by_cases e : i = j
 · subst e; simp [h]
 · simp [e]
theorem Up.set {o : List Nat} {i v : Nat} (h : at0 o i ≤ v) : Up o (o.set i v) := by
 refine ⟨List.length_set, fun j => ?_⟩
 by_cases hi : i < o.length
 · rw [at0_set hi]
   split
   · rename_i e; subst e; exact h
   · exact Nat.le_refl _
 · rw [List.set_eq_of_length_le (by omega)]; exact Nat.le_refl _
theorem stepH_up (a b : GR) (i k : Nat) (o : List Nat) : Up o (stepH a b i k o) := by
 unfold stepH; split
 · rename_i h; exact Up.set (by omega)
 · exact Up.refl _
theorem stepJ_up (n : Nat) (b : GR) (i k : Nat) (o : List Nat) (p : GP) : Up o (stepJ n b i k o p) := by
 unfold stepJ; split
 · rename_i h; exact Up.set (by omega)
 · exact Up.refl _
theorem fold_up {β : Type} {f : List Nat → β → List Nat} (hf : ∀ o x, Up o (f o x)) : ∀ (xs : List β) (o : List Nat), Up o (xs.foldl f o)
 | [], o => Up.refl _
 | x :: xs, o => by rw [List.foldl_cons]; exact (hf o x).trans (fold_up hf xs _)
theorem fold_stuck {β : Type} {f : List Nat → β → List Nat} (hf : ∀ o x, Up o (f o x)) : ∀ (xs : List β) (o : List Nat), xs.foldl f o = o → ∀ x ∈ xs, f o x = o
 | x :: xs, o, h, y, hy => by
   rw [List.foldl_cons] at h
   have h1 := hf o x
   have h2 := fold_up hf xs (f o x)
   rw [h] at h2
   have e : f o x = o := h2.antisymm h1
   rcases List.mem_cons.1 hy with rfl | hy
   · exact e
   · rw [e] at h
     exact fold_stuck hf xs o h y hy
theorem stepK_up (l : List GR) (a : GR) (i : Nat) (o : List Nat) (k : Nat) : Up o (stepK l a i o k) := by
 unfold stepK; split
 · exact Up.refl _
 · exact (stepH_up _ _ _ _ _).trans (fold_up (stepJ_up _ _ _ _) _ _)
theorem stepI_up (l : List GR) (o : List Nat) (i : Nat) : Up o (stepI l o i) := by
 unfold stepI; split
 · exact Up.refl _
 · exact fold_up (stepK_up _ _ _) _ _
theorem passL_up (l : List GR) (o : List Nat) : Up o (passL l o) := fold_up (stepI_up l) _ _
theorem levelsN_up (l : List GR) : ∀ {m n : Nat}, m ≤ n → Up (levelsN l m) (levelsN l n)
 | m, 0, h => by rw [show m = 0 from by omega]; exact Up.refl _
 | m, n + 1, h => by
   rcases Nat.lt_or_ge m (n + 1) with h1 | h1
   · exact (levelsN_up l (show m ≤ n from by omega)).trans (passL_up l _)
   · rw [show m = n + 1 from by omega]; exact Up.refl _
theorem levelsN_len (l : List GR) (n : Nat) : (levelsN l n).length = l.length := by
 have := (levelsN_up l (Nat.zero_le n)).1
 rw [this]; exact List.length_replicate

/-- No more than strata allow. -/
def Under (l : List GR) (f : ByteArray → Nat) (o : List Nat) : Prop := o.length = l.length ∧ ∀ i a, l[i]? = some a → at0 o i ≤ f a.head.n
theorem Under.set {l : List GR} {f : ByteArray → Nat} {o : List Nat} {i v : Nat} {a : GR} (h : Under l f o) (ha : l[i]? = some a) (hv : v ≤ f a.head.n) : Under l f (o.set i v) := by
 refine ⟨List.length_set.trans h.1, fun j b hb => ?_⟩
 have hi := (List.getElem?_eq_some_iff.1 ha).1
 rw [at0_set (by rw [h.1]; exact hi)]
 split
 · rename_i e; subst e
   rw [ha] at hb; injection hb with hb; subst hb; exact hv
 · exact h.2 j b hb
theorem fold_inv {β : Type} {f : List Nat → β → List Nat} {I : List Nat → Prop} : ∀ (xs : List β) (o : List Nat), (∀ o x, x ∈ xs → I o → I (f o x)) → I o → I (xs.foldl f o)
 | [], o, _, h => h
 | x :: xs, o, hf, h => by rw [List.foldl_cons]; exact fold_inv xs _ (fun o y hy => hf o y (List.mem_cons_of_mem _ hy)) (hf o x (by simp) h)
theorem Under.pass {l : List GR} {f : ByteArray → Nat} (hd : dep l f) {o : List Nat} (h : Under l f o) : Under l f (passL l o) := by
 refine fold_inv _ _ (fun o i _ h => ?_) h
 unfold stepI
 split
 · exact h
 · rename_i a ha
   refine fold_inv _ _ (fun o k _ h => ?_) h
   unfold stepK
   split
   · exact h
   · rename_i b hb
     refine fold_inv _ _ (fun o p hp h => ?_) ?_
     · unfold stepJ
       split
       · rename_i hc
         refine h.set ha ?_
         have h1 := hd a (List.mem_of_getElem? ha) p hp ⟨b, List.mem_of_getElem? hb, hc.1.symm⟩
         have h2 := h.2 k b hb
         rw [hc.1] at h1
         omega
       · exact h
     · unfold stepH
       split
       · rename_i hc
         refine h.set ha ?_
         have h2 := h.2 k b hb
         rw [hc.1] at h2
         exact h2
       · exact h
theorem under_levels {l : List GR} {f : ByteArray → Nat} (hd : dep l f) : ∀ n, Under l f (levelsN l n)
 | 0 => ⟨List.length_replicate, fun i a _ => by
     show at0 (List.replicate l.length 0) i ≤ _
     unfold at0
     rw [List.getD_eq_getElem?_getD, List.getElem?_replicate]
     split <;> simp⟩
 | n + 1 => (under_levels hd n).pass hd
/-- What does not move any more, and is not too high, makes strata. -/
theorem stuck_strat {l : List GR} {o : List Nat} (hl : o.length = l.length) (hs : passL l o = o) (hlow : ∀ i, i < l.length → at0 o i < l.length) : Strat l := by
 have hi := fold_stuck (stepI_up l) _ o hs
 have key : ∀ (i : Nat) (a : GR) (k : Nat) (b : GR), l[i]? = some a → l[k]? = some b → stepH a b i k o = o ∧ ∀ p ∈ a.body, stepJ l.length b i k o p = o := by
  intro i a k b ha hb
  have hil := (List.getElem?_eq_some_iff.1 ha).1
  have hkl := (List.getElem?_eq_some_iff.1 hb).1
  have h1 := hi i (by simpa using hil)
  unfold stepI at h1
  rw [ha] at h1
  have h2 := fold_stuck (stepK_up l a i) _ o h1 k (by simpa using hkl)
  unfold stepK at h2
  rw [hb] at h2
  have h3 : Up o (stepH a b i k o) := stepH_up _ _ _ _ _
  have h4 := fold_up (stepJ_up l.length b i k) a.body (stepH a b i k o)
  have h2' : a.body.foldl (stepJ l.length b i k) (stepH a b i k o) = o := h2
  rw [h2'] at h4
  have e := h4.antisymm h3
  rw [e] at h2'
  exact ⟨e, fold_stuck (stepJ_up l.length b i k) _ o h2'⟩
 have hH : ∀ (i : Nat) (a : GR) (k : Nat) (b : GR), l[i]? = some a → l[k]? = some b → b.head.n = a.head.n → at0 o k ≤ at0 o i := by
  intro i a k b ha hb e
  have hil := (List.getElem?_eq_some_iff.1 ha).1
  have h1 := (key i a k b ha hb).1
  unfold stepH at h1
  split at h1
  · have h2 := congrArg (fun x => at0 x i) h1
    simp only [at0_set (show i < o.length from by omega), if_pos] at h2
    omega
  · rename_i h; 
    have : ¬ at0 o i < at0 o k := fun hc => h ⟨e, hc⟩
    omega
 have hf : ∀ (i : Nat) (a : GR), l[i]? = some a → ∃ k b, l.findIdx? (fun r => decide (r.head.n = a.head.n)) = some k ∧ l[k]? = some b ∧ b.head.n = a.head.n := by
  intro i a ha
  cases hfi : l.findIdx? (fun r => decide (r.head.n = a.head.n)) with
  | none =>
    rw [List.findIdx?_eq_none_iff] at hfi
    have := hfi a (List.mem_of_getElem? ha)
    simp at this
  | some k =>
    rw [List.findIdx?_eq_some_iff_getElem] at hfi
    obtain ⟨hk, h1, _⟩ := hfi
    exact ⟨k, l[k], rfl, List.getElem?_eq_getElem hk, of_decide_eq_true h1⟩
 let f : ByteArray → Nat := fun x => match l.findIdx? (fun r => decide (r.head.n = x)) with | some k => at0 o k | none => 0
 have hfa : ∀ (i : Nat) (a : GR), l[i]? = some a → f a.head.n = at0 o i := by
  intro i a ha
  obtain ⟨k, b, h1, h2, h3⟩ := hf i a ha
  show (match l.findIdx? (fun r => decide (r.head.n = a.head.n)) with | some k => at0 o k | none => 0) = _
  rw [h1]
  have h4 := hH i a k b ha h2 h3
  have h5 := hH k b i a h2 ha h3.symm
  show at0 o k = at0 o i
  omega
 refine ⟨f, fun r hr p hp ⟨r', hr', e⟩ => ?_⟩
 obtain ⟨i, hil, rfl⟩ := List.mem_iff_getElem.1 hr
 obtain ⟨k, hkl, rfl⟩ := List.mem_iff_getElem.1 hr'
 have ha := List.getElem?_eq_getElem hil
 have hb := List.getElem?_eq_getElem hkl
 rw [← e, hfa k _ hb, hfa i _ ha]
 have h1 := (key i _ k _ ha hb).2 p hp
 unfold stepJ at h1
 split at h1
 · have h2 := congrArg (fun x => at0 x i) h1
   simp only [at0_set (show i < o.length from by omega), if_pos] at h2
   omega
 · rename_i h
   have h2 := hlow i hil
   have : ¬ at0 o i < at0 o k + one p.no := fun hc => h ⟨e.symm, hc, by omega⟩
   omega
theorem up_sum {o o' : List Nat} (h : Up o o') : o.sum ≤ o'.sum ∧ (o.sum = o'.sum → o' = o) := by
 induction o generalizing o' with
 | nil =>
   have : o' = [] := List.eq_nil_of_length_eq_zero h.1
   subst this; exact ⟨Nat.le_refl _, fun _ => rfl⟩
 | cons x o ih =>
   cases o' with
   | nil => exact absurd h.1 (by simp)
   | cons y o' =>
     have h0 : x ≤ y := h.2 0
     have hr : Up o o' := ⟨by have := h.1; simpa using this, fun i => by have := h.2 (i + 1); simpa [at0] using this⟩
     obtain ⟨h1, h2⟩ := ih hr
     simp only [List.sum_cons]
     refine ⟨by omega, fun e => ?_⟩
     rw [h2 (by omega), show y = x from by omega]
theorem sum_low {n : Nat} : ∀ {o : List Nat}, (∀ x ∈ o, x < n) → o.sum ≤ o.length * n
 | [], _ => by simp
 | x :: o, h => by
   have h1 := sum_low (o := o) (fun y hy => h y (List.mem_cons_of_mem _ hy))
   have h2 := h x (by simp)
   simp only [List.sum_cons, List.length_cons, Nat.add_mul]
   omega
theorem levels_cycle (l : List GR) : ((levelsL l).any fun x => decide (l.length ≤ x)) = true ↔ ¬ Strat l := by
 constructor
 · intro h hs
   obtain ⟨f, hd, hb⟩ := strat_few (hs := l.map (·.head.n)) (fun r hr => List.mem_map_of_mem hr) hs
   rw [List.any_eq_true] at h
   obtain ⟨x, hx, hge⟩ := h
   obtain ⟨i, hi, rfl⟩ := List.mem_iff_getElem.1 hx
   have hil : i < l.length := by have := levelsN_len l ((l.length + 1) * (l.length + 2)); unfold levelsL at hi; omega
   have h1 := (under_levels hd ((l.length + 1) * (l.length + 2))).2 i _ (List.getElem?_eq_getElem hil)
   have h2 := hb l[i].head.n (List.mem_map_of_mem (List.getElem_mem hil))
   rw [List.length_map] at h2
   have h3 := at0_some hi
   rw [List.getElem?_eq_getElem hi] at h3
   injection h3 with h3
   have h4 := of_decide_eq_true hge
   unfold levelsL at h3 h4
   omega
 · intro hs
   by_cases h : ((levelsL l).any fun x => decide (l.length ≤ x)) = true
   · exact h
   · exfalso
     apply hs
     have hlow : ∀ x ∈ levelsL l, x < l.length := fun x hx => by
      rcases Nat.lt_or_ge x l.length with h1 | h1
      · exact h1
      · exact absurd (List.any_eq_true.2 ⟨x, hx, decide_eq_true h1⟩) h
     have hlowN : ∀ n, n ≤ (l.length + 1) * (l.length + 2) → ∀ i, i < l.length → at0 (levelsN l n) i < l.length := fun n hn i hi => by
      have h1 := (levelsN_up l hn).2 i
      have h2 : at0 (levelsL l) i < l.length := hlow _ (List.mem_of_getElem? (at0_some (by unfold levelsL; rw [levelsN_len]; exact hi)))
      unfold levelsL at h2
      omega
     -- some pass leaves all as it is
     have hex : ∃ n, n < (l.length + 1) * (l.length + 2) ∧ passL l (levelsN l n) = levelsN l n := by
      apply Classical.byContradiction
      intro hno
      have hgrow : ∀ n, n ≤ (l.length + 1) * (l.length + 2) → n ≤ (levelsN l n).sum := by
       intro n
       induction n with
       | zero => intro _; exact Nat.zero_le _
       | succ n ih =>
         intro hn
         have h1 := ih (by omega)
         obtain ⟨h2, h3⟩ := up_sum (passL_up l (levelsN l n))
         have h4 : (levelsN l n).sum ≠ (passL l (levelsN l n)).sum := fun e => hno ⟨n, by omega, h3 e⟩
         show n + 1 ≤ (passL l (levelsN l n)).sum
         omega
      have h1 := hgrow _ (Nat.le_refl _)
      have h2 : (levelsL l).sum ≤ (levelsL l).length * l.length := sum_low hlow
      unfold levelsL at h2
      rw [levelsN_len] at h2
      have h3 : (l.length + 1) * (l.length + 2) = l.length * l.length + 3 * l.length + 2 := by
       rw [Nat.add_mul, Nat.mul_add]; omega
      omega
     obtain ⟨n, hn, he⟩ := hex
     exact stuck_strat (levelsN_len l n) he (hlowN n (by omega))

open Classical in
noncomputable def cycleB (l : List GR) : Bool := decide (¬ Strat l)
theorem levels_cycleB (l : List GR) : ((levelsL l).any fun x => decide (l.length ≤ x)) = cycleB l := by
 rw [Bool.eq_iff_iff, levels_cycle]
 unfold cycleB
 simp
/-- What is wrong with rules first. -/
noncomputable def progCheckN (l : List GR) : Nat :=
 if l.all ruleOkB = false then 1 else if 8 < l.length then 2 else if argsB (atomsOf l) = false then 3 else if l.all tightB = false then 4 else if cycleB l = true then 5 else 0

end Go.Proofs.YtmihponoillihaaGreatDoor

namespace Go.Proofs.YtmihponoillihaaGreatDoor
open Go.RowKit

/-! ### The places of names -/
def idxB : List ByteArray → ByteArray → Option Nat
 | [], _ => none
 | y :: l, x => if y = x then some 0 else (idxB l x).map (· + 1)
theorem idxB_some : ∀ {l : List ByteArray} {x : ByteArray} {i : Nat}, idxB l x = some i → l[i]? = some x
 | y :: l, x, i, h => by
   unfold idxB at h
   split at h
   · rename_i e; injection h with h; subst h; rw [e]; rfl
   · cases hi : idxB l x with
     | none => rw [hi] at h; cases h
     | some j =>
       rw [hi] at h; injection h with h; subst h
       rw [List.getElem?_cons_succ]; exact idxB_some hi
theorem idxB_lt {l : List ByteArray} {x : ByteArray} {i : Nat} (h : idxB l x = some i) : i < l.length := (List.getElem?_eq_some_iff.1 (idxB_some h)).1
section
variable (w : World) {ops : Array Oper} {rest : List Oper} {o : Oper} {a : Act} {Q : Exit → Act → World → Prop}
end

end Go.Proofs.YtmihponoillihaaGreatDoor

namespace Go.Proofs.YtmihponoillihaaGreatDoor
open Go.RowKit

/-- What variables are bound to. -/
structure LB where
 ns : List ByteArray
 vs : List ByteArray
def LB.get (b : LB) (x : ByteArray) : Option ByteArray := match idxB b.ns x with
 | some i => b.vs[i]?
 | none => none
def LB.plus (b : LB) (n v : ByteArray) : LB := ⟨b.ns ++ [n], b.vs ++ [v]⟩
def emptyB : ByteArray := ⟨#[]⟩
/-- One term of an atom against one of a fact. -/
def matchT (t f : GT) (b : LB) : LB × Bool :=
 if t.v then match b.get t.n with
  | none => (b.plus t.n f.n, true)
  | some v => (b, decide (v = f.n))
 else (b, decide (t.n = f.n))
def matchL : List GT → List GT → LB → LB × Bool
 | t :: ts, f :: fs, b => if (matchT t f b).2 then matchL ts fs (matchT t f b).1 else ((matchT t f b).1, false)
 | _, _, b => (b, true)
def matchN (a fact : GA) (b : LB) : LB × Bool := if a.n = fact.n ∧ a.args.length = fact.args.length then matchL a.args fact.args b else (b, false)
def fillT (b : LB) (t : GT) : GT := ⟨false, if t.v then (b.get t.n).getD emptyB else t.n⟩
def fillN (a : GA) (b : LB) : GA := ⟨a.n, a.args.map (fillT b)⟩
/-- One binding against all facts. -/
def moreOf (a : GA) (list : List GA) (b : LB) : List LB := list.filterMap fun f => if (matchN a f b).2 then some (matchN a f b).1 else none
def allStep (list : List GA) (out : List LB) (p : GP) : List LB := if p.no then out else out.flatMap (moreOf p.atom list)
def heldB (list : List GA) (body : List GP) (b : LB) : Bool := body.all fun p => !p.no || !hasA list (fillN p.atom b)
def allN (list : List GA) (body : List GP) : List LB := (body.foldl (allStep list) [⟨[], []⟩]).filter (heldB list body)
def onceStep (levels : List Nat) (level : Nat) (list : List GA) (out : List GA) (x : GR × Nat) : List GA :=
 if at0 levels x.2 = level then (allN list x.1.body).foldl (fun o b => putA o (fillN x.1.head b)) out else out
def onceN (rules : List GR) (levels : List Nat) (level : Nat) (list : List GA) : List GA := rules.zipIdx.foldl (onceStep levels level list) []
/-- Facts, and the round of each. -/
structure RL where
 list : List GA
 round : List Nat
def RL.put (r : RL) (n : Nat) (a : GA) : RL := if hasA r.list a then r else ⟨putA r.list a, r.round.take (placeA r.list a) ++ [n] ++ r.round.drop (placeA r.list a)⟩
def RL.puts (r : RL) (n : Nat) (l : List GA) : RL := l.foldl (fun r a => r.put n a) r
/-- One level: round by round; how many rounds, and false if there are too many facts. -/
def levelN (rules : List GR) (levels : List Nat) (level : Nat) : Nat → RL → Nat → RL × Nat × Bool
 | 0, r, n => (r, n, true)
 | f + 1, r, n =>
   let r2 := r.puts (n + 1) (onceN rules levels level r.list)
   if 300 < r2.list.length then (r2, n + 1, false) else if r2.list.length = r.list.length then (r2, n, true) else levelN rules levels level f r2 (n + 1)
/-- Level by level. -/
def runL (rules : List GR) (levels : List Nat) : Nat → Nat → RL → Nat → RL × Bool
 | 0, _, r, _ => (r, true)
 | k + 1, level, r, n => match levelN rules levels level (302 - r.list.length) r n with
   | (r2, n2, ok) => if ok then runL rules levels k (level + 1) r2 n2 else (r2, false)
def runN (rules : List GR) (given : List GA) : RL × Bool := runL rules (levelsL rules) (rules.length + 1) 0 ⟨given, List.replicate given.length 0⟩ 0
def fitB (rules : List GR) (list : List GA) : Bool := list.all fun a => (atomsOf rules).all fun b => !(decide (b.n = a.n)) || decide (b.args.length = a.args.length)
noncomputable def evalOkB (rules : List GR) (given : List GA) : Bool := decide (progCheckN rules = 0) && factsB given 40 && fitB rules given
theorem RL.put_len (r : RL) (n : Nat) (a : GA) : r.list.length ≤ (r.put n a).list.length ∧ (r.put n a).list.length ≤ r.list.length + 1 := by
 unfold RL.put
 split
 · exact ⟨Nat.le_refl _, Nat.le_succ _⟩
 · rename_i h
   unfold putA
   rw [if_neg h]
   have := placeA_le r.list a
   simp only [List.length_append, List.length_take, List.length_drop, List.length_cons, List.length_nil]
   omega
theorem RL.puts_len (n : Nat) : ∀ (l : List GA) (r : RL), r.list.length ≤ (r.puts n l).list.length ∧ (r.puts n l).list.length ≤ r.list.length + l.length
 | [], r => ⟨Nat.le_refl _, Nat.le_refl _⟩
 | a :: l, r => by
   have h1 := r.put_len n a
   have h2 := RL.puts_len n l (r.put n a)
   simp only [RL.puts, List.foldl_cons, List.length_cons] at *
   omega
theorem RL.put_round {r : RL} {n : Nat} {a : GA} (h : r.round.length = r.list.length) : (r.put n a).round.length = (r.put n a).list.length := by
 unfold RL.put
 split
 · exact h
 · rename_i hh
   unfold putA
   rw [if_neg hh]
   simp only [List.length_append, List.length_take, List.length_drop, List.length_cons, List.length_nil, h]
theorem RL.puts_round (n : Nat) : ∀ (l : List GA) (r : RL), r.round.length = r.list.length → (r.puts n l).round.length = (r.puts n l).list.length
 | [], r, h => h
 | a :: l, r, h => RL.puts_round n l _ (RL.put_round h)
/-- Fuel enough is fuel enough. -/
theorem levelN_fuel (rules : List GR) (levels : List Nat) (level : Nat) : ∀ (f g : Nat) (r : RL) (n : Nat), r.list.length ≤ 301 → 302 - r.list.length ≤ f → f ≤ g → levelN rules levels level f r n = levelN rules levels level g r n
 | 0, g, r, n, h1, h2, h3 => by omega
 | f + 1, 0, r, n, h1, h2, h3 => by omega
 | f + 1, g + 1, r, n, h1, h2, h3 => by
   simp only [levelN]
   split
   · rfl
   · split
     · rfl
     · rename_i h4 h5
       have h6 := RL.puts_len (n + 1) (onceN rules levels level r.list) r
       exact levelN_fuel rules levels level f g _ _ (by omega) (by omega) (by omega)
/-- One round of a level, with fuel enough. -/
theorem levelN_step (rules : List GR) (levels : List Nat) (level : Nat) (r : RL) (n : Nat) (h : r.list.length ≤ 300) :
 levelN rules levels level (302 - r.list.length) r n =
  (let r2 := r.puts (n + 1) (onceN rules levels level r.list)
   if 300 < r2.list.length then (r2, n + 1, false) else if r2.list.length = r.list.length then (r2, n, true) else levelN rules levels level (302 - r2.list.length) r2 (n + 1)) := by
 obtain ⟨f, hf⟩ : ∃ f, 302 - r.list.length = f + 1 := ⟨301 - r.list.length, by omega⟩
 rw [hf]
 simp only [levelN]
 split
 · rfl
 · split
   · rfl
   · rename_i h4 h5
     have h6 := RL.puts_len (n + 1) (onceN rules levels level r.list) r
     exact (levelN_fuel rules levels level (302 - (r.puts (n + 1) (onceN rules levels level r.list)).list.length) f (r.puts (n + 1) (onceN rules levels level r.list)) (n + 1) (by omega) (Nat.le_refl _) (by omega)).symm

theorem foldl_snoc {α β : Type} (f : β → α → β) (o : β) (l : List α) (k : Nat) (x : α) (h : l[k]? = some x) : (l.take (k + 1)).foldl f o = f ((l.take k).foldl f o) x := by
 obtain ⟨hk, rfl⟩ := List.getElem?_eq_some_iff.1 h
 rw [List.take_succ_eq_append_getElem hk, List.foldl_append]; rfl

theorem moreOf_len (a : GA) (list : List GA) (b : LB) : (moreOf a list b).length ≤ list.length := List.length_filterMap_le _ _
theorem flat_len {α β : Type} (f : α → List β) (n : Nat) : ∀ (l : List α), (∀ x ∈ l, (f x).length ≤ n) → (l.flatMap f).length ≤ l.length * n
 | [], _ => by simp
 | x :: l, h => by
   have h1 := h x (by simp)
   have h2 := flat_len f n l (fun x hx => h x (List.mem_cons_of_mem _ hx))
   rw [List.flatMap_cons, List.length_append, List.length_cons, Nat.add_mul, Nat.one_mul]
   omega
theorem allStep_len (list : List GA) (out : List LB) (p : GP) : (allStep list out p).length ≤ out.length * (list.length + 1) := by
 unfold allStep
 split
 · exact Nat.le_mul_of_pos_right _ (Nat.succ_pos _)
 · refine Nat.le_trans (flat_len _ list.length out fun b _ => moreOf_len _ _ _) (Nat.mul_le_mul_left _ (Nat.le_succ _))
theorem allFold_len (list : List GA) : ∀ (body : List GP) (out : List LB), (body.foldl (allStep list) out).length ≤ out.length * (list.length + 1) ^ body.length
 | [], out => by simp
 | p :: body, out => by
   have h1 := allStep_len list out p
   have h2 := allFold_len list body (allStep list out p)
   rw [List.foldl_cons, List.length_cons, Nat.pow_succ]
   refine Nat.le_trans h2 ?_
   rw [Nat.mul_comm ((list.length + 1) ^ body.length), ← Nat.mul_assoc]
   exact Nat.mul_le_mul_right _ h1

end Go.Proofs.YtmihponoillihaaGreatDoor

namespace Go.Proofs.YtmihponoillihaaGreatDoor
open Go.RowKit

def strOf (l : List UInt8) : ByteArray := ⟨l.toArray⟩
theorem strOf_list (s : ByteArray) : strOf s.data.toList = s := rfl
theorem list_strOf (l : List UInt8) : (strOf l).data.toList = l := rfl
theorem strOf_append (l m : List UInt8) : strOf l ++ strOf m = strOf (l ++ m) := by
 apply ByteArray.ext
 show (strOf l ++ strOf m).data = _
 rw [ByteArray.data_append]
 simp [strOf]
theorem strOf_size (l : List UInt8) : (strOf l).size = l.length := by simp [strOf, ByteArray.size]

/-- Names with commas between. -/
def namesL : List GT → List UInt8
 | [] => []
 | [t] => t.n.data.toList
 | t :: u :: l => t.n.data.toList ++ [44] ++ namesL (u :: l)
def atomL (a : GA) : List UInt8 := a.n.data.toList ++ [40] ++ namesL a.args ++ [41]
def signedL (c : UInt8) (l : List GA) : List UInt8 := (l.map fun a => [c] ++ atomL a ++ [32]).flatten
def changeL (c : GC) : List UInt8 := signedL 45 c.goes ++ signedL 43 c.comes

theorem namesL_snoc : ∀ (l : List GT) (t : GT), namesL (l ++ [t]) = (if l = [] then [] else namesL l ++ [44]) ++ t.n.data.toList
 | [], t => rfl
 | [u], t => by simp [namesL]
 | u :: v :: l, t => by
   have ih := namesL_snoc (v :: l) t
   simp only [List.cons_append] at ih ⊢
   simp only [namesL, ih]
   simp

theorem namesL_take {l : List GT} {k : Nat} {t : GT} (h : l[k]? = some t) : namesL (l.take (k + 1)) = (if k = 0 then [] else namesL (l.take k) ++ [44]) ++ t.n.data.toList := by
 obtain ⟨hk, rfl⟩ := List.getElem?_eq_some_iff.1 h
 rw [List.take_succ_eq_append_getElem hk, namesL_snoc]
 congr 1
 by_cases h0 : k = 0
 · subst h0; rfl
 · rw [if_neg h0, if_neg]
   rw [List.take_eq_nil_iff]
   rintro (e | e)
   · exact h0 e
   · subst e; simp at hk

theorem signedL_take {l : List GA} {k : Nat} {a : GA} (c : UInt8) (h : l[k]? = some a) : signedL c (l.take (k + 1)) = signedL c (l.take k) ++ ([c] ++ atomL a ++ [32]) := by
 obtain ⟨hk, rfl⟩ := List.getElem?_eq_some_iff.1 h
 unfold signedL
 rw [List.take_succ_eq_append_getElem hk, List.map_append, List.flatten_append]; simp

theorem namesL_len : ∀ (l : List GT), (namesL l).length ≤ wTerms l
 | [] => Nat.zero_le _
 | [t] => by simp [namesL, wTerms, wTerm]
 | t :: u :: l => by
   have ih := namesL_len (u :: l)
   simp only [namesL, wTerms, wTerm, List.length_append, List.length_cons, List.map_cons, List.sum_cons, List.length_nil] at ih ⊢
   have : t.n.data.toList.length = t.n.size := by simp
   omega
theorem wTerms_take (l : List GT) (k : Nat) : wTerms (l.take k) ≤ wTerms l := by
 unfold wTerms
 have h : (l.map wTerm).sum = ((l.take k ++ l.drop k).map wTerm).sum := by rw [List.take_append_drop]
 rw [h, List.map_append, List.sum_append, List.length_take]; omega
theorem atomL_len (a : GA) : (atomL a).length ≤ wAtom a + 2 := by
 have := namesL_len a.args
 have h : a.n.data.toList.length = a.n.size := by simp
 unfold atomL wAtom
 simp only [List.length_append, List.length_cons, List.length_nil]; omega
theorem signedL_len (c : UInt8) : ∀ (l : List GA), (signedL c l).length ≤ 5 * wAtoms l
 | [] => by simp [signedL]
 | a :: l => by
   have ih := signedL_len c l
   have h := atomL_len a
   unfold signedL wAtoms at ih ⊢
   simp only [List.map_cons, List.flatten_cons, List.length_append, List.length_cons, List.length_nil, List.sum_cons] at ih ⊢
   omega
theorem wAtoms_take (l : List GA) (k : Nat) : wAtoms (l.take k) ≤ wAtoms l := by
 unfold wAtoms
 have h : (l.map wAtom).sum = ((l.take k ++ l.drop k).map wAtom).sum := by rw [List.take_append_drop]
 rw [h, List.map_append, List.sum_append, List.length_take]; omega

end Go.Proofs.YtmihponoillihaaGreatDoor
