/- Texts of the proof: HeadP, To, SpecF, SpecG, EvP. -/
import Derived.Test.YtfjdijakgjhieaaGreatAskx06
import Derived.Maps.OwnSet
import Derived.Maps.OwnOps
import Derived.Maps.Views
import Derived.StringKeys
import Derived.Test.YtfjdijakgjhieaaGreatRows
import Derived.Test.YtfjdijakgjhieaaGreatAskx01
import Derived.Test.YtfjdijakgjhieaaGreatAskx02
import Derived.Deep.RegionHeld3
namespace Go.Proofs.YtfjdijakgjhieaaGreat
open Go.RowKit

/-! ### The places of names -/
def idxB : List ByteArray → ByteArray → Option Nat
  | [], _ => none
  | y :: l, x => if y = x then some 0 else (idxB l x).map (· + 1)
theorem idxB_some : ∀ {l : List ByteArray} {x : ByteArray} {i : Nat}, idxB l x = some i → l[i]? = some x
  | y :: l, x, i, h => by
    unfold idxB at h
    split at h
    · rename_i e; injection h with h; subst h; rw [e]; rfl
    · cases hi : idxB l x with
      | none => rw [hi] at h; cases h
      | some j =>
        rw [hi] at h; injection h with h; subst h
        rw [List.getElem?_cons_succ]; exact idxB_some hi
theorem idxB_lt {l : List ByteArray} {x : ByteArray} {i : Nat} (h : idxB l x = some i) : i < l.length := (List.getElem?_eq_some_iff.1 (idxB_some h)).1
theorem idxB_inj {l : List ByteArray} {x y : ByteArray} {i : Nat} (h : idxB l x = some i) (k : idxB l y = some i) : x = y := by
  have h1 := idxB_some h
  rw [idxB_some k] at h1
  injection h1 with h1; exact h1.symm
theorem idxB_mem : ∀ {l : List ByteArray} {x : ByteArray}, x ∈ l → ∃ i, idxB l x = some i
  | y :: l, x, h => by
    unfold idxB
    by_cases e : y = x
    · exact ⟨0, by rw [if_pos e]⟩
    · rcases List.mem_cons.1 h with h | h
      · exact absurd h.symm e
      · obtain ⟨i, hi⟩ := idxB_mem h
        exact ⟨i + 1, by rw [if_neg e, hi]; rfl⟩
theorem idxB_not {l : List ByteArray} {x : ByteArray} (h : idxB l x = none) : x ∉ l := fun hm => by
  obtain ⟨i, hi⟩ := idxB_mem hm
  rw [h] at hi; cases hi
theorem idxB_snoc : ∀ (l : List ByteArray) (y x : ByteArray), idxB (l ++ [y]) x = match idxB l x with | some i => some i | none => if y = x then some l.length else none
  | [], y, x => by simp [idxB]
  | z :: l, y, x => by
    simp only [List.cons_append, idxB, idxB_snoc l y x]
    by_cases e : z = x
    · simp [e]
    · simp only [if_neg e]
      cases idxB l x with
      | some i => rfl
      | none =>
        by_cases e2 : y = x
        · simp [e2]
        · simp [e2]

def headsL : List GR → List ByteArray → List ByteArray
  | [], hs => hs
  | r :: l, hs => headsL l (if (idxB hs r.head.n).isSome then hs else hs ++ [r.head.n])
def heads (l : List GR) : List ByteArray := headsL l []
theorem headsL_snoc : ∀ (l : List GR) (r : GR) (hs : List ByteArray), headsL (l ++ [r]) hs = if (idxB (headsL l hs) r.head.n).isSome then headsL l hs else headsL l hs ++ [r.head.n]
  | [], r, hs => rfl
  | x :: l, r, hs => by
    simp only [List.cons_append, headsL]
    exact headsL_snoc l r _
theorem heads_snoc (l : List GR) (r : GR) : heads (l ++ [r]) = if (idxB (heads l) r.head.n).isSome then heads l else heads l ++ [r.head.n] := headsL_snoc l r []
theorem headsL_len : ∀ (l : List GR) (hs : List ByteArray), (headsL l hs).length ≤ hs.length + l.length
  | [], hs => Nat.le_refl _
  | x :: l, hs => by
    have := headsL_len l (if (idxB hs x.head.n).isSome then hs else hs ++ [x.head.n])
    simp only [headsL]
    split at this
    · rename_i e; rw [if_pos e, List.length_cons]; omega
    · rename_i e; rw [if_neg e, List.length_cons]; rw [List.length_append, List.length_singleton] at this; omega
theorem heads_len (l : List GR) : (heads l).length ≤ l.length := by
  have := headsL_len l []
  simpa [heads] using this
theorem headsL_mem : ∀ {l : List GR} {hs : List ByteArray} {x : ByteArray}, x ∈ headsL l hs ↔ x ∈ hs ∨ ∃ r ∈ l, r.head.n = x
  | [], hs, x => by simp [headsL]
  | y :: l, hs, x => by
    simp only [headsL]
    rw [headsL_mem]
    by_cases e : (idxB hs y.head.n).isSome
    · rw [if_pos e]
      obtain ⟨i, hi⟩ := Option.isSome_iff_exists.1 e
      have hm : y.head.n ∈ hs := List.mem_of_getElem? (idxB_some hi)
      constructor
      · rintro (h | ⟨r, hr, h⟩)
        · exact .inl h
        · exact .inr ⟨r, List.mem_cons_of_mem _ hr, h⟩
      · rintro (h | ⟨r, hr, h⟩)
        · exact .inl h
        · rcases List.mem_cons.1 hr with rfl | hr
          · exact .inl (h ▸ hm)
          · exact .inr ⟨r, hr, h⟩
    · rw [if_neg e]
      constructor
      · rintro (h | ⟨r, hr, h⟩)
        · rcases List.mem_append.1 h with h | h
          · exact .inl h
          · exact .inr ⟨y, by simp, (List.mem_singleton.1 h).symm⟩
        · exact .inr ⟨r, List.mem_cons_of_mem _ hr, h⟩
      · rintro (h | ⟨r, hr, h⟩)
        · exact .inl (List.mem_append_left _ h)
        · rcases List.mem_cons.1 hr with rfl | hr
          · exact .inl (List.mem_append_right _ (by simp [h]))
          · exact .inr ⟨r, hr, h⟩
theorem heads_mem {l : List GR} {x : ByteArray} : x ∈ heads l ↔ ∃ r ∈ l, r.head.n = x := by
  unfold heads
  rw [headsL_mem]; simp

/-! ### Levels by places -/
/-- No stratum that is under way is too great. -/
def Low (l : List GR) (o : List Nat) : Prop := o.length = (heads l).length ∧ (∀ i, i < o.length → at0 o i < o.length) ∧ ∀ f : ByteArray → Nat, dep l f → (∀ x ∈ heads l, f x < (heads l).length) → ∀ x i, idxB (heads l) x = some i → at0 o i ≤ f x
theorem at0_zero (n i : Nat) : at0 (List.replicate n 0) i = 0 := by
  unfold at0
  rw [List.getD_eq_getElem?_getD, List.getElem?_replicate]
  split <;> rfl
theorem Low.start (l : List GR) : Low l (List.replicate (heads l).length 0) := by
  refine ⟨List.length_replicate, fun i hi => ?_, fun f _ _ x i _ => ?_⟩
  · rw [at0_zero]; omega
  · rw [at0_zero]; exact Nat.zero_le _
theorem Low.least {l : List GR} {o : List Nat} (h : Low l o) {f : ByteArray → Nat} (hd : dep l f) (hb : ∀ x ∈ heads l, f x < (heads l).length) {r : GR} {p : GP} (hr : r ∈ l) (hp : p ∈ r.body) {j : Nat} (hj : idxB (heads l) p.atom.n = some j) : at0 o j + one p.no ≤ f r.head.n := by
  have h1 := h.2.2 f hd hb _ _ hj
  have h2 := hd r hr p hp (heads_mem.1 (List.mem_of_getElem? (idxB_some hj)))
  omega
theorem Low.set {l : List GR} {o : List Nat} (h : Low l o) {r : GR} {p : GP} (hr : r ∈ l) (hp : p ∈ r.body) {j own : Nat} (hj : idxB (heads l) p.atom.n = some j) (ho : idxB (heads l) r.head.n = some own) (hlt : at0 o j + one p.no < (heads l).length) : Low l (o.set own (at0 o j + one p.no)) := by
  have hown : own < o.length := by rw [h.1]; exact idxB_lt ho
  refine ⟨List.length_set.trans h.1, fun i hi => ?_, fun f hd hb x i hx => ?_⟩
  · rw [List.length_set] at hi ⊢
    rw [at0_set hown]
    split
    · rw [h.1]; exact hlt
    · exact h.2.1 i hi
  · rw [at0_set hown]
    split
    · rename_i e
      subst e
      have := idxB_inj hx ho
      subst this
      exact h.least hd hb hr hp hj
    · exact h.2.2 f hd hb x i hx
open Classical in
/-- A level that would be as great as there are names: there are no strata. -/
theorem Low.cycle {l : List GR} {o : List Nat} (h : Low l o) {r : GR} {p : GP} (hr : r ∈ l) (hp : p ∈ r.body) {j : Nat} (hj : idxB (heads l) p.atom.n = some j) (hge : (heads l).length ≤ at0 o j + one p.no) : cycleB l = true := by
  unfold cycleB
  refine decide_eq_true fun hs => ?_
  obtain ⟨f, hd, hb⟩ := strat_few (hs := heads l) (fun r hr => heads_mem.2 ⟨r, hr, rfl⟩) hs
  have h1 := h.least hd hb hr hp hj
  have h2 := hb _ (heads_mem.2 ⟨r, hr, rfl⟩)
  omega
/-- What a part asks of the levels. -/
def metB (l : List GR) (o : List Nat) (r : GR) (p : GP) : Prop := ∀ j own, idxB (heads l) p.atom.n = some j → idxB (heads l) r.head.n = some own → at0 o j + one p.no ≤ at0 o own
open Classical in
theorem met_strat {l : List GR} {o : List Nat} (h : ∀ r ∈ l, ∀ p ∈ r.body, metB l o r p) : cycleB l = false := by
  unfold cycleB
  refine decide_eq_false fun hn => hn ⟨fun x => match idxB (heads l) x with | some i => at0 o i | none => 0, fun r hr p hp he => ?_⟩
  obtain ⟨own, ho⟩ := idxB_mem (heads_mem.2 ⟨r, hr, rfl⟩)
  obtain ⟨j, hj⟩ := idxB_mem (heads_mem.2 he)
  have := h r hr p hp j own hj ho
  simp only [hj, ho]
  exact this
theorem sum_set {o : List Nat} : ∀ {i v : Nat}, i < o.length → at0 o i < v → o.sum < (o.set i v).sum := by
  induction o with
  | nil => intro i v h _; exact absurd h (Nat.not_lt_zero _)
  | cons x o ih =>
    intro i v h hv
    cases i with
    | zero =>
      have hv' : x < v := hv
      simp only [List.set_cons_zero, List.sum_cons]; omega
    | succ i =>
      have := ih (i := i) (v := v) (by simpa using h) hv
      simp only [List.set_cons_succ, List.sum_cons]; omega
theorem Low.sum_le {l : List GR} {o : List Nat} (h : Low l o) : o.sum ≤ (heads l).length * (heads l).length := by
  have := sum_low (o := o) (n := o.length) (fun x hx => by
    obtain ⟨i, hi, rfl⟩ := List.getElem_of_mem hx
    have := h.2.1 i hi
    have e := at0_some hi
    rw [List.getElem?_eq_getElem hi] at e
    injection e with e
    rw [e]; exact this)
  rw [h.1] at this
  exact this

/-! ### One pass of the program over rules -/
/-- From o0 the pass came to o, at part j of rule i; b: has something moved? -/
def Pass (l : List GR) (o0 o : List Nat) (b : Bool) (i j : Nat) : Prop :=
  (b = true → o0.sum < o.sum) ∧ (b = false → o = o0 ∧ (∀ i' r, i' < i → l[i']? = some r → ∀ p ∈ r.body, metB l o0 r p) ∧ ∀ r, l[i]? = some r → ∀ j' p, j' < j → r.body[j']? = some p → metB l o0 r p)
theorem Pass.start (l : List GR) (o : List Nat) : Pass l o o false 0 0   := ⟨fun h => (by cases h), fun _ => ⟨rfl, fun _ _ h => absurd h (Nat.not_lt_zero _), fun _ _ _ _ h => absurd h (Nat.not_lt_zero _)⟩⟩
theorem Pass.part {l : List GR} {o0 o : List Nat} {b : Bool} {i j : Nat} {r : GR} {p : GP} (h : Pass l o0 o b i j) (hr : l[i]? = some r) (hp : r.body[j]? = some p) (hm : metB l o r p) : Pass l o0 o b i (j + 1) := by
  refine ⟨h.1, fun hb => ?_⟩
  obtain ⟨rfl, h2, h3⟩ := h.2 hb
  refine ⟨rfl, h2, fun r' hr' j' p' hj hp' => ?_⟩
  have e : r' = r := Option.some.inj (hr'.symm.trans hr)
  subst e
  rcases Nat.lt_or_ge j' j with hlt | hge
  · exact h3 _ hr _ _ hlt hp'
  · have e : j' = j := by omega
    subst e
    have e2 : p' = p := Option.some.inj (hp'.symm.trans hp)
    subst e2
    exact hm
theorem Pass.moved {l : List GR} {o0 o : List Nat} {b : Bool} {i j own v : Nat} (h : Pass l o0 o b i j) (hown : own < o.length) (hv : at0 o own < v) : Pass l o0 (o.set own v) true i (j + 1) := by
  refine ⟨fun _ => ?_, fun hb => by cases hb⟩
  have h1 := sum_set hown hv
  cases b with
  | true => have := h.1 rfl; omega
  | false => obtain ⟨rfl, _⟩ := h.2 rfl; exact h1
theorem Pass.rule {l : List GR} {o0 o : List Nat} {b : Bool} {i j : Nat} {r : GR} (h : Pass l o0 o b i j) (hr : l[i]? = some r) (hj : r.body.length ≤ j) : Pass l o0 o b (i + 1) 0 := by
  refine ⟨h.1, fun hb => ?_⟩
  obtain ⟨rfl, h2, h3⟩ := h.2 hb
  refine ⟨rfl, fun i' r' hi hr' p hp => ?_, fun _ _ _ _ h => absurd h (Nat.not_lt_zero _)⟩
  rcases Nat.lt_or_ge i' i with hlt | hge
  · exact h2 _ _ hlt hr' p hp
  · have e : i' = i := by omega
    subst e
    obtain ⟨j', hj', rfl⟩ := List.getElem_of_mem hp
    have e : r' = r := Option.some.inj (hr'.symm.trans hr)
    subst e
    exact h3 _ hr j' _ (by omega) (List.getElem?_eq_getElem hj')
theorem Pass.done {l : List GR} {o0 o : List Nat} {i j : Nat} (h : Pass l o0 o false i j) (hi : l.length ≤ i) : o = o0 ∧ ∀ r ∈ l, ∀ p ∈ r.body, metB l o r p := by
  obtain ⟨rfl, h2, _⟩ := h.2 rfl
  refine ⟨rfl, fun r hr p hp => ?_⟩
  obtain ⟨k, hk, rfl⟩ := List.getElem_of_mem hr
  exact h2 k _ (by omega) (List.getElem?_eq_getElem hk) p hp

/-! ### Maps of names to numbers -/
/-- A map of n names that reads as f. -/
def MapN (w : World) (B n : Nat) (f : ByteArray → Option Nat) : Prop :=
  ∃ D : DataW Unit, w.ownsMap Tryz.prog 9 (plainElem Tryz.prog 3) B n D ∧ Maps.size D = n ∧
    ∀ s : ByteArray, Maps.has D (.string s.data.toList) = (f s).isSome ∧ D.atKey (.string s.data.toList) (.lit (.int .i64 0)) = .lit (.int .i64 (((f s).getD 0 : Nat) : Int))
theorem keyLaw : Go.Maps.Keyed Tryz.prog 9 := Go.Maps.string_keyed Tryz.underlying9
theorem zeroInt (w : World) : (zeroValue 3).run Tryz.prog w = .ok (.int .i64 0) w := by kernel_rfl
theorem MapN.made (w : World) : MapN (w.alloc (.map #[] 0)) w.heap.size 0 (fun _ => none) :=
  ⟨.map [], World.ownsMap_made _ _ _ _, rfl, fun _ => ⟨rfl, rfl⟩⟩
theorem MapN.alloc {w : World} {B n : Nat} {f : ByteArray → Option Nat} (h : MapN w B n f) (o : Obj) : MapN (w.alloc o) B n f := by
  obtain ⟨D, h1, h2⟩ := h; exact ⟨D, h1.alloc o, h2⟩
theorem MapN.lt {w : World} {B n : Nat} {f : ByteArray → Option Nat} (h : MapN w B n f) : B < w.heap.size := by
  obtain ⟨D, h1, h2⟩ := h; exact h1.lt
theorem MapN.drew {w : World} {B n : Nat} {f : ByteArray → Option Nat} (h : MapN w B n f) : MapN w.drew B n f := h
theorem MapN.setCell {w : World} {B n : Nat} {f : ByteArray → Option Nat} (h : MapN w B n f) {a : Addr} (ha : B ≠ a.block) (u : Value) : MapN (w.setCell a u) B n f := by
  obtain ⟨D, h1, h2⟩ := h; exact ⟨D, h1.setCell ha u, h2⟩
theorem MapN.ext {w w' : World} {B n : Nat} {f : ByteArray → Option Nat} (h : MapN w B n f) (hx : w'.heap[B]? = w.heap[B]?) : MapN w' B n f := by
  obtain ⟨D, ⟨es, clock, hb, r⟩, h2⟩ := h; exact ⟨D, ⟨es, clock, by rw [hx]; exact hb, r⟩, h2⟩
theorem MapN.same {w : World} {B n : Nat} {f g : ByteArray → Option Nat} (h : MapN w B n f) (e : ∀ x, f x = g x) : MapN w B n g := by
  rwa [show g = f from funext fun x => (e x).symm]
theorem str_ne {s x : ByteArray} (h : x ≠ s) : Lit.string x.data.toList ≠ Lit.string s.data.toList := fun e => by
  injection e with e
  exact h (by cases x; cases s; simpa using Array.toList_inj.1 e)
theorem MapN.put {w w' : World} {B n m v : Nat} {f : ByteArray → Option Nat} {s : ByteArray} {D : DataW Unit} (h : w.ownsMap Tryz.prog 9 (plainElem Tryz.prog 3) B n D) (hz : Maps.size D = n) (hf : ∀ s : ByteArray, Maps.has D (.string s.data.toList) = (f s).isSome ∧ D.atKey (.string s.data.toList) (.lit (.int .i64 0)) = .lit (.int .i64 (((f s).getD 0 : Nat) : Int)))
    (h1 : w'.ownsMap Tryz.prog 9 (plainElem Tryz.prog 3) B m (D.put (.string s.data.toList) (.lit (.int .i64 ((v : Nat) : Int))))) : MapN w' B (if (f s).isSome then n else n + 1) (fun x => if x = s then some v else f x) := by
  have hsz : Maps.size (D.put (.string s.data.toList) (.lit (.int .i64 ((v : Nat) : Int)))) = if (f s).isSome then n else n + 1 := by
    rw [Maps.size_put (h.tidy keyLaw), (hf s).1, hz]
  have h2 : w'.ownsMap Tryz.prog 9 (plainElem Tryz.prog 3) B (if (f s).isSome then n else n + 1) (D.put (.string s.data.toList) (.lit (.int .i64 ((v : Nat) : Int)))) := by
    obtain ⟨es, clock, hb, F, hs, e⟩ := h1
    refine ⟨es, clock, hb, F, ?_, e⟩
    rw [← hsz, e]
    simp [Maps.size, length_sorted]
  refine ⟨_, h2, hsz, fun x => ?_⟩
  by_cases e : x = s
  · subst e
    dsimp only
    rw [Maps.has_put_same h.isMap (by exact trivial), Maps.atKey_put_same h.isMap (by exact trivial), if_pos rfl]
    exact ⟨rfl, rfl⟩
  · dsimp only
    rw [Maps.has_put_other (str_ne e), Maps.atKey_put_other (str_ne e), if_neg e]
    exact hf x

section
variable (w : World) {ops : Array Oper} {rest : List Oper} {o : Oper} {a : Act} {Q : Exit → Act → World → Prop}
/-- v, ok := m[s] -/
theorem wpList_mapN_ok (hg : o.guard = none) (m x : Operand) (hop : o.op = Op.lookup 187 m x true) (B n : Nat) (f : ByteArray → Option Nat) (hm : a.eval m = .map (some B)) (hown : MapN w B n f) (s : ByteArray) (hx : a.eval x = .string s) (hs : s.size ≤ maxLen)
    (hK : wpList Tryz.prog ops Q rest (a.put o.dst (.tuple #[.int .i64 (((f s).getD 0 : Nat) : Int), .bool (f s).isSome])) w) : wpList Tryz.prog ops Q (o :: rest) a w := by
  obtain ⟨D, h1, h2, h3⟩ := hown
  refine wpList_lookup_own_ok_int w hg m x _ hop 9 3 .i64 keyLaw Tryz.underlying187 Tryz.underlying3 (zeroInt _) B n D hm h1 _ _ hx (Go.WideMaps.keyOf_string_mk Tryz.underlying9 hs) ?_
  intro c hat hwc
  have h4 := (h3 s).2.symm.trans hat
  have h5 : c = (((f s).getD 0 : Nat) : Int) := by
    injection h4 with h4; injection h4 with _ h4; exact h4.symm
  rw [(h3 s).1, h5]
  exact hK
/-- v := m[s] -/
theorem wpList_mapN (hg : o.guard = none) (m x : Operand) (hop : o.op = Op.lookup 187 m x false) (B n : Nat) (f : ByteArray → Option Nat) (hm : a.eval m = .map (some B)) (hown : MapN w B n f) (s : ByteArray) (hx : a.eval x = .string s) (hs : s.size ≤ maxLen)
    (hK : wpList Tryz.prog ops Q rest (a.put o.dst (.int .i64 (((f s).getD 0 : Nat) : Int))) w) : wpList Tryz.prog ops Q (o :: rest) a w := by
  obtain ⟨D, h1, h2, h3⟩ := hown
  refine wpList_lookup_own_int w hg m x _ hop 9 3 .i64 keyLaw Tryz.underlying187 Tryz.underlying3 (zeroInt _) B n D hm h1 _ _ hx (Go.WideMaps.keyOf_string_mk Tryz.underlying9 hs) ?_
  intro c hat hwc
  have h4 := (h3 s).2.symm.trans hat
  have h5 : c = (((f s).getD 0 : Nat) : Int) := by
    injection h4 with h4; injection h4 with _ h4; exact h4.symm
  rw [h5]
  exact hK
/-- m[s] = v -/
theorem wpList_mapN_put (hg : o.guard = none) (m x v : Operand) (hop : o.op = Op.mapUpdate 187 m x v) (B n : Nat) (f : ByteArray → Option Nat) (hm : a.eval m = .map (some B)) (hown : MapN w B n f) (hn : n ≤ 1000000) (s : ByteArray) (hx : a.eval x = .string s) (hs : s.size ≤ maxLen) (k : Nat) (hv : a.eval v = .int .i64 ((k : Nat) : Int)) (hk : k ≤ 1000000)
    (hK : ∀ w', MapN w' B (if (f s).isSome then n else n + 1) (fun x => if x = s then some k else f x) → w.grownBy w' (some B) → wpList Tryz.prog ops Q rest (a.put o.dst undef) w') : wpList Tryz.prog ops Q (o :: rest) a w := by
  obtain ⟨D, h1, h2, h3⟩ := hown
  refine wpList_mapUpdate_own w hg m x v _ hop 9 3 keyLaw Tryz.underlying187 _ B n D hm h1 (by unfold maxLen; omega) _ _ _ hx hv (Go.WideMaps.keyOf_string_mk Tryz.underlying9 hs) _ [] (plainElem_int Tryz.underlying3 (WalkArith.wf_i64 (by omega))) ?_
  intro w' h4 h5
  exact hK w' (MapN.put h1 h2 h3 h4) h5
/-- len(m) -/
theorem wpList_mapN_len (hg : o.guard = none) (m : Operand) (hop : o.op = Op.call { callee := Callee.builtin Builtin.len, args := #[m], argTypes := #[187] }) (B n : Nat) (f : ByteArray → Option Nat) (hm : a.eval m = .map (some B)) (hown : MapN w B n f)
    (hK : wpList Tryz.prog ops Q rest (a.put o.dst (.int .i64 ((n : Nat) : Int))) w) : wpList Tryz.prog ops Q (o :: rest) a w := by
  obtain ⟨D, h1, h2, h3⟩ := hown
  refine wpList_len_own w hg m _ hop 9 3 Tryz.underlying187 _ B n D hm h1 ?_
  rw [h2]
  exact hK
end

end Go.Proofs.YtfjdijakgjhieaaGreat

namespace Go.Proofs.YtfjdijakgjhieaaGreat
open Go.RowKit

set_option maxHeartbeats 400000 in
theorem toTerm_any (t : GT) (w : World) :
    Calls Tryz.prog 122 #[.agg #[.bool t.v, .string t.n]] w fun e w' => e = .returned (.agg #[.bool t.v, .string t.n]) ∧ Ext w w' := by
  go_enter Tryz.func122, Tryz.ntmps122
  go_wp2
  exact bodyPost_ret (v := .agg #[.bool t.v, .string t.n]) (by simp [results, Tryz.results122, go_sem]) rfl ⟨rfl, (((Ext.refl _).alloc _).alloc _).alloc _⟩

theorem term_info : (Tryz.prog.info? 33).map (fun i => (i.zero, i.size, i.bytes)) = some (some (.agg #[.bool false, .string ByteArray.empty]), 2, 24) := by kernel_rfl

set_option maxHeartbeats 1000000 in
theorem toTermS_any (v : Value) (xs : List GT) (w : World) {S : Nat → Prop} (hv : TermsR S w v xs) (hw : wTerms xs ≤ 1048576) :
    Calls Tryz.prog 91 #[v] w fun e w' => (∃ u, e = .returned u ∧ TermsR (From w.heap.size) w' u xs) ∧ Ext w w' := by
  obtain ⟨A, c, rfl, hc1, hc2⟩ := SliceR.form hv
  have hn : xs.length ≤ 1048576 := by unfold wTerms at hw; omega
  clear hw
  obtain ⟨i0, hi0, hz0, hz1, hz2⟩ := info_parts term_info
  obtain ⟨cs0, hcs0, hmk⟩ := made 24 33 i0 _ Tryz.underlying24 hi0 hz0 xs.length (by rw [hz2]; omega) (by omega)
  rw [hz1] at hcs0
  have HC := Lib.hid hcs0
  have HV := Lib.hid hv
  have HN := Lib.hid hn
  clear hcs0 hi0 hz0 hz1 hz2 hv hn
  go_enter Tryz.func91, Tryz.ntmps91
  go_wp2
  go_loopw [4] (fun i wr => ∃ (k : Nat) (cs : Array Value), k ≤ xs.length ∧ i = .int .i64 k ∧ cs.size = xs.length * 2 ∧ Blk wr w.heap.size 33 cs ∧ Filled 2 TermE wr cs xs k ∧ Ext w wr) (fun i _ => xs.length - (intOf i).toNat)
  case atStart => exact ⟨0, cs0, Nat.zero_le _, rfl, HC.out, Blk.new _ _ _, Filled.zero _ _ _ _ _, (Ext.refl _).alloc _⟩
  case round =>
    obtain ⟨k, cs, hk, rfl, hcs, hb, hf, hx⟩ := hrel
    by_cases hlt : k < xs.length
    · obtain ⟨b, off, x, rfl, hb0, hxk, hxs, hc0, hc1⟩ := TermsR.at_ (HV.out.ext hx) hlt
      have HK := Lib.hid hxk
      have HS := Lib.hid hcs
      have HF := Lib.hid hf
      have HB := Lib.hid hb
      have hg := hb.lt
      clear hxk hcs hf hb hmk
      go_wp2_with (go_at_call 122; refine (toTerm_any x _).mono ?_; rintro e w1 ⟨rfl, hx1⟩; obtain ⟨⟨u0, hr0⟩, hf0⟩ := (HB.out.ext hx1).ready (i := k * 2) (by have := HS.out; omega); obtain ⟨⟨u1, hr1⟩, hf1⟩ := (HB.out.ext hx1).ready (i := k * 2 + 1) (by have := HS.out; omega))
      go_roundw
      case rel =>
        have hb1 := HB.out.ext hx1
        refine ⟨k + 1, _, by omega, by go_num, ?_, ((hb1.set_ _ _).set_ _ _), HF.out.two (fun l y h => h) HK.out (by have := HS.out; omega) ⟨rfl, hxs⟩, (Below.setCell (Below.setCell (hx.trans' hx1) (Nat.le_refl _) _) (Nat.le_refl _) _)⟩
        simp [HS.out]
      case measure => simp [intOf]; omega
    · have hkk : k = xs.length := by omega
      go_wp2
      go_ret
      exact ⟨⟨_, rfl, Filled.slice (hkk ▸ hf) hb rfl (Nat.le_refl _) (by unfold maxLen; omega) (Nat.le_refl _)⟩, hx⟩

set_option maxHeartbeats 1000000 in
theorem toAtom_any (a : GA) (v : Value) (w : World) {S : Nat → Prop} (hv : TermsR S w v a.args) (hn : wTerms a.args ≤ 1048576) :
    Calls Tryz.prog 49 #[.agg #[.string a.n, v]] w fun e w' => (∃ u, e = .returned (.agg #[.string a.n, u]) ∧ TermsR (From w.heap.size) w' u a.args) ∧ Ext w w' := by
  obtain ⟨A, c, rfl, hc1, hc2⟩ := SliceR.form hv
  have HV := Lib.hid hv
  have HN := Lib.hid hn
  clear hv hn
  go_enter Tryz.func49, Tryz.ntmps49
  go_wp2_with (go_at_call 91; refine (toTermS_any _ a.args _ (HV.out.ext ((((Ext.refl _).alloc _).alloc _).alloc _)) HN.out).mono ?_; rintro e w1 ⟨⟨u, rfl, hu⟩, hx1⟩; obtain ⟨hcc, hcf⟩ := hx1.cells; obtain ⟨B, d, rfl, hd1, hd2⟩ := SliceR.form hu)
  refine bodyPost_ret (v := .agg #[.string a.n, .slice B a.args.length d]) (by simp [results, Tryz.results49, go_sem, hcc]) rfl ⟨⟨_, rfl, ?_⟩, ?_⟩
  · exact hu.imp (fromLe (by go_size)) ((((Agree.refl _ _).set (by go_size) _).set (by go_size) _).set (by go_size) _) (by go_size)
  · exact (((((((Ext.refl _).alloc _).alloc _).alloc _).trans' hx1).setNew (by go_size) _).setNew (by go_size) _).setNew (by go_size) _

theorem atom_info : (Tryz.prog.info? 26).map (fun i => (i.zero, i.size, i.bytes)) = some (some (.agg #[.string ByteArray.empty, .slice none 0 0]), 2, 40) := by kernel_rfl

set_option maxHeartbeats 1000000 in
theorem toAtomS_any (v : Value) (xs : List GA) (w : World) {S : Nat → Prop} (hv : AtomsR S w v xs) (hw : wAtoms xs ≤ 1048576) :
    Calls Tryz.prog 18 #[v] w fun e w' => (∃ u, e = .returned u ∧ AtomsR (From w.heap.size) w' u xs) ∧ Ext w w' := by
  obtain ⟨A, c, rfl, hc1, hc2⟩ := SliceR.form hv
  have hn : xs.length ≤ 1048576 := by unfold wAtoms at hw; omega
  obtain ⟨i0, hi0, hz0, hz1, hz2⟩ := info_parts atom_info
  obtain ⟨cs0, hcs0, hmk⟩ := made 23 26 i0 _ Tryz.underlying23 hi0 hz0 xs.length (by rw [hz2]; omega) (by omega)
  rw [hz1] at hcs0
  have HC := Lib.hid hcs0
  have HV := Lib.hid hv
  have HN := Lib.hid hw
  clear hcs0 hi0 hz0 hz1 hz2 hv hn hw
  go_enter Tryz.func18, Tryz.ntmps18
  go_wp2
  go_loopw [4] (fun i wr => ∃ (k : Nat) (cs : Array Value), k ≤ xs.length ∧ i = .int .i64 k ∧ cs.size = xs.length * 2 ∧ Blk wr w.heap.size 26 cs ∧ Filled 2 (AtomE (From (w.heap.size + 1))) wr cs xs k ∧ Ext w wr) (fun i _ => xs.length - (intOf i).toNat)
  case atStart => exact ⟨0, cs0, Nat.zero_le _, rfl, HC.out, Blk.new _ _ _, Filled.zero _ _ _ _ _, (Ext.refl _).alloc _⟩
  case round =>
    obtain ⟨k, cs, hk, rfl, hcs, hb, hf, hx⟩ := hrel
    by_cases hlt : k < xs.length
    · obtain ⟨b, off, x, v1, rfl, hb0, hxk, hxs, ht, hc0, hc1⟩ := AtomsR.at_ (HV.out.ext hx) hlt
      obtain ⟨A1, c1, rfl, hq1, hq2⟩ := SliceR.form ht
      have HW := Lib.hid (show wTerms x.args ≤ 1048576 from by
        have h1 := wAtoms_mem (List.mem_of_getElem? hxk); have h2 := HN.out; unfold wAtom at h1; omega)
      have HK := Lib.hid hxk
      have HS := Lib.hid hcs
      have HF := Lib.hid hf
      have HB := Lib.hid hb
      have HT := Lib.hid ht
      have hg := hb.lt
      clear hxk hcs hf hb hmk ht
      go_wp2_with (go_at_call 49; refine (toAtom_any x _ _ HT.out HW.out).mono ?_; rintro e w1 ⟨⟨u, rfl, hu⟩, hx1⟩; obtain ⟨B, d, rfl, hd1, hd2⟩ := SliceR.form hu; obtain ⟨⟨u0, hr0⟩, hf0⟩ := (HB.out.ext hx1).ready (i := k * 2) (by have := HS.out; omega); obtain ⟨⟨u1, hr1⟩, hf1⟩ := (HB.out.ext hx1).ready (i := k * 2 + 1) (by have := HS.out; omega))
      go_roundw
      case rel =>
        have hb1 := HB.out.ext hx1
        have ha : Agree (From (w.heap.size + 1)) w1 ((w1.setCell ⟨w.heap.size, k * 2, none⟩ (.string x.n)).setCell ⟨w.heap.size, k * 2 + 1, none⟩ (.slice B x.args.length d)) :=
          ((Agree.refl _ _).set (by simp) _).set (by simp) _
        have hsz : w1.heap.size ≤ ((w1.setCell ⟨w.heap.size, k * 2, none⟩ (.string x.n)).setCell ⟨w.heap.size, k * 2 + 1, none⟩ (.slice B x.args.length d)).heap.size := by go_size
        refine ⟨k + 1, _, by omega, by go_num, ?_, ((hb1.set_ _ _).set_ _ _), HF.out.two (fun l y h => (h.ext hx1).imp (fun _ h => h) ha hsz) HK.out (by have := HS.out; omega) ⟨_, rfl, hxs, (hu.sub (fromLe (by omega))).imp (fun _ h => h) ha hsz⟩, (Below.setCell (Below.setCell (hx.trans' hx1) (Nat.le_refl _) _) (Nat.le_refl _) _)⟩
        simp [HS.out]
      case measure => simp [intOf]; omega
    · have hkk : k = xs.length := by omega
      go_wp2
      go_ret
      refine ⟨⟨_, rfl, ?_⟩, hx⟩
      have h := Filled.slice (S := From w.heap.size) (c := xs.length) (hkk ▸ hf) hb rfl (Nat.le_refl _) (by unfold maxLen; have := HN.out; unfold wAtoms at this; omega) (Nat.le_refl _)
      exact SliceR.imp (fun _ _ _ h => h.sub (fromLe (by omega))) (fun _ h => h) h (.refl _ _) (Nat.le_refl _)

end Go.Proofs.YtfjdijakgjhieaaGreat

namespace Go.Proofs.YtfjdijakgjhieaaGreat
open Go.RowKit

set_option maxRecDepth 100000 in
set_option maxHeartbeats 1000000 in
theorem l3Atom_any (a : GA) (v : Value) (w : World) {S : Nat → Prop} (hv : TermsR S w v a.args) (hn : a.args.length ≤ 4194304) :
    Calls Tryz.prog 163 #[.agg #[.string a.n, v]] w fun e w' => (∃ v', e = .returned (.agg #[.string a.n, v']) ∧ TermsR (From w.heap.size) w' v' a.args) ∧ Ext w w' := by
  obtain ⟨A, c, rfl, hc1, hc2⟩ := SliceR.form hv
  obtain ⟨i0, hi0, hz0, hz1, hz2⟩ := info_parts term_info
  have HV := Lib.hid (hv.ext (((Ext.refl w).alloc (.cells #[.string a.n, .slice A a.args.length c] 26)).alloc (.cells #[.string ⟨#[]⟩, .slice none 0 0] 26)))
  have HB := Lib.hid (Blk.new w 26 #[.string a.n, .slice A a.args.length c])
  have HB2 := Lib.hid (Blk.new (w.alloc (.cells #[.string a.n, .slice A a.args.length c] 26)) 26 #[.string ⟨#[]⟩, .slice none 0 0])
  simp only [World.size_alloc] at HB2
  clear hv
  go_enter Tryz.func163, Tryz.ntmps163
  go_wp2
  go_region_held3 (fun w' => w'.cell? ⟨w.heap.size, 0, none⟩ = some (.string a.n) ∧ w'.cell? ⟨w.heap.size, 1, none⟩ = some (.slice A a.args.length c))
    (first | go_keep | exact ⟨hb1.cell 0, hb1.cell 1⟩)
    ((refine step_appK (k := kTerm) (S := None) (T := None) (base := w.heap.size + 2) (by rfl) (.tmp 5) (.tmp 7) 24 (by rfl) i0 _ 24 Tryz.underlying24 hi0 hz0 hz1 hz2 (by rfl) (by rfl) (by first | exact OwnK.empty (by simp) (by omega) | exact (OwnK.empty (by simp) (by omega)).drew) A a.args.length c (by rfl) (by first | exact (ListK.elems (k := kTerm) (S := S) HV.out).ext ((Ext.refl _).drew.alloc _) | exact (ListK.elems (k := kTerm) (S := S) HV.out).ext ((Ext.refl _).alloc _).drew) (fun _ h _ => h) (fun _ _ h => h) (maxOf (by simp; omega)) (by simp; omega) (by go_size) ?_; intro v1 w1 hap; obtain ⟨A1, c1, rfl, hd1, hd2⟩ := hap.own.form; have hb1 := (HB.out.ext (by repeat (first | exact Ext.refl _ | apply Ext.drew | apply Ext.alloc))).below hap.below (by omega); have hb2 := (HB2.out.ext (by repeat (first | exact Ext.refl _ | apply Ext.drew | apply Ext.alloc))).below hap.below (by omega); have q0 := hb2.cell 0; have q1 := hb2.cell 1; have f0 := hb2.frozen 0; have f1 := hb2.frozen 1; have hl := hb2.lt))
  go_wp2
  simp only [List.nil_append] at hap
  refine bodyPost_ret (v := .agg #[.string a.n, .slice A1 a.args.length c1]) (by simp [results, Tryz.results163, go_sem, q0, q1]) rfl ⟨⟨_, rfl, ?_⟩, ?_⟩
  · have h1 := hap.own.list (S' := From (w.heap.size + 2)) (fun _ h => h.elim) (fun _ h => h)
    exact TermsR.imp (S := From (w.heap.size + 2)) (w := w1) h1 (fromLe (by omega)) (((Agree.refl _ _).setCell (by simp) _).setCell (by simp) _) (by go_size)
  · exact Ext.setNew (a := w) (Ext.setNew (hap.toExt (by repeat (first | exact Ext.refl _ | apply Ext.drew | apply Ext.alloc)) (by omega)) (by simp) _) (by simp) _

/-- Facts that are not among others. -/
def lessA (xs ys : List GA) : List GA := xs.filter fun x => !hasA ys x
theorem lessA_take {xs ys : List GA} {k : Nat} {x : GA} (h : xs[k]? = some x) : lessA (xs.take (k + 1)) ys = lessA (xs.take k) ys ++ if hasA ys x = true then [] else [x] := by
  obtain ⟨hk, rfl⟩ := List.getElem?_eq_some_iff.1 h
  unfold lessA
  rw [List.take_succ_eq_append_getElem hk, List.filter_append]
  congr 1
  cases h : hasA ys xs[k] <;> simp [h]
theorem lessA_len (xs ys : List GA) : (lessA xs ys).length ≤ xs.length := List.length_filter_le _ _
theorem wTerms_len (l : List GT) : l.length ≤ wTerms l := Nat.le_add_right _ _
theorem wAtoms_len (l : List GA) : l.length ≤ wAtoms l := Nat.le_add_right _ _
theorem wAtom_args (a : GA) : a.args.length ≤ wAtom a := Nat.le_trans (wTerms_len _) (Nat.le_add_left _ _)

end Go.Proofs.YtfjdijakgjhieaaGreat

namespace Go.Proofs.YtfjdijakgjhieaaGreat
open Go.RowKit

/-- Facts with one more. -/
def putA (xs : List GA) (a : GA) : List GA := if hasA xs a = true then xs else xs.take (placeA xs a) ++ [a] ++ xs.drop (placeA xs a)
theorem placeA_le (xs : List GA) (a : GA) : placeA xs a ≤ xs.length := by unfold placeA; exact (List.takeWhile_sublist _).length_le

set_option maxRecDepth 100000 in
set_option maxHeartbeats 4000000 in
theorem l3Put_own (v u : Value) (xs : List GA) (a : GA) (w : World) {S T : Nat → Prop} (hv : AtomsR S w v xs) (hu : TermsR T w u a.args) (hs : a.n.size ≤ maxLen) (hn : xs.length ≤ 4194304) :
    Calls Tryz.prog 93 #[v, .agg #[.string a.n, u]] w fun e w' => (∃ v', e = .returned v' ∧ (OwnK kAtom w.heap.size 26 (fun b => S b ∨ T b) w' v' (putA xs a) ∨ (v' = v ∧ putA xs a = xs))) ∧ Ext w w' := by
  obtain ⟨A, c, rfl, hc1, hc2⟩ := SliceR.form hv
  obtain ⟨B, d, rfl, hd1, hd2⟩ := SliceR.form hu
  obtain ⟨i0, hi0, hz0, hz1, hz2⟩ := info_parts atom_info
  have HB := Lib.hid (Blk.new w 26 #[.string a.n, .slice B a.args.length d])
  have HV := Lib.hid (hv.ext ((Ext.refl w).alloc (.cells #[.string a.n, .slice B a.args.length d] 26)))
  have HU := Lib.hid (hu.ext ((Ext.refl w).alloc (.cells #[.string a.n, .slice B a.args.length d] 26)))
  clear hv hu
  cases hh : hasA xs a
  · have HP := Lib.hid (show putA xs a = xs.take (placeA xs a) ++ [a] ++ xs.drop (placeA xs a) from by unfold putA; rw [hh]; rfl)
    have H2 := Lib.hid hh
    have hpl := placeA_le xs a
    obtain ⟨k, hk⟩ : ∃ k, k = placeA xs a := ⟨_, rfl⟩
    rw [← hk] at hpl HP
    have HK := Lib.hid hk
    have HC := Lib.hid (show ∀ W, Ext (w.alloc (.cells #[.string a.n, .slice B a.args.length d] 26)) W → Calls Tryz.prog 78 #[.slice A xs.length c, .agg #[.string a.n, .slice B a.args.length d]] W fun e w' => e = .returned (.tuple #[.int .i64 k, .bool false]) ∧ Ext W w' from fun W hW =>
      (l3At_any _ _ xs a W (HV.out.ext hW) (HU.out.ext hW)).mono fun e w' ⟨h1, h2⟩ => ⟨by rw [h1, H2.out, HK.out], h2⟩)
    have hk0 : (0 : Int) ≤ (k : Int) := by omega
    have hk1 : (k : Int) ≤ (c : Int) := by omega
    have hk2 : (k : Int) ≤ (xs.length : Int) := by omega
    clear hh hk
    go_enter Tryz.func93, Tryz.ntmps93
    go_wp2_with (go_at_call 78; refine (HC.out _ (Ext.refl _)).mono ?_; rintro e w1 ⟨rfl, hx1⟩; have hb1 := HB.out.ext hx1; have q0 := hb1.cell 0; have q1 := hb1.cell 1; have hl1 := hb1.lt)
    have HX1 := Lib.hid (((Ext.refl w).alloc (.cells #[.string a.n, .slice B a.args.length d] 26)).trans' hx1)
    have HB1 := Lib.hid hb1
    have HE1 := Lib.hid (show ∀ W, Ext w1 W → ElemsK kAtom (fun b => (S b ∨ T b) ∧ b < w1.heap.size) W (.slice A k c) (xs.take k) from fun W hW =>
      ElemsK.ext (((ListK.elems (k := kAtom) (SliceR.fst (HV.out.ext hx1) k hpl)).sub (fun b hb hlt => ⟨.inl hb, hlt⟩))) hW)
    have HE2 := Lib.hid (show ∀ W, Ext w1 W → kAtom.E (fun b => (S b ∨ T b) ∧ b < w1.heap.size) W [.string a.n, .slice B a.args.length d] a from fun W hW =>
      ⟨_, rfl, hs, (TermsR.impL (w := w1) (HU.out.ext hx1) (fun b hb hlt => ⟨.inr hb, hlt⟩) (Agree.of_ext hW) hW.size)⟩)
    have HE3 := Lib.hid (show ∀ W, Ext w1 W → ElemsK kAtom (fun b => (S b ∨ T b) ∧ b < w1.heap.size) W (.slice (if c = k then A else A.map (·.add (k * 2))) (xs.length - k) (c - k)) (xs.drop k) from fun W hW =>
      ElemsK.ext (((ListK.elems (k := kAtom) (SliceR.drop (HV.out.ext hx1) k hpl)).sub (fun b hb hlt => ⟨.inl hb, hlt⟩))) hW)
    have hlk : (xs.take k).length = k := by rw [List.length_take]; omega
    have HLK := Lib.hid hlk
    clear hx1 hb1 hlk
    go_region_held3 (fun w' => w'.cell? ⟨w.heap.size, 0, none⟩ = some (.string a.n) ∧ w'.cell? ⟨w.heap.size, 1, none⟩ = some (.slice B a.args.length d))
      (first | exact ⟨(HB1.out.ext HX4.out).cell 0, (HB1.out.ext HX4.out).cell 1⟩ | exact ⟨(HB1.out.ext HX3.out).cell 0, (HB1.out.ext HX3.out).cell 1⟩ | exact ⟨(HB1.out.ext HX2.out).cell 0, (HB1.out.ext HX2.out).cell 1⟩ | go_keep)
      (first
        | (refine step_appL (o := ⟨some 19, _, _, _, _, _⟩) (k := kAtom) (S := fun b => (S b ∨ T b) ∧ b < w1.heap.size) (T := fun b => (S b ∨ T b) ∧ b < w1.heap.size) (base := w1.heap.size) (v := .slice (some ⟨_, 0, none⟩) 0 0) (xs := []) (ys := xs.take k) (by rfl) (.tmp 15) (.tmp 18) 23 (by rfl) i0 _ 40 Tryz.underlying23 hi0 hz0 hz1 hz2 (by rfl) (by rfl)
            (by first | exact OwnK.drew (OwnK.empty rfl (Nat.le_refl _)) | exact OwnK.drew (OwnK.alloc (OwnK.empty rfl (Nat.le_refl _)) _) | exact OwnK.drew (OwnK.empty (w := w1.alloc _) (by simp) (by simp))) A k c (by rfl) (HE1.out _ (by first | exact Ext.drew (Ext.alloc (Ext.refl _) _) | exact Ext.drew (Ext.alloc (Ext.alloc (Ext.refl _) _) _))) (fun b hb => ⟨hb, hb.2⟩) (maxOf (by simp; omega)) (by simp; omega) (by go_size) ?_
           intro v1 w2 hap1; obtain ⟨A1, n1, c1, rfl, hn1, hd11, hd12⟩ := hap1.own.form2; have HX2 := Lib.hid (hap1.toExt (w0 := w1) (by first | exact Ext.drew (Ext.alloc (Ext.refl _) _) | exact Ext.drew (Ext.alloc (Ext.alloc (Ext.refl _) _) _)) (Nat.le_refl _)); have HA1 := Lib.hid hap1; clear hap1)
        | (refine step_appL (o := ⟨some 22, _, _, _, _, _⟩) (k := kAtom) (S := fun b => (S b ∨ T b) ∧ b < w1.heap.size) (T := fun b => (S b ∨ T b) ∧ b < w1.heap.size) (base := w1.heap.size) (xs := [] ++ xs.take k) (ys := [a]) (by rfl) (.tmp 19) (.tmp 21) 23 (by rfl) i0 _ 40 Tryz.underlying23 hi0 hz0 hz1 hz2 (by rfl) (by rfl)
            (by first | exact HA1.out.own | exact OwnK.alloc HA1.out.own _) _ 1 1 (by rfl) (ElemsK.one (k := kAtom) (x := a) (by first | exact Blk.at_new rfl | exact HA1.out.blk2 (Blk.drew (Blk.at_new (w := w1.alloc _) (by simp))) (by simp [Value.ownBlock]) | exact HA1.out.blk2 (Blk.drew (Blk.alloc (Blk.at_new rfl) _)) (by simp [Value.ownBlock])) (HE2.out _ (by first | exact HX2.out | exact Ext.alloc HX2.out _))) (fun b hb => ⟨hb, hb.2⟩) (maxOf (by simp; omega)) (by simp; omega) (by have := HX2.out.size; go_size) ?_
           intro v2 w3 hap2; obtain ⟨A2, n2, c2, rfl, hn2, hd21, hd22⟩ := hap2.own.form2; have HX3 := Lib.hid (hap2.toExt (w0 := w1) (by first | exact HX2.out | exact Ext.alloc HX2.out _) (Nat.le_refl _)); have HA2 := Lib.hid hap2; clear hap2)
        | (refine step_appL (o := ⟨some 26, _, _, _, _, _⟩) (k := kAtom) (S := fun b => (S b ∨ T b) ∧ b < w1.heap.size) (T := fun b => (S b ∨ T b) ∧ b < w1.heap.size) (base := w1.heap.size) (xs := ([] ++ xs.take k) ++ [a]) (ys := xs.drop k) (by rfl) (.tmp 22) (.tmp 25) 23 (by rfl) i0 _ 40 Tryz.underlying23 hi0 hz0 hz1 hz2 (by rfl) (by rfl)
            (by exact HA2.out.own) _ _ _ (by rfl) (HE3.out _ HX3.out) (fun b hb => ⟨hb, hb.2⟩) (maxOf (by simp; omega)) (by simp; omega) (by have := HX3.out.size; go_size) ?_
           intro v3 w4 hap3; obtain ⟨A3, n3, c3, rfl, hn3, hd31, hd32⟩ := hap3.own.form2; have HX4 := Lib.hid (hap3.toExt (w0 := w1) HX3.out (Nat.le_refl _)); have HA3 := Lib.hid hap3; clear hap3))
    all_goals go_wp2
    all_goals
      go_ret
      refine ⟨⟨_, rfl, ?_⟩, HX1.out.trans' HX4.out⟩
      rw [HP.out]
      have h := HA3.out.own.sub (base' := w.heap.size) (S' := fun b => S b ∨ T b) (Nat.le_of_lt hl1) (fun b hb => hb.1)
      simp only [List.nil_append] at h
      exact .inl h
  · have HP := Lib.hid (show putA xs a = xs from by unfold putA; rw [if_pos hh])
    have H2 := Lib.hid hh
    obtain ⟨k, hk⟩ : ∃ k, k = placeA xs a := ⟨_, rfl⟩
    have HK := Lib.hid hk
    have HC := Lib.hid (show Calls Tryz.prog 78 #[.slice A xs.length c, .agg #[.string a.n, .slice B a.args.length d]] (w.alloc (.cells #[.string a.n, .slice B a.args.length d] 26)) fun e w' => e = .returned (.tuple #[.int .i64 k, .bool true]) ∧ Ext (w.alloc (.cells #[.string a.n, .slice B a.args.length d] 26)) w' from
      (l3At_any _ _ xs a _ HV.out HU.out).mono fun e w' ⟨h1, h2⟩ => ⟨by rw [h1, H2.out, HK.out], h2⟩)
    clear hh hk
    go_enter Tryz.func93, Tryz.ntmps93
    go_wp2_with (go_at_call 78; refine HC.out.mono ?_; rintro e w1 ⟨rfl, hx1⟩)
    go_ret
    exact ⟨⟨_, rfl, .inr ⟨rfl, HP.out⟩⟩, ((Ext.refl _).alloc _).trans' hx1⟩

theorem l3Put_any (v u : Value) (xs : List GA) (a : GA) (w : World) {S T : Nat → Prop} (hv : AtomsR S w v xs) (hu : TermsR T w u a.args) (hs : a.n.size ≤ maxLen) (hn : xs.length ≤ 4194304) :
    Calls Tryz.prog 93 #[v, .agg #[.string a.n, u]] w fun e w' => (∃ v', e = .returned v' ∧ AtomsR (fun b => w.heap.size ≤ b ∨ S b ∨ T b) w' v' (putA xs a)) ∧ Ext w w' :=
  (l3Put_own v u xs a w hv hu hs hn).mono fun e w' ⟨⟨v', h1, h2⟩, hx⟩ => ⟨⟨v', h1, by
    rcases h2 with h2 | ⟨rfl, h2⟩
    · exact h2.list (S' := fun b => w.heap.size ≤ b ∨ S b ∨ T b) (fun b hb => .inr hb) (fun b hb => .inl hb)
    · rw [h2]; exact AtomsR.sub (S := S) (hv.ext hx) (fun b hb => .inr (.inl hb))⟩, hx⟩

end Go.Proofs.YtfjdijakgjhieaaGreat

namespace Go.Proofs.YtfjdijakgjhieaaGreat
set_option linter.unusedSimpArgs false
set_option linter.unusedVariables false
open Go.RowKit

/-- What variables are bound to. -/
structure LB where
  ns : List ByteArray
  vs : List ByteArray
def LB.get (b : LB) (x : ByteArray) : Option ByteArray := match idxB b.ns x with
  | some i => b.vs[i]?
  | none => none
def LB.plus (b : LB) (n v : ByteArray) : LB := ⟨b.ns ++ [n], b.vs ++ [v]⟩
def emptyB : ByteArray := ⟨#[]⟩
/-- One term of an atom against one of a fact. -/
def matchT (t f : GT) (b : LB) : LB × Bool :=
  if t.v then match b.get t.n with
    | none => (b.plus t.n f.n, true)
    | some v => (b, decide (v = f.n))
  else (b, decide (t.n = f.n))
def matchL : List GT → List GT → LB → LB × Bool
  | t :: ts, f :: fs, b => if (matchT t f b).2 then matchL ts fs (matchT t f b).1 else ((matchT t f b).1, false)
  | _, _, b => (b, true)
def matchN (a fact : GA) (b : LB) : LB × Bool := if a.n = fact.n ∧ a.args.length = fact.args.length then matchL a.args fact.args b else (b, false)
def fillT (b : LB) (t : GT) : GT := ⟨false, if t.v then (b.get t.n).getD emptyB else t.n⟩
def fillN (a : GA) (b : LB) : GA := ⟨a.n, a.args.map (fillT b)⟩
/-- One binding against all facts. -/
def moreOf (a : GA) (list : List GA) (b : LB) : List LB := list.filterMap fun f => if (matchN a f b).2 then some (matchN a f b).1 else none
def allStep (list : List GA) (out : List LB) (p : GP) : List LB := if p.no then out else out.flatMap (moreOf p.atom list)
def heldB (list : List GA) (body : List GP) (b : LB) : Bool := body.all fun p => !p.no || !hasA list (fillN p.atom b)
def allN (list : List GA) (body : List GP) : List LB := (body.foldl (allStep list) [⟨[], []⟩]).filter (heldB list body)
def onceStep (levels : List Nat) (level : Nat) (list : List GA) (out : List GA) (x : GR × Nat) : List GA :=
  if at0 levels x.2 = level then (allN list x.1.body).foldl (fun o b => putA o (fillN x.1.head b)) out else out
def onceN (rules : List GR) (levels : List Nat) (level : Nat) (list : List GA) : List GA := rules.zipIdx.foldl (onceStep levels level list) []
/-- Facts, and the round of each. -/
structure RL where
  list : List GA
  round : List Nat
def RL.put (r : RL) (n : Nat) (a : GA) : RL := if hasA r.list a then r else ⟨putA r.list a, r.round.take (placeA r.list a) ++ [n] ++ r.round.drop (placeA r.list a)⟩
def RL.puts (r : RL) (n : Nat) (l : List GA) : RL := l.foldl (fun r a => r.put n a) r
/-- One level: round by round; how many rounds, and false if there are too many facts. -/
def levelN (rules : List GR) (levels : List Nat) (level : Nat) : Nat → RL → Nat → RL × Nat × Bool
  | 0, r, n => (r, n, true)
  | f + 1, r, n =>
    let r2 := r.puts (n + 1) (onceN rules levels level r.list)
    if 300 < r2.list.length then (r2, n + 1, false) else if r2.list.length = r.list.length then (r2, n, true) else levelN rules levels level f r2 (n + 1)
/-- Level by level. -/
def runL (rules : List GR) (levels : List Nat) : Nat → Nat → RL → Nat → RL × Bool
  | 0, _, r, _ => (r, true)
  | k + 1, level, r, n => match levelN rules levels level (302 - r.list.length) r n with
    | (r2, n2, ok) => if ok then runL rules levels k (level + 1) r2 n2 else (r2, false)
def runN (rules : List GR) (given : List GA) : RL × Bool := runL rules (levelsL rules) (rules.length + 1) 0 ⟨given, List.replicate given.length 0⟩ 0
def fitB (rules : List GR) (list : List GA) : Bool := list.all fun a => (atomsOf rules).all fun b => !(decide (b.n = a.n)) || decide (b.args.length = a.args.length)
noncomputable def evalOkB (rules : List GR) (given : List GA) : Bool := decide (progCheckN rules = 0) && factsB given 40 && fitB rules given
noncomputable def evalN (rules : List GR) (given : List GA) : Option RL := if evalOkB rules given then (if (runN rules given).2 then some (runN rules given).1 else none) else none

theorem RL.put_len (r : RL) (n : Nat) (a : GA) : r.list.length ≤ (r.put n a).list.length ∧ (r.put n a).list.length ≤ r.list.length + 1 := by
  unfold RL.put
  split
  · exact ⟨Nat.le_refl _, Nat.le_succ _⟩
  · rename_i h
    unfold putA
    rw [if_neg h]
    have := placeA_le r.list a
    simp only [List.length_append, List.length_take, List.length_drop, List.length_cons, List.length_nil]
    omega
theorem RL.puts_len (n : Nat) : ∀ (l : List GA) (r : RL), r.list.length ≤ (r.puts n l).list.length ∧ (r.puts n l).list.length ≤ r.list.length + l.length
  | [], r => ⟨Nat.le_refl _, Nat.le_refl _⟩
  | a :: l, r => by
    have h1 := r.put_len n a
    have h2 := RL.puts_len n l (r.put n a)
    simp only [RL.puts, List.foldl_cons, List.length_cons] at *
    omega
theorem RL.put_round {r : RL} {n : Nat} {a : GA} (h : r.round.length = r.list.length) : (r.put n a).round.length = (r.put n a).list.length := by
  unfold RL.put
  split
  · exact h
  · rename_i hh
    unfold putA
    rw [if_neg hh]
    simp only [List.length_append, List.length_take, List.length_drop, List.length_cons, List.length_nil, h]
theorem RL.puts_round (n : Nat) : ∀ (l : List GA) (r : RL), r.round.length = r.list.length → (r.puts n l).round.length = (r.puts n l).list.length
  | [], r, h => h
  | a :: l, r, h => RL.puts_round n l _ (RL.put_round h)
/-- Fuel enough is fuel enough. -/
theorem levelN_fuel (rules : List GR) (levels : List Nat) (level : Nat) : ∀ (f g : Nat) (r : RL) (n : Nat), r.list.length ≤ 301 → 302 - r.list.length ≤ f → f ≤ g → levelN rules levels level f r n = levelN rules levels level g r n
  | 0, g, r, n, h1, h2, h3 => by omega
  | f + 1, 0, r, n, h1, h2, h3 => by omega
  | f + 1, g + 1, r, n, h1, h2, h3 => by
    simp only [levelN]
    split
    · rfl
    · split
      · rfl
      · rename_i h4 h5
        have h6 := RL.puts_len (n + 1) (onceN rules levels level r.list) r
        exact levelN_fuel rules levels level f g _ _ (by omega) (by omega) (by omega)
/-- One round of a level, with fuel enough. -/
theorem levelN_step (rules : List GR) (levels : List Nat) (level : Nat) (r : RL) (n : Nat) (h : r.list.length ≤ 300) :
    levelN rules levels level (302 - r.list.length) r n =
      (let r2 := r.puts (n + 1) (onceN rules levels level r.list)
       if 300 < r2.list.length then (r2, n + 1, false) else if r2.list.length = r.list.length then (r2, n, true) else levelN rules levels level (302 - r2.list.length) r2 (n + 1)) := by
  obtain ⟨f, hf⟩ : ∃ f, 302 - r.list.length = f + 1 := ⟨301 - r.list.length, by omega⟩
  rw [hf]
  simp only [levelN]
  split
  · rfl
  · split
    · rfl
    · rename_i h4 h5
      have h6 := RL.puts_len (n + 1) (onceN rules levels level r.list) r
      exact (levelN_fuel rules levels level (302 - (r.puts (n + 1) (onceN rules levels level r.list)).list.length) f (r.puts (n + 1) (onceN rules levels level r.list)) (n + 1) (by omega) (Nat.le_refl _) (by omega)).symm

theorem foldl_snoc {α β : Type} (f : β → α → β) (o : β) (l : List α) (k : Nat) (x : α) (h : l[k]? = some x) : (l.take (k + 1)).foldl f o = f ((l.take k).foldl f o) x := by
  obtain ⟨hk, rfl⟩ := List.getElem?_eq_some_iff.1 h
  rw [List.take_succ_eq_append_getElem hk, List.foldl_append]; rfl

/-! ### How many, and how great -/
theorem matchL_ns : ∀ (ts fs : List GT) (b : LB), (matchL ts fs b).1.ns.length ≤ b.ns.length + ts.length
  | [], _, b => by simp [matchL]
  | t :: ts, [], b => by simp [matchL]
  | t :: ts, f :: fs, b => by
    have h1 : (matchT t f b).1.ns.length ≤ b.ns.length + 1 := by
      unfold matchT
      split
      · split
        · simp [LB.plus]
        · exact Nat.le_succ _
      · exact Nat.le_succ _
    simp only [matchL]
    split
    · have := matchL_ns ts fs (matchT t f b).1
      simp only [List.length_cons]; omega
    · simp only [List.length_cons]; omega
theorem moreOf_len (a : GA) (list : List GA) (b : LB) : (moreOf a list b).length ≤ list.length := List.length_filterMap_le _ _
theorem flat_len {α β : Type} (f : α → List β) (n : Nat) : ∀ (l : List α), (∀ x ∈ l, (f x).length ≤ n) → (l.flatMap f).length ≤ l.length * n
  | [], _ => by simp
  | x :: l, h => by
    have h1 := h x (by simp)
    have h2 := flat_len f n l (fun x hx => h x (List.mem_cons_of_mem _ hx))
    rw [List.flatMap_cons, List.length_append, List.length_cons, Nat.add_mul, Nat.one_mul]
    omega
theorem allStep_len (list : List GA) (out : List LB) (p : GP) : (allStep list out p).length ≤ out.length * (list.length + 1) := by
  unfold allStep
  split
  · exact Nat.le_mul_of_pos_right _ (Nat.succ_pos _)
  · refine Nat.le_trans (flat_len _ list.length out fun b _ => moreOf_len _ _ _) (Nat.mul_le_mul_left _ (Nat.le_succ _))
theorem allFold_len (list : List GA) : ∀ (body : List GP) (out : List LB), (body.foldl (allStep list) out).length ≤ out.length * (list.length + 1) ^ body.length
  | [], out => by simp
  | p :: body, out => by
    have h1 := allStep_len list out p
    have h2 := allFold_len list body (allStep list out p)
    rw [List.foldl_cons, List.length_cons, Nat.pow_succ]
    refine Nat.le_trans h2 ?_
    rw [Nat.mul_comm ((list.length + 1) ^ body.length), ← Nat.mul_assoc]
    exact Nat.mul_le_mul_right _ h1

end Go.Proofs.YtfjdijakgjhieaaGreat
