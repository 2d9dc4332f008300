/- What the program's maps hold, as functions, and the strata as it works them out by places (plain). -/
import Derived.Test.YthndnkafckapnaaGreatDoorRlP
import Derived.Maps.OwnSet
import Derived.Maps.OwnOps
import Derived.Maps.Views
import Derived.StringKeys
namespace Go.Proofs.YthndnkafckapnaaGreatDoor
open Go.RowKit

/-! ### The places of names -/
def idxB : List ByteArray → ByteArray → Option Nat
  | [], _ => none
  | y :: l, x => if y = x then some 0 else (idxB l x).map (· + 1)
theorem idxB_some : ∀ {l : List ByteArray} {x : ByteArray} {i : Nat}, idxB l x = some i → l[i]? = some x
  | y :: l, x, i, h => by
    unfold idxB at h
    split at h
    · rename_i e; injection h with h; subst h; rw [e]; rfl
    · cases hi : idxB l x with
      | none => rw [hi] at h; cases h
      | some j =>
        rw [hi] at h; injection h with h; subst h
        rw [List.getElem?_cons_succ]; exact idxB_some hi
theorem idxB_lt {l : List ByteArray} {x : ByteArray} {i : Nat} (h : idxB l x = some i) : i < l.length := (List.getElem?_eq_some_iff.1 (idxB_some h)).1
theorem idxB_inj {l : List ByteArray} {x y : ByteArray} {i : Nat} (h : idxB l x = some i) (k : idxB l y = some i) : x = y := by
  have h1 := idxB_some h
  rw [idxB_some k] at h1
  injection h1 with h1; exact h1.symm
theorem idxB_mem : ∀ {l : List ByteArray} {x : ByteArray}, x ∈ l → ∃ i, idxB l x = some i
  | y :: l, x, h => by
    unfold idxB
    by_cases e : y = x
    · exact ⟨0, by rw [if_pos e]⟩
    · rcases List.mem_cons.1 h with h | h
      · exact absurd h.symm e
      · obtain ⟨i, hi⟩ := idxB_mem h
        exact ⟨i + 1, by rw [if_neg e, hi]; rfl⟩
theorem idxB_not {l : List ByteArray} {x : ByteArray} (h : idxB l x = none) : x ∉ l := fun hm => by
  obtain ⟨i, hi⟩ := idxB_mem hm
  rw [h] at hi; cases hi
theorem idxB_snoc : ∀ (l : List ByteArray) (y x : ByteArray), idxB (l ++ [y]) x = match idxB l x with | some i => some i | none => if y = x then some l.length else none
  | [], y, x => by simp [idxB]
  | z :: l, y, x => by
    simp only [List.cons_append, idxB, idxB_snoc l y x]
    by_cases e : z = x
    · simp [e]
    · simp only [if_neg e]
      cases idxB l x with
      | some i => rfl
      | none =>
        by_cases e2 : y = x
        · simp [e2]
        · simp [e2]

def headsL : List GR → List ByteArray → List ByteArray
  | [], hs => hs
  | r :: l, hs => headsL l (if (idxB hs r.head.n).isSome then hs else hs ++ [r.head.n])
def heads (l : List GR) : List ByteArray := headsL l []
theorem headsL_snoc : ∀ (l : List GR) (r : GR) (hs : List ByteArray), headsL (l ++ [r]) hs = if (idxB (headsL l hs) r.head.n).isSome then headsL l hs else headsL l hs ++ [r.head.n]
  | [], r, hs => rfl
  | x :: l, r, hs => by
    simp only [List.cons_append, headsL]
    exact headsL_snoc l r _
theorem heads_snoc (l : List GR) (r : GR) : heads (l ++ [r]) = if (idxB (heads l) r.head.n).isSome then heads l else heads l ++ [r.head.n] := headsL_snoc l r []
theorem headsL_len : ∀ (l : List GR) (hs : List ByteArray), (headsL l hs).length ≤ hs.length + l.length
  | [], hs => Nat.le_refl _
  | x :: l, hs => by
    have := headsL_len l (if (idxB hs x.head.n).isSome then hs else hs ++ [x.head.n])
    simp only [headsL]
    split at this
    · rename_i e; rw [if_pos e, List.length_cons]; omega
    · rename_i e; rw [if_neg e, List.length_cons]; rw [List.length_append, List.length_singleton] at this; omega
theorem heads_len (l : List GR) : (heads l).length ≤ l.length := by
  have := headsL_len l []
  simpa [heads] using this
theorem headsL_mem : ∀ {l : List GR} {hs : List ByteArray} {x : ByteArray}, x ∈ headsL l hs ↔ x ∈ hs ∨ ∃ r ∈ l, r.head.n = x
  | [], hs, x => by simp [headsL]
  | y :: l, hs, x => by
    simp only [headsL]
    rw [headsL_mem]
    by_cases e : (idxB hs y.head.n).isSome
    · rw [if_pos e]
      obtain ⟨i, hi⟩ := Option.isSome_iff_exists.1 e
      have hm : y.head.n ∈ hs := List.mem_of_getElem? (idxB_some hi)
      constructor
      · rintro (h | ⟨r, hr, h⟩)
        · exact .inl h
        · exact .inr ⟨r, List.mem_cons_of_mem _ hr, h⟩
      · rintro (h | ⟨r, hr, h⟩)
        · exact .inl h
        · rcases List.mem_cons.1 hr with rfl | hr
          · exact .inl (h ▸ hm)
          · exact .inr ⟨r, hr, h⟩
    · rw [if_neg e]
      constructor
      · rintro (h | ⟨r, hr, h⟩)
        · rcases List.mem_append.1 h with h | h
          · exact .inl h
          · exact .inr ⟨y, by simp, (List.mem_singleton.1 h).symm⟩
        · exact .inr ⟨r, List.mem_cons_of_mem _ hr, h⟩
      · rintro (h | ⟨r, hr, h⟩)
        · exact .inl (List.mem_append_left _ h)
        · rcases List.mem_cons.1 hr with rfl | hr
          · exact .inl (List.mem_append_right _ (by simp [h]))
          · exact .inr ⟨r, hr, h⟩
theorem heads_mem {l : List GR} {x : ByteArray} : x ∈ heads l ↔ ∃ r ∈ l, r.head.n = x := by
  unfold heads
  rw [headsL_mem]; simp

/-! ### Levels by places -/
/-- No stratum that is under way is too great. -/
def Low (l : List GR) (o : List Nat) : Prop := o.length = (heads l).length ∧ (∀ i, i < o.length → at0 o i < o.length) ∧ ∀ f : ByteArray → Nat, dep l f → (∀ x ∈ heads l, f x < (heads l).length) → ∀ x i, idxB (heads l) x = some i → at0 o i ≤ f x
theorem at0_zero (n i : Nat) : at0 (List.replicate n 0) i = 0 := by
  unfold at0
  rw [List.getD_eq_getElem?_getD, List.getElem?_replicate]
  split <;> rfl
theorem Low.start (l : List GR) : Low l (List.replicate (heads l).length 0) := by
  refine ⟨List.length_replicate, fun i hi => ?_, fun f _ _ x i _ => ?_⟩
  · rw [at0_zero]; omega
  · rw [at0_zero]; exact Nat.zero_le _
theorem Low.least {l : List GR} {o : List Nat} (h : Low l o) {f : ByteArray → Nat} (hd : dep l f) (hb : ∀ x ∈ heads l, f x < (heads l).length) {r : GR} {p : GP} (hr : r ∈ l) (hp : p ∈ r.body) {j : Nat} (hj : idxB (heads l) p.atom.n = some j) : at0 o j + one p.no ≤ f r.head.n := by
  have h1 := h.2.2 f hd hb _ _ hj
  have h2 := hd r hr p hp (heads_mem.1 (List.mem_of_getElem? (idxB_some hj)))
  omega
theorem Low.set {l : List GR} {o : List Nat} (h : Low l o) {r : GR} {p : GP} (hr : r ∈ l) (hp : p ∈ r.body) {j own : Nat} (hj : idxB (heads l) p.atom.n = some j) (ho : idxB (heads l) r.head.n = some own) (hlt : at0 o j + one p.no < (heads l).length) : Low l (o.set own (at0 o j + one p.no)) := by
  have hown : own < o.length := by rw [h.1]; exact idxB_lt ho
  refine ⟨List.length_set.trans h.1, fun i hi => ?_, fun f hd hb x i hx => ?_⟩
  · rw [List.length_set] at hi ⊢
    rw [at0_set hown]
    split
    · rw [h.1]; exact hlt
    · exact h.2.1 i hi
  · rw [at0_set hown]
    split
    · rename_i e
      subst e
      have := idxB_inj hx ho
      subst this
      exact h.least hd hb hr hp hj
    · exact h.2.2 f hd hb x i hx
open Classical in
/-- A level that would be as great as there are names: there are no strata. -/
theorem Low.cycle {l : List GR} {o : List Nat} (h : Low l o) {r : GR} {p : GP} (hr : r ∈ l) (hp : p ∈ r.body) {j : Nat} (hj : idxB (heads l) p.atom.n = some j) (hge : (heads l).length ≤ at0 o j + one p.no) : cycleB l = true := by
  unfold cycleB
  refine decide_eq_true fun hs => ?_
  obtain ⟨f, hd, hb⟩ := strat_few (hs := heads l) (fun r hr => heads_mem.2 ⟨r, hr, rfl⟩) hs
  have h1 := h.least hd hb hr hp hj
  have h2 := hb _ (heads_mem.2 ⟨r, hr, rfl⟩)
  omega
/-- What a part asks of the levels. -/
def metB (l : List GR) (o : List Nat) (r : GR) (p : GP) : Prop := ∀ j own, idxB (heads l) p.atom.n = some j → idxB (heads l) r.head.n = some own → at0 o j + one p.no ≤ at0 o own
open Classical in
theorem met_strat {l : List GR} {o : List Nat} (h : ∀ r ∈ l, ∀ p ∈ r.body, metB l o r p) : cycleB l = false := by
  unfold cycleB
  refine decide_eq_false fun hn => hn ⟨fun x => match idxB (heads l) x with | some i => at0 o i | none => 0, fun r hr p hp he => ?_⟩
  obtain ⟨own, ho⟩ := idxB_mem (heads_mem.2 ⟨r, hr, rfl⟩)
  obtain ⟨j, hj⟩ := idxB_mem (heads_mem.2 he)
  have := h r hr p hp j own hj ho
  simp only [hj, ho]
  exact this
theorem sum_set {o : List Nat} : ∀ {i v : Nat}, i < o.length → at0 o i < v → o.sum < (o.set i v).sum := by
  induction o with
  | nil => intro i v h _; exact absurd h (Nat.not_lt_zero _)
  | cons x o ih =>
    intro i v h hv
    cases i with
    | zero =>
      have hv' : x < v := hv
      simp only [List.set_cons_zero, List.sum_cons]; omega
    | succ i =>
      have := ih (i := i) (v := v) (by simpa using h) hv
      simp only [List.set_cons_succ, List.sum_cons]; omega
theorem Low.sum_le {l : List GR} {o : List Nat} (h : Low l o) : o.sum ≤ (heads l).length * (heads l).length := by
  have := sum_low (o := o) (n := o.length) (fun x hx => by
    obtain ⟨i, hi, rfl⟩ := List.getElem_of_mem hx
    have := h.2.1 i hi
    have e := at0_some hi
    rw [List.getElem?_eq_getElem hi] at e
    injection e with e
    rw [e]; exact this)
  rw [h.1] at this
  exact this

/-! ### One pass of the program over rules -/
/-- From o0 the pass came to o, at part j of rule i; b: has something moved? -/
def Pass (l : List GR) (o0 o : List Nat) (b : Bool) (i j : Nat) : Prop :=
  (b = true → o0.sum < o.sum) ∧ (b = false → o = o0 ∧ (∀ i' r, i' < i → l[i']? = some r → ∀ p ∈ r.body, metB l o0 r p) ∧ ∀ r, l[i]? = some r → ∀ j' p, j' < j → r.body[j']? = some p → metB l o0 r p)
theorem Pass.start (l : List GR) (o : List Nat) : Pass l o o false 0 0   := ⟨fun h => (by cases h), fun _ => ⟨rfl, fun _ _ h => absurd h (Nat.not_lt_zero _), fun _ _ _ _ h => absurd h (Nat.not_lt_zero _)⟩⟩
theorem Pass.part {l : List GR} {o0 o : List Nat} {b : Bool} {i j : Nat} {r : GR} {p : GP} (h : Pass l o0 o b i j) (hr : l[i]? = some r) (hp : r.body[j]? = some p) (hm : metB l o r p) : Pass l o0 o b i (j + 1) := by
  refine ⟨h.1, fun hb => ?_⟩
  obtain ⟨rfl, h2, h3⟩ := h.2 hb
  refine ⟨rfl, h2, fun r' hr' j' p' hj hp' => ?_⟩
  have e : r' = r := Option.some.inj (hr'.symm.trans hr)
  subst e
  rcases Nat.lt_or_ge j' j with hlt | hge
  · exact h3 _ hr _ _ hlt hp'
  · have e : j' = j := by omega
    subst e
    have e2 : p' = p := Option.some.inj (hp'.symm.trans hp)
    subst e2
    exact hm
theorem Pass.moved {l : List GR} {o0 o : List Nat} {b : Bool} {i j own v : Nat} (h : Pass l o0 o b i j) (hown : own < o.length) (hv : at0 o own < v) : Pass l o0 (o.set own v) true i (j + 1) := by
  refine ⟨fun _ => ?_, fun hb => by cases hb⟩
  have h1 := sum_set hown hv
  cases b with
  | true => have := h.1 rfl; omega
  | false => obtain ⟨rfl, _⟩ := h.2 rfl; exact h1
theorem Pass.rule {l : List GR} {o0 o : List Nat} {b : Bool} {i j : Nat} {r : GR} (h : Pass l o0 o b i j) (hr : l[i]? = some r) (hj : r.body.length ≤ j) : Pass l o0 o b (i + 1) 0 := by
  refine ⟨h.1, fun hb => ?_⟩
  obtain ⟨rfl, h2, h3⟩ := h.2 hb
  refine ⟨rfl, fun i' r' hi hr' p hp => ?_, fun _ _ _ _ h => absurd h (Nat.not_lt_zero _)⟩
  rcases Nat.lt_or_ge i' i with hlt | hge
  · exact h2 _ _ hlt hr' p hp
  · have e : i' = i := by omega
    subst e
    obtain ⟨j', hj', rfl⟩ := List.getElem_of_mem hp
    have e : r' = r := Option.some.inj (hr'.symm.trans hr)
    subst e
    exact h3 _ hr j' _ (by omega) (List.getElem?_eq_getElem hj')
theorem Pass.done {l : List GR} {o0 o : List Nat} {i j : Nat} (h : Pass l o0 o false i j) (hi : l.length ≤ i) : o = o0 ∧ ∀ r ∈ l, ∀ p ∈ r.body, metB l o r p := by
  obtain ⟨rfl, h2, _⟩ := h.2 rfl
  refine ⟨rfl, fun r hr p hp => ?_⟩
  obtain ⟨k, hk, rfl⟩ := List.getElem_of_mem hr
  exact h2 k _ (by omega) (List.getElem?_eq_getElem hk) p hp

/-! ### Maps of names to numbers -/
/-- A map of n names that reads as f. -/
def MapN (w : World) (B n : Nat) (f : ByteArray → Option Nat) : Prop :=
  ∃ D : DataW Unit, w.ownsMap Tryz.prog 9 (plainElem Tryz.prog 3) B n D ∧ Maps.size D = n ∧
    ∀ s : ByteArray, Maps.has D (.string s.data.toList) = (f s).isSome ∧ D.atKey (.string s.data.toList) (.lit (.int .i64 0)) = .lit (.int .i64 (((f s).getD 0 : Nat) : Int))
theorem keyLaw : Go.Maps.Keyed Tryz.prog 9 := Go.Maps.string_keyed Tryz.underlying9
theorem zeroInt (w : World) : (zeroValue 3).run Tryz.prog w = .ok (.int .i64 0) w := by kernel_rfl
theorem MapN.made (w : World) : MapN (w.alloc (.map #[] 0)) w.heap.size 0 (fun _ => none) :=
  ⟨.map [], World.ownsMap_made _ _ _ _, rfl, fun _ => ⟨rfl, rfl⟩⟩
theorem MapN.alloc {w : World} {B n : Nat} {f : ByteArray → Option Nat} (h : MapN w B n f) (o : Obj) : MapN (w.alloc o) B n f := by
  obtain ⟨D, h1, h2⟩ := h; exact ⟨D, h1.alloc o, h2⟩
theorem MapN.lt {w : World} {B n : Nat} {f : ByteArray → Option Nat} (h : MapN w B n f) : B < w.heap.size := by
  obtain ⟨D, h1, h2⟩ := h; exact h1.lt
theorem MapN.drew {w : World} {B n : Nat} {f : ByteArray → Option Nat} (h : MapN w B n f) : MapN w.drew B n f := h
theorem MapN.setCell {w : World} {B n : Nat} {f : ByteArray → Option Nat} (h : MapN w B n f) {a : Addr} (ha : B ≠ a.block) (u : Value) : MapN (w.setCell a u) B n f := by
  obtain ⟨D, h1, h2⟩ := h; exact ⟨D, h1.setCell ha u, h2⟩
theorem MapN.ext {w w' : World} {B n : Nat} {f : ByteArray → Option Nat} (h : MapN w B n f) (hx : w'.heap[B]? = w.heap[B]?) : MapN w' B n f := by
  obtain ⟨D, ⟨es, clock, hb, r⟩, h2⟩ := h; exact ⟨D, ⟨es, clock, by rw [hx]; exact hb, r⟩, h2⟩
theorem MapN.same {w : World} {B n : Nat} {f g : ByteArray → Option Nat} (h : MapN w B n f) (e : ∀ x, f x = g x) : MapN w B n g := by
  rwa [show g = f from funext fun x => (e x).symm]
theorem str_ne {s x : ByteArray} (h : x ≠ s) : Lit.string x.data.toList ≠ Lit.string s.data.toList := fun e => by
  injection e with e
  exact h (by cases x; cases s; simpa using Array.toList_inj.1 e)
theorem MapN.put {w w' : World} {B n m v : Nat} {f : ByteArray → Option Nat} {s : ByteArray} {D : DataW Unit} (h : w.ownsMap Tryz.prog 9 (plainElem Tryz.prog 3) B n D) (hz : Maps.size D = n) (hf : ∀ s : ByteArray, Maps.has D (.string s.data.toList) = (f s).isSome ∧ D.atKey (.string s.data.toList) (.lit (.int .i64 0)) = .lit (.int .i64 (((f s).getD 0 : Nat) : Int)))
    (h1 : w'.ownsMap Tryz.prog 9 (plainElem Tryz.prog 3) B m (D.put (.string s.data.toList) (.lit (.int .i64 ((v : Nat) : Int))))) : MapN w' B (if (f s).isSome then n else n + 1) (fun x => if x = s then some v else f x) := by
  have hsz : Maps.size (D.put (.string s.data.toList) (.lit (.int .i64 ((v : Nat) : Int)))) = if (f s).isSome then n else n + 1 := by
    rw [Maps.size_put (h.tidy keyLaw), (hf s).1, hz]
  have h2 : w'.ownsMap Tryz.prog 9 (plainElem Tryz.prog 3) B (if (f s).isSome then n else n + 1) (D.put (.string s.data.toList) (.lit (.int .i64 ((v : Nat) : Int)))) := by
    obtain ⟨es, clock, hb, F, hs, e⟩ := h1
    refine ⟨es, clock, hb, F, ?_, e⟩
    rw [← hsz, e]
    simp [Maps.size, length_sorted]
  refine ⟨_, h2, hsz, fun x => ?_⟩
  by_cases e : x = s
  · subst e
    dsimp only
    rw [Maps.has_put_same h.isMap (by exact trivial), Maps.atKey_put_same h.isMap (by exact trivial), if_pos rfl]
    exact ⟨rfl, rfl⟩
  · dsimp only
    rw [Maps.has_put_other (str_ne e), Maps.atKey_put_other (str_ne e), if_neg e]
    exact hf x

section
variable (w : World) {ops : Array Oper} {rest : List Oper} {o : Oper} {a : Act} {Q : Exit → Act → World → Prop}
/-- v, ok := m[s] -/
theorem wpList_mapN_ok (hg : o.guard = none) (m x : Operand) (hop : o.op = Op.lookup 188 m x true) (B n : Nat) (f : ByteArray → Option Nat) (hm : a.eval m = .map (some B)) (hown : MapN w B n f) (s : ByteArray) (hx : a.eval x = .string s) (hs : s.size ≤ maxLen)
    (hK : wpList Tryz.prog ops Q rest (a.put o.dst (.tuple #[.int .i64 (((f s).getD 0 : Nat) : Int), .bool (f s).isSome])) w) : wpList Tryz.prog ops Q (o :: rest) a w := by
  obtain ⟨D, h1, h2, h3⟩ := hown
  refine wpList_lookup_own_ok_int w hg m x _ hop 9 3 .i64 keyLaw Tryz.underlying188 Tryz.underlying3 (zeroInt _) B n D hm h1 _ _ hx (Go.WideMaps.keyOf_string_mk Tryz.underlying9 hs) ?_
  intro c hat hwc
  have h4 := (h3 s).2.symm.trans hat
  have h5 : c = (((f s).getD 0 : Nat) : Int) := by
    injection h4 with h4; injection h4 with _ h4; exact h4.symm
  rw [(h3 s).1, h5]
  exact hK
/-- v := m[s] -/
theorem wpList_mapN (hg : o.guard = none) (m x : Operand) (hop : o.op = Op.lookup 188 m x false) (B n : Nat) (f : ByteArray → Option Nat) (hm : a.eval m = .map (some B)) (hown : MapN w B n f) (s : ByteArray) (hx : a.eval x = .string s) (hs : s.size ≤ maxLen)
    (hK : wpList Tryz.prog ops Q rest (a.put o.dst (.int .i64 (((f s).getD 0 : Nat) : Int))) w) : wpList Tryz.prog ops Q (o :: rest) a w := by
  obtain ⟨D, h1, h2, h3⟩ := hown
  refine wpList_lookup_own_int w hg m x _ hop 9 3 .i64 keyLaw Tryz.underlying188 Tryz.underlying3 (zeroInt _) B n D hm h1 _ _ hx (Go.WideMaps.keyOf_string_mk Tryz.underlying9 hs) ?_
  intro c hat hwc
  have h4 := (h3 s).2.symm.trans hat
  have h5 : c = (((f s).getD 0 : Nat) : Int) := by
    injection h4 with h4; injection h4 with _ h4; exact h4.symm
  rw [h5]
  exact hK
/-- m[s] = v -/
theorem wpList_mapN_put (hg : o.guard = none) (m x v : Operand) (hop : o.op = Op.mapUpdate 188 m x v) (B n : Nat) (f : ByteArray → Option Nat) (hm : a.eval m = .map (some B)) (hown : MapN w B n f) (hn : n ≤ 1000000) (s : ByteArray) (hx : a.eval x = .string s) (hs : s.size ≤ maxLen) (k : Nat) (hv : a.eval v = .int .i64 ((k : Nat) : Int)) (hk : k ≤ 1000000)
    (hK : ∀ w', MapN w' B (if (f s).isSome then n else n + 1) (fun x => if x = s then some k else f x) → w.grownBy w' (some B) → wpList Tryz.prog ops Q rest (a.put o.dst undef) w') : wpList Tryz.prog ops Q (o :: rest) a w := by
  obtain ⟨D, h1, h2, h3⟩ := hown
  refine wpList_mapUpdate_own w hg m x v _ hop 9 3 keyLaw Tryz.underlying188 _ B n D hm h1 (by unfold maxLen; omega) _ _ _ hx hv (Go.WideMaps.keyOf_string_mk Tryz.underlying9 hs) _ [] (plainElem_int Tryz.underlying3 (WalkArith.wf_i64 (by omega))) ?_
  intro w' h4 h5
  exact hK w' (MapN.put h1 h2 h3 h4) h5
/-- len(m) -/
theorem wpList_mapN_len (hg : o.guard = none) (m : Operand) (hop : o.op = Op.call { callee := Callee.builtin Builtin.len, args := #[m], argTypes := #[188] }) (B n : Nat) (f : ByteArray → Option Nat) (hm : a.eval m = .map (some B)) (hown : MapN w B n f)
    (hK : wpList Tryz.prog ops Q rest (a.put o.dst (.int .i64 ((n : Nat) : Int))) w) : wpList Tryz.prog ops Q (o :: rest) a w := by
  obtain ⟨D, h1, h2, h3⟩ := hown
  refine wpList_len_own w hg m _ hop 9 3 Tryz.underlying188 _ B n D hm h1 ?_
  rw [h2]
  exact hK
end

end Go.Proofs.YthndnkafckapnaaGreatDoor
