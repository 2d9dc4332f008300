/- Texts of the proof: RlP, HeadP, To, SpecF, SpecG, EvP, ParseP. -/
import Derived.Test.YtfjdijakgjhieaaGreatAskf05
import Derived.Maps.OwnSet
import Derived.Maps.OwnOps
import Derived.Maps.Views
import Derived.StringKeys
import Derived.Test.YtfjdijakgjhieaaGreatRows
import Derived.Test.YtfjdijakgjhieaaGreatAskf01
import Derived.Deep.RegionHeld3
import Derived.Test.YtfjdijakgjhieaaGreatAskf03
namespace Go.Proofs.YtfjdijakgjhieaaGreat
open Go.RowKit

/-! ### Lists -/
theorem nodup_len {α : Type} [DecidableEq α] : ∀ (a b : List α), a.Nodup → (∀ x ∈ a, x ∈ b) → a.length ≤ b.length
  | [], _, _, _ => Nat.zero_le _
  | x :: a, b, h, hs => by
    have hx := hs x (by simp)
    obtain ⟨h1, h2⟩ := List.nodup_cons.1 h
    have ih := nodup_len a (b.erase x) h2 (fun y hy => (List.mem_erase_of_ne (fun (e : y = x) => h1 (by rw [← e]; exact hy))).2 (hs y (List.mem_cons_of_mem _ hy)))
    have hl := List.length_erase_of_mem hx
    have hp : 0 < b.length := List.length_pos_of_mem hx
    simp only [List.length_cons]
    omega

/-! ### Atoms of rules, and how many terms a name has -/
/-! ### Loose variables -/
def varsOf (a : GA) : List ByteArray := (a.args.filter (·.v)).map (·.n)
def memS (x : ByteArray) (l : List ByteArray) : Bool := l.any fun y => decide (y = x)
theorem memS_iff {x : ByteArray} {l : List ByteArray} : memS x l = true ↔ x ∈ l := by
  unfold memS
  rw [List.any_eq_true]
  constructor
  · rintro ⟨y, hy, h⟩
    exact of_decide_eq_true h ▸ hy
  · intro h
    exact ⟨x, h, decide_eq_true rfl⟩
def boundIn (body : List GP) (x : ByteArray) : Bool := body.any fun p => !p.no && memS x (varsOf p.atom)
def ltS (a b : ByteArray) : Bool := decide (Lib.compareBytes a.data.toList b.data.toList < 0)
theorem ltS_irr (a : ByteArray) : ltS a a = false := by
  unfold ltS
  rw [(bytes_total.eq _ _).2 rfl]; rfl
theorem ltS_trans {a b c : ByteArray} (h : ltS a b = true) (k : ltS b c = true) : ltS a c = true := decide_eq_true (bytes_total.trans _ _ _ (of_decide_eq_true h) (of_decide_eq_true k))
theorem ltS_other {a b : ByteArray} (h : ltS a b = false) (hn : a ≠ b) : ltS b a = true := by
  have h1 : ¬ Lib.compareBytes a.data.toList b.data.toList < 0 := of_decide_eq_false h
  have h2 : Lib.compareBytes a.data.toList b.data.toList ≠ 0 := fun e => by
    have e2 := (bytes_total.eq _ _).1 e
    have e3 : a.data = b.data := by
      rw [← Array.toList_inj]; exact e2
    exact hn (by cases a; cases b; simp at e3; rw [e3])
  have h3 := bytes_total.neg b.data.toList a.data.toList
  exact decide_eq_true (by omega)
def putS : List ByteArray → ByteArray → List ByteArray
  | [], s => [s]
  | x :: l, s => if ltS x s = true then x :: putS l s else if x = s then x :: l else s :: x :: l
theorem putS_mem : ∀ {l : List ByteArray} {s x : ByteArray}, x ∈ putS l s ↔ x ∈ l ∨ x = s
  | [], s, x => by simp [putS]
  | y :: l, s, x => by
    have ih := putS_mem (l := l) (s := s) (x := x)
    unfold putS
    split
    · simp only [List.mem_cons, ih, or_assoc]
    · split
      · rename_i h; subst h; simp only [List.mem_cons]
        constructor
        · exact fun h => .inl h
        · rintro (h | h)
          · exact h
          · exact .inl h
      · simp only [List.mem_cons]
        constructor
        · rintro (h | h | h)
          · exact .inr h
          · exact .inl (.inl h)
          · exact .inl (.inr h)
        · rintro ((h | h) | h)
          · exact .inr (.inl h)
          · exact .inr (.inr h)
          · exact .inl h
def AscS (l : List ByteArray) : Prop := l.Pairwise fun a b => ltS a b = true
theorem AscS.put : ∀ {l : List ByteArray} {s : ByteArray}, AscS l → AscS (putS l s)
  | [], s, _ => by unfold putS; exact List.pairwise_singleton _ _
  | y :: l, s, h => by
    obtain ⟨h1, h2⟩ := List.pairwise_cons.1 h
    unfold putS
    split
    · rename_i hlt
      refine List.pairwise_cons.2 ⟨fun z hz => ?_, AscS.put h2⟩
      rcases putS_mem.1 hz with hz | rfl
      · exact h1 z hz
      · exact hlt
    · rename_i hlt
      split
      · exact h
      · rename_i hne
        have hsy := ltS_other (Bool.not_eq_true _ ▸ hlt) hne
        refine List.pairwise_cons.2 ⟨fun z hz => ?_, h⟩
        rcases List.mem_cons.1 hz with rfl | hz
        · exact hsy
        · exact ltS_trans hsy (h1 z hz)
theorem AscS.nodup {l : List ByteArray} (h : AscS l) : l.Nodup := by
  refine List.Pairwise.imp (fun {a b} hab => ?_) h
  intro e
  rw [e, ltS_irr] at hab
  cases hab
def varsPut (out : List ByteArray) (a : GA) : List ByteArray := (varsOf a).foldl putS out
theorem foldS_mem : ∀ {vs out : List ByteArray} {x : ByteArray}, x ∈ vs.foldl putS out ↔ x ∈ out ∨ x ∈ vs
  | [], out, x => by simp
  | v :: vs, out, x => by rw [List.foldl_cons, foldS_mem, putS_mem, List.mem_cons, or_assoc]
theorem foldS_asc : ∀ {vs out : List ByteArray}, AscS out → AscS (vs.foldl putS out)
  | [], _, h => h
  | v :: vs, out, h => by rw [List.foldl_cons]; exact foldS_asc h.put
theorem all_fold : ∀ (ps : List GP) (o : List ByteArray), AscS o → AscS (ps.foldl (fun o p => varsPut o p.atom) o) ∧ ∀ x, x ∈ ps.foldl (fun o p => varsPut o p.atom) o ↔ x ∈ o ∨ ∃ p ∈ ps, x ∈ varsOf p.atom
  | [], o, h => ⟨h, fun x => by simp⟩
  | p :: ps, o, h => by
    obtain ⟨h1, h2⟩ := all_fold ps (varsPut o p.atom) (foldS_asc h)
    refine ⟨h1, fun x => ?_⟩
    rw [List.foldl_cons, h2, varsPut, foldS_mem, or_assoc]
    simp [or_and_right, exists_or]
/-! ### Strata -/
def one (b : Bool) : Nat := if b then 1 else 0
def dep (l : List GR) (f : ByteArray → Nat) : Prop := ∀ r ∈ l, ∀ p ∈ r.body, (∃ r' ∈ l, r'.head.n = p.atom.n) → f p.atom.n + one p.no ≤ f r.head.n
def Strat (l : List GR) : Prop := ∃ f, dep l f
def rankIn (hs : List ByteArray) (f : ByteArray → Nat) (x : ByteArray) : Nat := ((List.range (f x)).filter fun v => decide (v ∈ hs.map f)).length
theorem rank_mono {hs : List ByteArray} {f : ByteArray → Nat} {x y : ByteArray} (h : f x ≤ f y) : rankIn hs f x ≤ rankIn hs f y :=
  ((List.range_sublist.2 h).filter _).length_le
theorem rank_lt {hs : List ByteArray} {f : ByteArray → Nat} {x y : ByteArray} (hx : x ∈ hs) (h : f x < f y) : rankIn hs f x + 1 ≤ rankIn hs f y := by
  have h1 := ((List.range_sublist.2 (show f x + 1 ≤ f y from h)).filter (fun v => decide (v ∈ hs.map f))).length_le
  rw [List.range_succ, List.filter_append, List.length_append] at h1
  have h2 : ([f x].filter fun v => decide (v ∈ hs.map f)).length = 1 := by
    rw [List.filter_cons_of_pos (by simpa using ⟨x, hx, rfl⟩)]; rfl
  unfold rankIn
  omega
theorem rank_bound {hs : List ByteArray} {f : ByteArray → Nat} {x : ByteArray} (hx : x ∈ hs) : rankIn hs f x < hs.length := by
  have h := nodup_len (f x :: (List.range (f x)).filter fun v => decide (v ∈ hs.map f)) (hs.map f) (List.nodup_cons.2 ⟨fun hm => by
      have := (List.mem_filter.1 hm).1
      rw [List.mem_range] at this; omega, List.nodup_range.filter _⟩) (fun y hy => by
      rcases List.mem_cons.1 hy with rfl | hy
      · exact List.mem_map_of_mem hx
      · exact of_decide_eq_true (List.mem_filter.1 hy).2)
  simp only [List.length_cons, List.length_map] at h
  unfold rankIn
  omega
/-- Strata that are as few as there are names. -/
theorem strat_few {l : List GR} {hs : List ByteArray} (hh : ∀ r ∈ l, r.head.n ∈ hs) (h : Strat l) : ∃ f, dep l f ∧ ∀ x ∈ hs, f x < hs.length := by
  obtain ⟨f, hf⟩ := h
  refine ⟨rankIn hs f, fun r hr p hp he => ?_, fun x hx => rank_bound hx⟩
  have h1 := hf r hr p hp he
  obtain ⟨r', hr', e⟩ := he
  have hm : p.atom.n ∈ hs := e ▸ hh r' hr'
  unfold one at h1 ⊢
  cases hn : p.no with
  | true =>
    rw [hn] at h1
    have h2 : f p.atom.n + 1 ≤ f r.head.n := h1
    exact rank_lt hm h2
  | false =>
    rw [hn] at h1
    exact rank_mono (by simpa using h1)

/-! #### as the reference works them out -/
def at0 (o : List Nat) (i : Nat) : Nat := o.getD i 0
/-- Nothing falls. -/
def Up (o o' : List Nat) : Prop := o'.length = o.length ∧ ∀ i, at0 o i ≤ at0 o' i
theorem Up.refl (o : List Nat) : Up o o := ⟨rfl, fun _ => Nat.le_refl _⟩
theorem Up.trans {a b c : List Nat} (h : Up a b) (k : Up b c) : Up a c := ⟨k.1.trans h.1, fun i => Nat.le_trans (h.2 i) (k.2 i)⟩
theorem at0_set {o : List Nat} {i j v : Nat} (h : i < o.length) : at0 (o.set i v) j = if i = j then v else at0 o j := by
  unfold at0
  rw [List.getD_eq_getElem?_getD, List.getD_eq_getElem?_getD, List.getElem?_set]
  by_cases e : i = j
  · subst e; simp [h]
  · simp [e]
theorem Up.set {o : List Nat} {i v : Nat} (h : at0 o i ≤ v) : Up o (o.set i v) := by
  refine ⟨List.length_set, fun j => ?_⟩
  by_cases hi : i < o.length
  · rw [at0_set hi]
    split
    · rename_i e; subst e; exact h
    · exact Nat.le_refl _
  · rw [List.set_eq_of_length_le (by omega)]; exact Nat.le_refl _
/-- No more than strata allow. -/
def Under (l : List GR) (f : ByteArray → Nat) (o : List Nat) : Prop := o.length = l.length ∧ ∀ i a, l[i]? = some a → at0 o i ≤ f a.head.n
theorem Under.set {l : List GR} {f : ByteArray → Nat} {o : List Nat} {i v : Nat} {a : GR} (h : Under l f o) (ha : l[i]? = some a) (hv : v ≤ f a.head.n) : Under l f (o.set i v) := by
  refine ⟨List.length_set.trans h.1, fun j b hb => ?_⟩
  have hi := (List.getElem?_eq_some_iff.1 ha).1
  rw [at0_set (by rw [h.1]; exact hi)]
  split
  · rename_i e; subst e
    rw [ha] at hb; injection hb with hb; subst hb; exact hv
  · exact h.2 j b hb
open Classical in
noncomputable def cycleB (l : List GR) : Bool := decide (¬ Strat l)
end Go.Proofs.YtfjdijakgjhieaaGreat

namespace Go.Proofs.YtfjdijakgjhieaaGreat
open Go.RowKit

/-! ### The places of names -/
def idxB : List ByteArray → ByteArray → Option Nat
  | [], _ => none
  | y :: l, x => if y = x then some 0 else (idxB l x).map (· + 1)
theorem idxB_some : ∀ {l : List ByteArray} {x : ByteArray} {i : Nat}, idxB l x = some i → l[i]? = some x
  | y :: l, x, i, h => by
    unfold idxB at h
    split at h
    · rename_i e; injection h with h; subst h; rw [e]; rfl
    · cases hi : idxB l x with
      | none => rw [hi] at h; cases h
      | some j =>
        rw [hi] at h; injection h with h; subst h
        rw [List.getElem?_cons_succ]; exact idxB_some hi
theorem idxB_lt {l : List ByteArray} {x : ByteArray} {i : Nat} (h : idxB l x = some i) : i < l.length := (List.getElem?_eq_some_iff.1 (idxB_some h)).1
theorem idxB_inj {l : List ByteArray} {x y : ByteArray} {i : Nat} (h : idxB l x = some i) (k : idxB l y = some i) : x = y := by
  have h1 := idxB_some h
  rw [idxB_some k] at h1
  injection h1 with h1; exact h1.symm
theorem idxB_mem : ∀ {l : List ByteArray} {x : ByteArray}, x ∈ l → ∃ i, idxB l x = some i
  | y :: l, x, h => by
    unfold idxB
    by_cases e : y = x
    · exact ⟨0, by rw [if_pos e]⟩
    · rcases List.mem_cons.1 h with h | h
      · exact absurd h.symm e
      · obtain ⟨i, hi⟩ := idxB_mem h
        exact ⟨i + 1, by rw [if_neg e, hi]; rfl⟩
theorem idxB_snoc : ∀ (l : List ByteArray) (y x : ByteArray), idxB (l ++ [y]) x = match idxB l x with | some i => some i | none => if y = x then some l.length else none
  | [], y, x => by simp [idxB]
  | z :: l, y, x => by
    simp only [List.cons_append, idxB, idxB_snoc l y x]
    by_cases e : z = x
    · simp [e]
    · simp only [if_neg e]
      cases idxB l x with
      | some i => rfl
      | none =>
        by_cases e2 : y = x
        · simp [e2]
        · simp [e2]

def headsL : List GR → List ByteArray → List ByteArray
  | [], hs => hs
  | r :: l, hs => headsL l (if (idxB hs r.head.n).isSome then hs else hs ++ [r.head.n])
def heads (l : List GR) : List ByteArray := headsL l []
theorem headsL_mem : ∀ {l : List GR} {hs : List ByteArray} {x : ByteArray}, x ∈ headsL l hs ↔ x ∈ hs ∨ ∃ r ∈ l, r.head.n = x
  | [], hs, x => by simp [headsL]
  | y :: l, hs, x => by
    simp only [headsL]
    rw [headsL_mem]
    by_cases e : (idxB hs y.head.n).isSome
    · rw [if_pos e]
      obtain ⟨i, hi⟩ := Option.isSome_iff_exists.1 e
      have hm : y.head.n ∈ hs := List.mem_of_getElem? (idxB_some hi)
      constructor
      · rintro (h | ⟨r, hr, h⟩)
        · exact .inl h
        · exact .inr ⟨r, List.mem_cons_of_mem _ hr, h⟩
      · rintro (h | ⟨r, hr, h⟩)
        · exact .inl h
        · rcases List.mem_cons.1 hr with rfl | hr
          · exact .inl (h ▸ hm)
          · exact .inr ⟨r, hr, h⟩
    · rw [if_neg e]
      constructor
      · rintro (h | ⟨r, hr, h⟩)
        · rcases List.mem_append.1 h with h | h
          · exact .inl h
          · exact .inr ⟨y, by simp, (List.mem_singleton.1 h).symm⟩
        · exact .inr ⟨r, List.mem_cons_of_mem _ hr, h⟩
      · rintro (h | ⟨r, hr, h⟩)
        · exact .inl (List.mem_append_left _ h)
        · rcases List.mem_cons.1 hr with rfl | hr
          · exact .inl (List.mem_append_right _ (by simp [h]))
          · exact .inr ⟨r, hr, h⟩
theorem heads_mem {l : List GR} {x : ByteArray} : x ∈ heads l ↔ ∃ r ∈ l, r.head.n = x := by
  unfold heads
  rw [headsL_mem]; simp

/-! ### Levels by places -/
/-- No stratum that is under way is too great. -/
def Low (l : List GR) (o : List Nat) : Prop := o.length = (heads l).length ∧ (∀ i, i < o.length → at0 o i < o.length) ∧ ∀ f : ByteArray → Nat, dep l f → (∀ x ∈ heads l, f x < (heads l).length) → ∀ x i, idxB (heads l) x = some i → at0 o i ≤ f x
theorem Low.least {l : List GR} {o : List Nat} (h : Low l o) {f : ByteArray → Nat} (hd : dep l f) (hb : ∀ x ∈ heads l, f x < (heads l).length) {r : GR} {p : GP} (hr : r ∈ l) (hp : p ∈ r.body) {j : Nat} (hj : idxB (heads l) p.atom.n = some j) : at0 o j + one p.no ≤ f r.head.n := by
  have h1 := h.2.2 f hd hb _ _ hj
  have h2 := hd r hr p hp (heads_mem.1 (List.mem_of_getElem? (idxB_some hj)))
  omega
theorem Low.set {l : List GR} {o : List Nat} (h : Low l o) {r : GR} {p : GP} (hr : r ∈ l) (hp : p ∈ r.body) {j own : Nat} (hj : idxB (heads l) p.atom.n = some j) (ho : idxB (heads l) r.head.n = some own) (hlt : at0 o j + one p.no < (heads l).length) : Low l (o.set own (at0 o j + one p.no)) := by
  have hown : own < o.length := by rw [h.1]; exact idxB_lt ho
  refine ⟨List.length_set.trans h.1, fun i hi => ?_, fun f hd hb x i hx => ?_⟩
  · rw [List.length_set] at hi ⊢
    rw [at0_set hown]
    split
    · rw [h.1]; exact hlt
    · exact h.2.1 i hi
  · rw [at0_set hown]
    split
    · rename_i e
      subst e
      have := idxB_inj hx ho
      subst this
      exact h.least hd hb hr hp hj
    · exact h.2.2 f hd hb x i hx
open Classical in
/-- A level that would be as great as there are names: there are no strata. -/
theorem Low.cycle {l : List GR} {o : List Nat} (h : Low l o) {r : GR} {p : GP} (hr : r ∈ l) (hp : p ∈ r.body) {j : Nat} (hj : idxB (heads l) p.atom.n = some j) (hge : (heads l).length ≤ at0 o j + one p.no) : cycleB l = true := by
  unfold cycleB
  refine decide_eq_true fun hs => ?_
  obtain ⟨f, hd, hb⟩ := strat_few (hs := heads l) (fun r hr => heads_mem.2 ⟨r, hr, rfl⟩) hs
  have h1 := h.least hd hb hr hp hj
  have h2 := hb _ (heads_mem.2 ⟨r, hr, rfl⟩)
  omega
/-- What a part asks of the levels. -/
def metB (l : List GR) (o : List Nat) (r : GR) (p : GP) : Prop := ∀ j own, idxB (heads l) p.atom.n = some j → idxB (heads l) r.head.n = some own → at0 o j + one p.no ≤ at0 o own
open Classical in
theorem met_strat {l : List GR} {o : List Nat} (h : ∀ r ∈ l, ∀ p ∈ r.body, metB l o r p) : cycleB l = false := by
  unfold cycleB
  refine decide_eq_false fun hn => hn ⟨fun x => match idxB (heads l) x with | some i => at0 o i | none => 0, fun r hr p hp he => ?_⟩
  obtain ⟨own, ho⟩ := idxB_mem (heads_mem.2 ⟨r, hr, rfl⟩)
  obtain ⟨j, hj⟩ := idxB_mem (heads_mem.2 he)
  have := h r hr p hp j own hj ho
  simp only [hj, ho]
  exact this
/-! ### One pass of the program over rules -/
/-- From o0 the pass came to o, at part j of rule i; b: has something moved? -/
def Pass (l : List GR) (o0 o : List Nat) (b : Bool) (i j : Nat) : Prop :=
  (b = true → o0.sum < o.sum) ∧ (b = false → o = o0 ∧ (∀ i' r, i' < i → l[i']? = some r → ∀ p ∈ r.body, metB l o0 r p) ∧ ∀ r, l[i]? = some r → ∀ j' p, j' < j → r.body[j']? = some p → metB l o0 r p)
theorem Pass.part {l : List GR} {o0 o : List Nat} {b : Bool} {i j : Nat} {r : GR} {p : GP} (h : Pass l o0 o b i j) (hr : l[i]? = some r) (hp : r.body[j]? = some p) (hm : metB l o r p) : Pass l o0 o b i (j + 1) := by
  refine ⟨h.1, fun hb => ?_⟩
  obtain ⟨rfl, h2, h3⟩ := h.2 hb
  refine ⟨rfl, h2, fun r' hr' j' p' hj hp' => ?_⟩
  have e : r' = r := Option.some.inj (hr'.symm.trans hr)
  subst e
  rcases Nat.lt_or_ge j' j with hlt | hge
  · exact h3 _ hr _ _ hlt hp'
  · have e : j' = j := by omega
    subst e
    have e2 : p' = p := Option.some.inj (hp'.symm.trans hp)
    subst e2
    exact hm
theorem Pass.done {l : List GR} {o0 o : List Nat} {i j : Nat} (h : Pass l o0 o false i j) (hi : l.length ≤ i) : o = o0 ∧ ∀ r ∈ l, ∀ p ∈ r.body, metB l o r p := by
  obtain ⟨rfl, h2, _⟩ := h.2 rfl
  refine ⟨rfl, fun r hr p hp => ?_⟩
  obtain ⟨k, hk, rfl⟩ := List.getElem_of_mem hr
  exact h2 k _ (by omega) (List.getElem?_eq_getElem hk) p hp

/-! ### Maps of names to numbers -/
/-- A map of n names that reads as f. -/
def MapN (w : World) (B n : Nat) (f : ByteArray → Option Nat) : Prop :=
  ∃ D : DataW Unit, w.ownsMap Tryz.prog 9 (plainElem Tryz.prog 3) B n D ∧ Maps.size D = n ∧
    ∀ s : ByteArray, Maps.has D (.string s.data.toList) = (f s).isSome ∧ D.atKey (.string s.data.toList) (.lit (.int .i64 0)) = .lit (.int .i64 (((f s).getD 0 : Nat) : Int))
theorem keyLaw : Go.Maps.Keyed Tryz.prog 9 := Go.Maps.string_keyed Tryz.underlying9
theorem zeroInt (w : World) : (zeroValue 3).run Tryz.prog w = .ok (.int .i64 0) w := by kernel_rfl
theorem MapN.made (w : World) : MapN (w.alloc (.map #[] 0)) w.heap.size 0 (fun _ => none) :=
  ⟨.map [], World.ownsMap_made _ _ _ _, rfl, fun _ => ⟨rfl, rfl⟩⟩
theorem MapN.alloc {w : World} {B n : Nat} {f : ByteArray → Option Nat} (h : MapN w B n f) (o : Obj) : MapN (w.alloc o) B n f := by
  obtain ⟨D, h1, h2⟩ := h; exact ⟨D, h1.alloc o, h2⟩
theorem MapN.lt {w : World} {B n : Nat} {f : ByteArray → Option Nat} (h : MapN w B n f) : B < w.heap.size := by
  obtain ⟨D, h1, h2⟩ := h; exact h1.lt
theorem MapN.drew {w : World} {B n : Nat} {f : ByteArray → Option Nat} (h : MapN w B n f) : MapN w.drew B n f := h
theorem MapN.setCell {w : World} {B n : Nat} {f : ByteArray → Option Nat} (h : MapN w B n f) {a : Addr} (ha : B ≠ a.block) (u : Value) : MapN (w.setCell a u) B n f := by
  obtain ⟨D, h1, h2⟩ := h; exact ⟨D, h1.setCell ha u, h2⟩
theorem MapN.ext {w w' : World} {B n : Nat} {f : ByteArray → Option Nat} (h : MapN w B n f) (hx : w'.heap[B]? = w.heap[B]?) : MapN w' B n f := by
  obtain ⟨D, ⟨es, clock, hb, r⟩, h2⟩ := h; exact ⟨D, ⟨es, clock, by rw [hx]; exact hb, r⟩, h2⟩
theorem MapN.same {w : World} {B n : Nat} {f g : ByteArray → Option Nat} (h : MapN w B n f) (e : ∀ x, f x = g x) : MapN w B n g := by
  rwa [show g = f from funext fun x => (e x).symm]
theorem str_ne {s x : ByteArray} (h : x ≠ s) : Lit.string x.data.toList ≠ Lit.string s.data.toList := fun e => by
  injection e with e
  exact h (by cases x; cases s; simpa using Array.toList_inj.1 e)
theorem MapN.put {w w' : World} {B n m v : Nat} {f : ByteArray → Option Nat} {s : ByteArray} {D : DataW Unit} (h : w.ownsMap Tryz.prog 9 (plainElem Tryz.prog 3) B n D) (hz : Maps.size D = n) (hf : ∀ s : ByteArray, Maps.has D (.string s.data.toList) = (f s).isSome ∧ D.atKey (.string s.data.toList) (.lit (.int .i64 0)) = .lit (.int .i64 (((f s).getD 0 : Nat) : Int)))
    (h1 : w'.ownsMap Tryz.prog 9 (plainElem Tryz.prog 3) B m (D.put (.string s.data.toList) (.lit (.int .i64 ((v : Nat) : Int))))) : MapN w' B (if (f s).isSome then n else n + 1) (fun x => if x = s then some v else f x) := by
  have hsz : Maps.size (D.put (.string s.data.toList) (.lit (.int .i64 ((v : Nat) : Int)))) = if (f s).isSome then n else n + 1 := by
    rw [Maps.size_put (h.tidy keyLaw), (hf s).1, hz]
  have h2 : w'.ownsMap Tryz.prog 9 (plainElem Tryz.prog 3) B (if (f s).isSome then n else n + 1) (D.put (.string s.data.toList) (.lit (.int .i64 ((v : Nat) : Int)))) := by
    obtain ⟨es, clock, hb, F, hs, e⟩ := h1
    refine ⟨es, clock, hb, F, ?_, e⟩
    rw [← hsz, e]
    simp [Maps.size, length_sorted]
  refine ⟨_, h2, hsz, fun x => ?_⟩
  by_cases e : x = s
  · subst e
    dsimp only
    rw [Maps.has_put_same h.isMap (by exact trivial), Maps.atKey_put_same h.isMap (by exact trivial), if_pos rfl]
    exact ⟨rfl, rfl⟩
  · dsimp only
    rw [Maps.has_put_other (str_ne e), Maps.atKey_put_other (str_ne e), if_neg e]
    exact hf x

section
variable (w : World) {ops : Array Oper} {rest : List Oper} {o : Oper} {a : Act} {Q : Exit → Act → World → Prop}
end

end Go.Proofs.YtfjdijakgjhieaaGreat

namespace Go.Proofs.YtfjdijakgjhieaaGreat
open Go.RowKit

theorem term_info : (Tryz.prog.info? 33).map (fun i => (i.zero, i.size, i.bytes)) = some (some (.agg #[.bool false, .string ByteArray.empty]), 2, 24) := by kernel_rfl

theorem atom_info : (Tryz.prog.info? 26).map (fun i => (i.zero, i.size, i.bytes)) = some (some (.agg #[.string ByteArray.empty, .slice none 0 0]), 2, 40) := by kernel_rfl

end Go.Proofs.YtfjdijakgjhieaaGreat

namespace Go.Proofs.YtfjdijakgjhieaaGreat
open Go.RowKit

end Go.Proofs.YtfjdijakgjhieaaGreat

namespace Go.Proofs.YtfjdijakgjhieaaGreat
open Go.RowKit

/-- Facts with one more. -/
def putA (xs : List GA) (a : GA) : List GA := if hasA xs a = true then xs else xs.take (placeA xs a) ++ [a] ++ xs.drop (placeA xs a)
theorem placeA_le (xs : List GA) (a : GA) : placeA xs a ≤ xs.length := by unfold placeA; exact (List.takeWhile_sublist _).length_le

set_option maxRecDepth 100000 in
set_option maxHeartbeats 4000000 in
theorem l3Put_own (v u : Value) (xs : List GA) (a : GA) (w : World) {S T : Nat → Prop} (hv : AtomsR S w v xs) (hu : TermsR T w u a.args) (hs : a.n.size ≤ maxLen) (hn : xs.length ≤ 4194304) :
    Calls Tryz.prog 93 #[v, .agg #[.string a.n, u]] w fun e w' => (∃ v', e = .returned v' ∧ (OwnK kAtom w.heap.size 26 (fun b => S b ∨ T b) w' v' (putA xs a) ∨ (v' = v ∧ putA xs a = xs))) ∧ Ext w w' := by
  obtain ⟨A, c, rfl, hc1, hc2⟩ := SliceR.form hv
  obtain ⟨B, d, rfl, hd1, hd2⟩ := SliceR.form hu
  obtain ⟨i0, hi0, hz0, hz1, hz2⟩ := info_parts atom_info
  have HB := Lib.hid (Blk.new w 26 #[.string a.n, .slice B a.args.length d])
  have HV := Lib.hid (hv.ext ((Ext.refl w).alloc (.cells #[.string a.n, .slice B a.args.length d] 26)))
  have HU := Lib.hid (hu.ext ((Ext.refl w).alloc (.cells #[.string a.n, .slice B a.args.length d] 26)))
  clear hv hu
  cases hh : hasA xs a
  · have HP := Lib.hid (show putA xs a = xs.take (placeA xs a) ++ [a] ++ xs.drop (placeA xs a) from by unfold putA; rw [hh]; rfl)
    have H2 := Lib.hid hh
    have hpl := placeA_le xs a
    obtain ⟨k, hk⟩ : ∃ k, k = placeA xs a := ⟨_, rfl⟩
    rw [← hk] at hpl HP
    have HK := Lib.hid hk
    have HC := Lib.hid (show ∀ W, Ext (w.alloc (.cells #[.string a.n, .slice B a.args.length d] 26)) W → Calls Tryz.prog 78 #[.slice A xs.length c, .agg #[.string a.n, .slice B a.args.length d]] W fun e w' => e = .returned (.tuple #[.int .i64 k, .bool false]) ∧ Ext W w' from fun W hW =>
      (l3At_any _ _ xs a W (HV.out.ext hW) (HU.out.ext hW)).mono fun e w' ⟨h1, h2⟩ => ⟨by rw [h1, H2.out, HK.out], h2⟩)
    have hk0 : (0 : Int) ≤ (k : Int) := by omega
    have hk1 : (k : Int) ≤ (c : Int) := by omega
    have hk2 : (k : Int) ≤ (xs.length : Int) := by omega
    clear hh hk
    go_enter Tryz.func93, Tryz.ntmps93
    go_wp2_with (go_at_call 78; refine (HC.out _ (Ext.refl _)).mono ?_; rintro e w1 ⟨rfl, hx1⟩; have hb1 := HB.out.ext hx1; have q0 := hb1.cell 0; have q1 := hb1.cell 1; have hl1 := hb1.lt)
    have HX1 := Lib.hid (((Ext.refl w).alloc (.cells #[.string a.n, .slice B a.args.length d] 26)).trans' hx1)
    have HB1 := Lib.hid hb1
    have HE1 := Lib.hid (show ∀ W, Ext w1 W → ElemsK kAtom (fun b => (S b ∨ T b) ∧ b < w1.heap.size) W (.slice A k c) (xs.take k) from fun W hW =>
      ElemsK.ext (((ListK.elems (k := kAtom) (SliceR.fst (HV.out.ext hx1) k hpl)).sub (fun b hb hlt => ⟨.inl hb, hlt⟩))) hW)
    have HE2 := Lib.hid (show ∀ W, Ext w1 W → kAtom.E (fun b => (S b ∨ T b) ∧ b < w1.heap.size) W [.string a.n, .slice B a.args.length d] a from fun W hW =>
      ⟨_, rfl, hs, (TermsR.impL (w := w1) (HU.out.ext hx1) (fun b hb hlt => ⟨.inr hb, hlt⟩) (Agree.of_ext hW) hW.size)⟩)
    have HE3 := Lib.hid (show ∀ W, Ext w1 W → ElemsK kAtom (fun b => (S b ∨ T b) ∧ b < w1.heap.size) W (.slice (if c = k then A else A.map (·.add (k * 2))) (xs.length - k) (c - k)) (xs.drop k) from fun W hW =>
      ElemsK.ext (((ListK.elems (k := kAtom) (SliceR.drop (HV.out.ext hx1) k hpl)).sub (fun b hb hlt => ⟨.inl hb, hlt⟩))) hW)
    have hlk : (xs.take k).length = k := by rw [List.length_take]; omega
    have HLK := Lib.hid hlk
    clear hx1 hb1 hlk
    go_region_held3 (fun w' => w'.cell? ⟨w.heap.size, 0, none⟩ = some (.string a.n) ∧ w'.cell? ⟨w.heap.size, 1, none⟩ = some (.slice B a.args.length d))
      (first | exact ⟨(HB1.out.ext HX4.out).cell 0, (HB1.out.ext HX4.out).cell 1⟩ | exact ⟨(HB1.out.ext HX3.out).cell 0, (HB1.out.ext HX3.out).cell 1⟩ | exact ⟨(HB1.out.ext HX2.out).cell 0, (HB1.out.ext HX2.out).cell 1⟩ | go_keep)
      (first
        | (refine step_appL (o := ⟨some 19, _, _, _, _, _⟩) (k := kAtom) (S := fun b => (S b ∨ T b) ∧ b < w1.heap.size) (T := fun b => (S b ∨ T b) ∧ b < w1.heap.size) (base := w1.heap.size) (v := .slice (some ⟨_, 0, none⟩) 0 0) (xs := []) (ys := xs.take k) (by rfl) (.tmp 15) (.tmp 18) 23 (by rfl) i0 _ 40 Tryz.underlying23 hi0 hz0 hz1 hz2 (by rfl) (by rfl)
            (by first | exact OwnK.drew (OwnK.empty rfl (Nat.le_refl _)) | exact OwnK.drew (OwnK.alloc (OwnK.empty rfl (Nat.le_refl _)) _) | exact OwnK.drew (OwnK.empty (w := w1.alloc _) (by simp) (by simp))) A k c (by rfl) (HE1.out _ (by first | exact Ext.drew (Ext.alloc (Ext.refl _) _) | exact Ext.drew (Ext.alloc (Ext.alloc (Ext.refl _) _) _))) (fun b hb => ⟨hb, hb.2⟩) (maxOf (by simp; omega)) (by simp; omega) (by go_size) ?_
           intro v1 w2 hap1; obtain ⟨A1, n1, c1, rfl, hn1, hd11, hd12⟩ := hap1.own.form2; have HX2 := Lib.hid (hap1.toExt (w0 := w1) (by first | exact Ext.drew (Ext.alloc (Ext.refl _) _) | exact Ext.drew (Ext.alloc (Ext.alloc (Ext.refl _) _) _)) (Nat.le_refl _)); have HA1 := Lib.hid hap1; clear hap1)
        | (refine step_appL (o := ⟨some 22, _, _, _, _, _⟩) (k := kAtom) (S := fun b => (S b ∨ T b) ∧ b < w1.heap.size) (T := fun b => (S b ∨ T b) ∧ b < w1.heap.size) (base := w1.heap.size) (xs := [] ++ xs.take k) (ys := [a]) (by rfl) (.tmp 19) (.tmp 21) 23 (by rfl) i0 _ 40 Tryz.underlying23 hi0 hz0 hz1 hz2 (by rfl) (by rfl)
            (by first | exact HA1.out.own | exact OwnK.alloc HA1.out.own _) _ 1 1 (by rfl) (ElemsK.one (k := kAtom) (x := a) (by first | exact Blk.at_new rfl | exact HA1.out.blk2 (Blk.drew (Blk.at_new (w := w1.alloc _) (by simp))) (by simp [Value.ownBlock]) | exact HA1.out.blk2 (Blk.drew (Blk.alloc (Blk.at_new rfl) _)) (by simp [Value.ownBlock])) (HE2.out _ (by first | exact HX2.out | exact Ext.alloc HX2.out _))) (fun b hb => ⟨hb, hb.2⟩) (maxOf (by simp; omega)) (by simp; omega) (by have := HX2.out.size; go_size) ?_
           intro v2 w3 hap2; obtain ⟨A2, n2, c2, rfl, hn2, hd21, hd22⟩ := hap2.own.form2; have HX3 := Lib.hid (hap2.toExt (w0 := w1) (by first | exact HX2.out | exact Ext.alloc HX2.out _) (Nat.le_refl _)); have HA2 := Lib.hid hap2; clear hap2)
        | (refine step_appL (o := ⟨some 26, _, _, _, _, _⟩) (k := kAtom) (S := fun b => (S b ∨ T b) ∧ b < w1.heap.size) (T := fun b => (S b ∨ T b) ∧ b < w1.heap.size) (base := w1.heap.size) (xs := ([] ++ xs.take k) ++ [a]) (ys := xs.drop k) (by rfl) (.tmp 22) (.tmp 25) 23 (by rfl) i0 _ 40 Tryz.underlying23 hi0 hz0 hz1 hz2 (by rfl) (by rfl)
            (by exact HA2.out.own) _ _ _ (by rfl) (HE3.out _ HX3.out) (fun b hb => ⟨hb, hb.2⟩) (maxOf (by simp; omega)) (by simp; omega) (by have := HX3.out.size; go_size) ?_
           intro v3 w4 hap3; obtain ⟨A3, n3, c3, rfl, hn3, hd31, hd32⟩ := hap3.own.form2; have HX4 := Lib.hid (hap3.toExt (w0 := w1) HX3.out (Nat.le_refl _)); have HA3 := Lib.hid hap3; clear hap3))
    all_goals go_wp2
    all_goals
      go_ret
      refine ⟨⟨_, rfl, ?_⟩, HX1.out.trans' HX4.out⟩
      rw [HP.out]
      have h := HA3.out.own.sub (base' := w.heap.size) (S' := fun b => S b ∨ T b) (Nat.le_of_lt hl1) (fun b hb => hb.1)
      simp only [List.nil_append] at h
      exact .inl h
  · have HP := Lib.hid (show putA xs a = xs from by unfold putA; rw [if_pos hh])
    have H2 := Lib.hid hh
    obtain ⟨k, hk⟩ : ∃ k, k = placeA xs a := ⟨_, rfl⟩
    have HK := Lib.hid hk
    have HC := Lib.hid (show Calls Tryz.prog 78 #[.slice A xs.length c, .agg #[.string a.n, .slice B a.args.length d]] (w.alloc (.cells #[.string a.n, .slice B a.args.length d] 26)) fun e w' => e = .returned (.tuple #[.int .i64 k, .bool true]) ∧ Ext (w.alloc (.cells #[.string a.n, .slice B a.args.length d] 26)) w' from
      (l3At_any _ _ xs a _ HV.out HU.out).mono fun e w' ⟨h1, h2⟩ => ⟨by rw [h1, H2.out, HK.out], h2⟩)
    clear hh hk
    go_enter Tryz.func93, Tryz.ntmps93
    go_wp2_with (go_at_call 78; refine HC.out.mono ?_; rintro e w1 ⟨rfl, hx1⟩)
    go_ret
    exact ⟨⟨_, rfl, .inr ⟨rfl, HP.out⟩⟩, ((Ext.refl _).alloc _).trans' hx1⟩

theorem l3Put_any (v u : Value) (xs : List GA) (a : GA) (w : World) {S T : Nat → Prop} (hv : AtomsR S w v xs) (hu : TermsR T w u a.args) (hs : a.n.size ≤ maxLen) (hn : xs.length ≤ 4194304) :
    Calls Tryz.prog 93 #[v, .agg #[.string a.n, u]] w fun e w' => (∃ v', e = .returned v' ∧ AtomsR (fun b => w.heap.size ≤ b ∨ S b ∨ T b) w' v' (putA xs a)) ∧ Ext w w' :=
  (l3Put_own v u xs a w hv hu hs hn).mono fun e w' ⟨⟨v', h1, h2⟩, hx⟩ => ⟨⟨v', h1, by
    rcases h2 with h2 | ⟨rfl, h2⟩
    · exact h2.list (S' := fun b => w.heap.size ≤ b ∨ S b ∨ T b) (fun b hb => .inr hb) (fun b hb => .inl hb)
    · rw [h2]; exact AtomsR.sub (S := S) (hv.ext hx) (fun b hb => .inr (.inl hb))⟩, hx⟩

end Go.Proofs.YtfjdijakgjhieaaGreat

namespace Go.Proofs.YtfjdijakgjhieaaGreat
set_option linter.unusedSimpArgs false
set_option linter.unusedVariables false
open Go.RowKit

/-- What variables are bound to. -/
structure LB where
  ns : List ByteArray
  vs : List ByteArray
def LB.get (b : LB) (x : ByteArray) : Option ByteArray := match idxB b.ns x with
  | some i => b.vs[i]?
  | none => none
def LB.plus (b : LB) (n v : ByteArray) : LB := ⟨b.ns ++ [n], b.vs ++ [v]⟩
def emptyB : ByteArray := ⟨#[]⟩
/-- One term of an atom against one of a fact. -/
def matchT (t f : GT) (b : LB) : LB × Bool :=
  if t.v then match b.get t.n with
    | none => (b.plus t.n f.n, true)
    | some v => (b, decide (v = f.n))
  else (b, decide (t.n = f.n))
def matchL : List GT → List GT → LB → LB × Bool
  | t :: ts, f :: fs, b => if (matchT t f b).2 then matchL ts fs (matchT t f b).1 else ((matchT t f b).1, false)
  | _, _, b => (b, true)
def matchN (a fact : GA) (b : LB) : LB × Bool := if a.n = fact.n ∧ a.args.length = fact.args.length then matchL a.args fact.args b else (b, false)
def fillT (b : LB) (t : GT) : GT := ⟨false, if t.v then (b.get t.n).getD emptyB else t.n⟩
def fillN (a : GA) (b : LB) : GA := ⟨a.n, a.args.map (fillT b)⟩
/-- One binding against all facts. -/
def moreOf (a : GA) (list : List GA) (b : LB) : List LB := list.filterMap fun f => if (matchN a f b).2 then some (matchN a f b).1 else none
def allStep (list : List GA) (out : List LB) (p : GP) : List LB := if p.no then out else out.flatMap (moreOf p.atom list)
def heldB (list : List GA) (body : List GP) (b : LB) : Bool := body.all fun p => !p.no || !hasA list (fillN p.atom b)
def allN (list : List GA) (body : List GP) : List LB := (body.foldl (allStep list) [⟨[], []⟩]).filter (heldB list body)
/-- Facts, and the round of each. -/
structure RL where
  list : List GA
  round : List Nat
def RL.put (r : RL) (n : Nat) (a : GA) : RL := if hasA r.list a then r else ⟨putA r.list a, r.round.take (placeA r.list a) ++ [n] ++ r.round.drop (placeA r.list a)⟩
/-! ### How many, and how great -/
end Go.Proofs.YtfjdijakgjhieaaGreat

namespace Go.Proofs.YtfjdijakgjhieaaGreat
open Go.RowKit

/-- A text cut at each byte c. -/
def splitL (c : UInt8) : List UInt8 → List (List UInt8)
  | [] => [[]]
  | x :: l => if x = c then [] :: splitL c l else match splitL c l with | [] => [[x]] | p :: ps => (x :: p) :: ps

theorem splitL_none {c : UInt8} : ∀ {l : List UInt8}, c ∉ l → splitL c l = [l]
  | [], _ => rfl
  | x :: l, h => by
    have h1 : x ≠ c := fun e => h (by simp [e])
    have h2 : c ∉ l := fun e => h (List.mem_cons_of_mem _ e)
    unfold splitL
    rw [if_neg h1, splitL_none h2]
theorem splitL_app {c : UInt8} : ∀ {p l : List UInt8}, c ∉ p → splitL c (p ++ c :: l) = p :: splitL c l
  | [], l, _ => by simp [splitL]
  | x :: p, l, h => by
    have h1 : x ≠ c := fun e => h (by simp [e])
    have h2 : c ∉ p := fun e => h (List.mem_cons_of_mem _ e)
    have ih := splitL_app (l := l) h2
    show (if x = c then [] :: splitL c (p ++ c :: l) else match splitL c (p ++ c :: l) with | [] => [[x]] | p :: ps => (x :: p) :: ps) = _
    rw [if_neg h1, ih]

/-- A byte of names. -/
def okByte (c : UInt8) : Bool := lowDig c || upper c
theorem okByte_ne {c : UInt8} (h : okByte c = true) (d : UInt8) (hd : okByte d = false) : c ≠ d := fun e => by rw [e, hd] at h; cases h
theorem plain_ok {l : List UInt8} (h : plainB l = true) : ∀ c ∈ l, okByte c = true := fun c hc => by
  have := List.all_eq_true.1 h c hc
  unfold okByte; rw [this]; rfl
theorem name_ok {s : ByteArray} (h : nameOkB s = true) : ∀ c ∈ s.data.toList, okByte c = true := by
  unfold nameOkB lettersB at h
  simp only [Bool.and_eq_true] at h
  exact plain_ok h.1.1
theorem name_pos {s : ByteArray} (h : nameOkB s = true) : 1 ≤ s.size ∧ s.size ≤ 8 := by
  unfold nameOkB lettersB at h
  simp only [Bool.and_eq_true] at h
  have := of_decide_eq_true h.1.2
  omega
theorem term_ok {t : GT} (h : termOkB t = true) : ∀ c ∈ t.n.data.toList, okByte c = true := by
  unfold termOkB at h
  split at h
  · unfold varOkB at h
    simp only [Bool.and_eq_true] at h
    intro c hc
    unfold capB at h
    cases hl : t.n.data.toList with
    | nil => rw [hl] at hc; cases hc
    | cons x l =>
      rw [hl] at h hc
      rcases List.mem_cons.1 hc with rfl | hc
      · have hu : upper c = true := h.1.1
        unfold okByte; rw [hu, Bool.or_true]
      · exact plain_ok h.2 c (by simpa using hc)
  · exact name_ok h
theorem term_pos {t : GT} (h : termOkB t = true) : t.n.data.toList ≠ [] := by
  unfold termOkB at h
  split at h
  · unfold varOkB capB at h
    simp only [Bool.and_eq_true] at h
    intro e
    rw [e] at h
    exact absurd h.1.1 (by simp)
  · intro e
    have := name_pos h
    have hl : t.n.data.toList.length = t.n.size := by simp
    rw [e] at hl; simp at hl; omega
/-- Whether a name is a variable's shows in its first byte. -/
theorem term_var {t : GT} (h : termOkB t = true) : t.v = capB t.n := by
  unfold termOkB at h
  split at h
  · rename_i hv
    unfold varOkB at h
    simp only [Bool.and_eq_true] at h
    rw [hv, h.1.1]
  · rename_i hv
    have hv' : t.v = false := by simpa using hv
    rw [hv']
    unfold nameOkB lettersB at h
    simp only [Bool.and_eq_true] at h
    unfold capB
    cases hl : t.n.data.toList with
    | nil => rfl
    | cons x l =>
      rw [hl] at h
      have h1 : lowDig x = true := List.all_eq_true.1 h.1.1 x (by simp)
      have h2 := lowDig_yes h1
      show false = upper x
      unfold upper
      rw [decide_eq_false (by omega)]

theorem namesL_ok : ∀ {l : List GT}, (∀ t ∈ l, termOkB t = true) → ∀ c ∈ namesL l, okByte c = true ∨ c = 44
  | [], _, c, hc => by simp [namesL] at hc
  | [t], h, c, hc => .inl (term_ok (h t (by simp)) c hc)
  | t :: u :: l, h, c, hc => by
    unfold namesL at hc
    simp only [List.mem_append, List.mem_singleton] at hc
    rcases hc with (hc | hc) | hc
    · exact .inl (term_ok (h t (by simp)) c hc)
    · exact .inr hc
    · exact namesL_ok (l := u :: l) (fun t ht => h t (List.mem_cons_of_mem _ ht)) c hc
theorem namesL_split : ∀ {l : List GT}, (∀ t ∈ l, termOkB t = true) → l ≠ [] → splitL 44 (namesL l) = l.map fun t => t.n.data.toList
  | [], _, h => absurd rfl h
  | [t], h, _ => splitL_none (fun hc => okByte_ne (term_ok (h t (by simp)) 44 hc) 44 rfl rfl)
  | t :: u :: l, h, _ => by
    have ih := namesL_split (l := u :: l) (fun t ht => h t (List.mem_cons_of_mem _ ht)) (by simp)
    show splitL 44 (t.n.data.toList ++ [44] ++ namesL (u :: l)) = _
    rw [List.append_assoc, List.singleton_append, splitL_app (fun hc => okByte_ne (term_ok (h t (by simp)) 44 hc) 44 rfl rfl), ih]
    rfl
theorem namesL_pos {l : List GT} (h : ∀ t ∈ l, termOkB t = true) (hl : l ≠ []) : namesL l ≠ [] := by
  match l, hl with
  | [t], _ => exact term_pos (h t (by simp))
  | t :: u :: l, _ => simp [namesL]

theorem atom_parts {a : GA} (h : atomOkB a = true) : nameOkB a.n = true ∧ a.args.length ≤ 3 ∧ ∀ t ∈ a.args, termOkB t = true := by
  unfold atomOkB at h
  simp only [Bool.and_eq_true, decide_eq_true_eq] at h
  exact ⟨h.1.1, h.1.2, List.all_eq_true.1 h.2⟩
theorem atom_split {a : GA} (h : atomOkB a = true) : splitL 40 (atomL a) = [a.n.data.toList, namesL a.args ++ [41]] := by
  obtain ⟨h1, h2, h3⟩ := atom_parts h
  unfold atomL
  rw [List.append_assoc, List.append_assoc, List.singleton_append, splitL_app (fun hc => okByte_ne (name_ok h1 40 hc) 40 rfl rfl), splitL_none]
  intro hc
  rcases List.mem_append.1 hc with hc | hc
  · rcases namesL_ok h3 40 hc with hc | hc
    · exact okByte_ne hc 40 rfl rfl
    · cases hc
  · simp at hc
theorem bytes_inj {a b : ByteArray} (h : a.data.toList = b.data.toList) : a = b := by
  apply ByteArray.ext
  exact Array.toList_inj.1 h
theorem terms_inj : ∀ {l m : List GT}, (∀ t ∈ l, termOkB t = true) → (∀ t ∈ m, termOkB t = true) → (l.map fun t => t.n.data.toList) = (m.map fun t => t.n.data.toList) → l = m
  | [], [], _, _, _ => rfl
  | [], _ :: _, _, _, h => by simp at h
  | _ :: _, [], _, _, h => by simp at h
  | t :: l, u :: m, hl, hm, h => by
    simp only [List.map_cons, List.cons.injEq] at h
    have hn := bytes_inj h.1
    have hv : t.v = u.v := by rw [term_var (hl t (by simp)), term_var (hm u (by simp)), hn]
    have : t = u := by cases t; cases u; simp_all
    rw [this, terms_inj (fun t ht => hl t (List.mem_cons_of_mem _ ht)) (fun t ht => hm t (List.mem_cons_of_mem _ ht)) h.2]
theorem names_inj {l m : List GT} (hl : ∀ t ∈ l, termOkB t = true) (hm : ∀ t ∈ m, termOkB t = true) (h : namesL l = namesL m) : l = m := by
  by_cases h1 : l = []
  · subst h1
    by_cases h2 : m = []
    · exact h2.symm
    · exact absurd h.symm (namesL_pos hm h2)
  · by_cases h2 : m = []
    · subst h2; exact absurd h (namesL_pos hl h1)
    · exact terms_inj hl hm (by rw [← namesL_split hl h1, ← namesL_split hm h2, h])
theorem atom_inj {a b : GA} (ha : atomOkB a = true) (hb : atomOkB b = true) (h : atomL a = atomL b) : a = b := by
  have h1 := atom_split ha
  have h2 := atom_split hb
  rw [h, h2] at h1
  simp only [List.cons.injEq, and_true] at h1
  have e1 := bytes_inj h1.1
  have e2 := names_inj (atom_parts hb).2.2 (atom_parts ha).2.2 (List.append_cancel_right h1.2)
  cases a; cases b; simp_all

open Classical in
/-- The atom that a text is. -/
noncomputable def atomOf (l : List UInt8) : Option GA := if h : ∃ a, atomOkB a = true ∧ atomL a = l then some h.choose else none
/-! ### The words of a change -/
theorem factB_ok {a : GA} (h : factB a = true) : atomOkB a = true := by
  unfold factB at h
  simp only [Bool.and_eq_true] at h
  exact h.1

end Go.Proofs.YtfjdijakgjhieaaGreat
