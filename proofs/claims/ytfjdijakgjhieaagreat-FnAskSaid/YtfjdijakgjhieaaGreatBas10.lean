/- Part of the texts of a proof: own texts joined in the order of their building; what they say stands at each theorem. -/
import Derived.Test.YtfjdijakgjhieaaGreatBas09
import Derived.Test.YtfjdijakgjhieaaGreatBas03
import Derived.Test.YtfjdijakgjhieaaGreatBas01
import Derived.Orders
namespace Go.Proofs.YtfjdijakgjhieaaGreat
set_option linter.unusedSimpArgs false
set_option linter.unusedVariables false
open Go.RowKit

/-! ### Keys, and places under them -/
def wk (n : ByteArray) (size : Nat) (o : Option (Nat × ByteArray)) : Value := wkey n size (match o with | none => -1 | some x => (x.1 : Int)) (match o with | none => noWord | some x => x.2)
theorem wk_inj {n n' : ByteArray} {s s' : Nat} {o o' : Option (Nat × ByteArray)} (h : wk n s o = wk n' s' o') : n = n' ∧ s = s' ∧ o = o' := by
 unfold wk wkey at h
 simp only [Value.agg.injEq, Array.mk.injEq, List.cons.injEq, Value.string.injEq, Value.int.injEq, true_and, and_true] at h
 obtain ⟨h1, h2, h3, h4⟩ := h
 refine ⟨h1, by omega, ?_⟩
 cases o with
 | none =>
   cases o' with
   | none => rfl
   | some y => simp only at h3; omega
 | some x =>
   cases o' with
   | none => simp only at h3; omega
   | some y =>
     obtain ⟨x1, x2⟩ := x
     obtain ⟨y1, y2⟩ := y
     simp only at h3 h4
     rw [h4, show x1 = y1 by omega]
theorem wk_lit {n : ByteArray} {size : Nat} {o : Option (Nat × ByteArray)} (hn : n.size ≤ maxLen) (hz : size ≤ 1000000) (ho : ∀ x, o = some x → x.1 ≤ 1000000 ∧ x.2.size ≤ maxLen) : ∃ kl, keyOf Tryz.prog 221 (wk n size o) = some kl := by
 cases o with
 | none => exact wkey_lit hn (Nat.zero_le _) hz (by simp) (by simp)
 | some x =>
   obtain ⟨h1, h2⟩ := ho x rfl
   exact wkey_lit hn h2 hz (by simp only; omega) (by simp only; omega)
/-- Does a fact stand under a key, so far? (At stage 0: under none; at 1: under name and size; at j + 1: under its first j words, too.) -/
def hit (a : GA) (j : Nat) (n : ByteArray) (s : Nat) (o : Option (Nat × ByteArray)) : Bool := decide (a.n = n ∧ a.args.length = s) && match o with
 | none => decide (0 < j)
 | some x => decide (x.1 + 1 < j) && match a.args[x.1]? with
   | none => false
   | some t => decide (t.n = x.2)
def placesJ (facts : List GA) (a : GA) (j : Nat) (n : ByteArray) (s : Nat) (o : Option (Nat × ByteArray)) : List Nat := placesOf facts n s o ++ (if hit a j n s o then [facts.length] else [])
/-- The key of a stage. -/
def keyJ (a : GA) (j : Nat) : Option (Nat × ByteArray) := match j with
 | 0 => none
 | i + 1 => some (i, (a.args.getD i ⟨false, noWord⟩).n)
theorem places_zero (facts : List GA) (a : GA) (n : ByteArray) (s : Nat) (o : Option (Nat × ByteArray)) : placesJ facts a 0 n s o = placesOf facts n s o := by
 unfold placesJ hit
 cases o <;> simp
theorem hit_step {a : GA} {j : Nat} (hj : j ≤ a.args.length) (n : ByteArray) (s : Nat) (o : Option (Nat × ByteArray)) : hit a (j + 1) n s o = (hit a j n s o || decide (n = a.n ∧ s = a.args.length ∧ o = keyJ a j)) ∧ ((n = a.n ∧ s = a.args.length ∧ o = keyJ a j) → hit a j n s o = false) := by
 by_cases hns : a.n = n ∧ a.args.length = s
 · obtain ⟨rfl, rfl⟩ := hns
   unfold hit
   cases j with
   | zero =>
     cases o with
     | none => simp [keyJ]
     | some x => simp [keyJ]
   | succ i =>
     cases o with
     | none => simp [keyJ]
     | some x =>
       obtain ⟨x1, x2⟩ := x
       have hg : a.args.getD i ⟨false, noWord⟩ = a.args[i] := by rw [List.getD_eq_getElem?_getD, List.getElem?_eq_getElem (by omega)]; rfl
       by_cases hx : x1 = i
       · subst hx
         simp only [keyJ, hg, List.getElem?_eq_getElem (show x1 < a.args.length by omega)]
         simp [eq_comm]
       · have h1 : decide (x1 < i + 1) = decide (x1 < i) := by
           rw [decide_eq_decide]; omega
         simp [keyJ, h1, hx]
 · have h1 : decide (a.n = n ∧ a.args.length = s) = false := decide_eq_false hns
   have h2 : ¬ (n = a.n ∧ s = a.args.length ∧ o = keyJ a j) := fun h => hns ⟨h.1.symm, h.2.1.symm⟩
   unfold hit
   rw [h1, decide_eq_false h2]
   exact ⟨by simp, fun h => absurd h h2⟩
theorem places_step {facts : List GA} {a : GA} {j : Nat} (hj : j ≤ a.args.length) (n : ByteArray) (s : Nat) (o : Option (Nat × ByteArray)) :
 placesJ facts a (j + 1) n s o = if n = a.n ∧ s = a.args.length ∧ o = keyJ a j then placesJ facts a j n s o ++ [facts.length] else placesJ facts a j n s o := by
 obtain ⟨h1, h2⟩ := hit_step hj n s o
 unfold placesJ
 rw [h1]
 by_cases h : n = a.n ∧ s = a.args.length ∧ o = keyJ a j
 · rw [h2 h, decide_eq_true h, if_pos h]; simp
 · rw [decide_eq_false h, if_neg h]; simp
theorem range_snoc_filter (p : Nat → Bool) (n : Nat) : (List.range (n + 1)).filter p = (List.range n).filter p ++ (if p n then [n] else []) := by
 rw [List.range_succ, List.filter_append]
 cases h : p n <;> simp [h]
theorem places_all (facts : List GA) (a : GA) (n : ByteArray) (s : Nat) (o : Option (Nat × ByteArray)) : placesJ facts a (a.args.length + 1) n s o = placesOf (facts ++ [a]) n s o := by
 unfold placesJ placesOf
 rw [List.length_append, List.length_cons, List.length_nil, range_snoc_filter]
 have h1 : (List.range facts.length).filter (under (facts ++ [a]) n s o) = (List.range facts.length).filter (under facts n s o) := by
  apply List.filter_congr
  intro i hi
  have hi := List.mem_range.1 hi
  unfold under
  rw [List.getElem?_append_left hi]
 have h2 : under (facts ++ [a]) n s o facts.length = hit a (a.args.length + 1) n s o := by
  unfold under hit
  rw [List.getElem?_append_right (Nat.le_refl _), Nat.sub_self]
  simp only [List.getElem?_cons_zero]
  cases o with
  | none => simp
  | some x =>
    obtain ⟨i, q⟩ := x
    simp only
    cases hx : a.args[i]? with
    | none => simp
    | some t =>
      have := (List.getElem?_eq_some_iff.1 hx).1
      simp [this]
 rw [h1, h2]

/-! ### Own slices under growth -/
theorem OwnK.grown {α : Type} {k : Kind α} {base : Nat} {e : TypeId} {S : Nat → Prop} {w w' : World} {v : Value} {xs : List α} {row : Option Nat} (h : OwnK k base e S w v xs) (hg : w.grownBy w' row) (hne : ∀ g, v.ownBlock = some g → row ≠ some g) (hS : ∀ b, S b → row ≠ some b) : OwnK k base e S w' v xs :=
 h.agree (fun b hb hlt => hg.block b hlt (fun e => hS b hb e.symm)) (fun g hg' => hg.block g (h.at_ g hg').2 (fun e => hne g hg' e.symm)) hg.size
theorem OwnK.fresh {α : Type} {k : Kind α} {base : Nat} {e : TypeId} {S : Nat → Prop} {w : World} {v : Value} {xs : List α} (h : OwnK k base e S w v xs) : ∀ g, v.ownBlock = some g → g ≠ w.heap.size := fun g hg e => by have := (h.at_ g hg).2; omega

/-! ### The store -/
structure StoreO (base : Nat) (S T : Nat → Prop) (w : World) (sb mb pb : Nat) (fv rv : Value) (f : Value → Value) (facts : List GA) (rounds : List Nat) (un : ByteArray → Nat → Option (Nat × ByteArray) → List Nat) (nm : Nat) (pm : ByteArray → Option Nat) (np : Nat) : Prop where
 blk : Blk w sb 189 #[fv, rv, .map (some mb), .map (some pb)]
 lo : sb < base ∧ mb < base ∧ pb < base ∧ sb ≠ mb ∧ sb ≠ pb ∧ mb ≠ pb ∧ base ≤ w.heap.size
 fa : OwnK kAtom base 26 S w fv facts
 sub : ∀ b, S b → T b
 ro : OwnK kNum base 3 None w rv rounds
 mp : MapV w mb nm f
 gr : ∀ n s o, OwnK kNum base 3 None w (f (wk n s o)) (un n s o)
 pl : MapN w pb np pm
 a1 : ∀ g, fv.ownBlock = some g → rv.ownBlock ≠ some g ∧ ¬ T g ∧ ∀ n s o, (f (wk n s o)).ownBlock ≠ some g
 a2 : ∀ g, rv.ownBlock = some g → ¬ T g ∧ ∀ n s o, (f (wk n s o)).ownBlock ≠ some g
 a3 : ∀ n s o g, (f (wk n s o)).ownBlock = some g → ¬ T g ∧ ∀ n' s' o', wk n' s' o' ≠ wk n s o → (f (wk n' s' o')).ownBlock ≠ some g
 tb : ∀ b, T b → b < w.heap.size ∧ b ≠ sb ∧ b ≠ mb ∧ b ≠ pb
section
variable {base : Nat} {S T : Nat → Prop} {w w' : World} {sb mb pb : Nat} {fv rv : Value} {f : Value → Value} {facts : List GA} {rounds : List Nat} {un : ByteArray → Nat → Option (Nat × ByteArray) → List Nat} {nm : Nat} {pm : ByteArray → Option Nat} {np : Nat}
theorem StoreO.ext (h : StoreO base S T w sb mb pb fv rv f facts rounds un nm pm np) (hx : Ext w w') : StoreO base S T w' sb mb pb fv rv f facts rounds un nm pm np :=
 ⟨h.blk.ext hx, ⟨h.lo.1, h.lo.2.1, h.lo.2.2.1, h.lo.2.2.2.1, h.lo.2.2.2.2.1, h.lo.2.2.2.2.2.1, Nat.le_trans h.lo.2.2.2.2.2.2 hx.size⟩, h.fa.ext hx, h.sub, h.ro.ext hx, h.mp.ext hx, fun n s o => (h.gr n s o).ext hx, h.pl.ext (hx.block _ h.pl.lt), h.a1, h.a2, h.a3, fun b hb => ⟨Nat.lt_of_lt_of_le (h.tb b hb).1 hx.size, (h.tb b hb).2⟩⟩
/-- Less, or more, lies apart. -/
theorem StoreO.less {T' : Nat → Prop} (h : StoreO base S T w sb mb pb fv rv f facts rounds un nm pm np) (h1 : ∀ b, T' b → T b) (h2 : ∀ b, S b → T' b) : StoreO base S T' w sb mb pb fv rv f facts rounds un nm pm np :=
 ⟨h.blk, h.lo, h.fa, h2, h.ro, h.mp, h.gr, h.pl, fun g hg => ⟨(h.a1 g hg).1, fun hT => (h.a1 g hg).2.1 (h1 g hT), (h.a1 g hg).2.2⟩, fun g hg => ⟨fun hT => (h.a2 g hg).1 (h1 g hT), (h.a2 g hg).2⟩, fun n s o g hg => ⟨fun hT => (h.a3 n s o g hg).1 (h1 g hT), (h.a3 n s o g hg).2⟩, fun b hb => h.tb b (h1 b hb)⟩
theorem StoreO.more (h : StoreO base S T w sb mb pb fv rv f facts rounds un nm pm np) (hx : Ext w w') {T' : Nat → Prop} (hT : ∀ b, T' b → w.heap.size ≤ b ∧ b < w'.heap.size) : StoreO base S (fun b => T b ∨ T' b) w' sb mb pb fv rv f facts rounds un nm pm np := by
 have h1 := h.ext hx
 refine ⟨h1.blk, h1.lo, h1.fa, fun b hb => .inl (h1.sub b hb), h1.ro, h1.mp, h1.gr, h1.pl, fun g hg => ⟨(h1.a1 g hg).1, fun ht => ?_, (h1.a1 g hg).2.2⟩, fun g hg => ⟨fun ht => ?_, (h1.a2 g hg).2⟩, fun n s o g hg => ⟨fun ht => ?_, (h1.a3 n s o g hg).2⟩, fun b hb => ?_⟩
 · rcases ht with ht | ht
   · exact (h1.a1 g hg).2.1 ht
   · have := (h.fa.at_ g hg).2; have := (hT g ht).1; omega
 · rcases ht with ht | ht
   · exact (h1.a2 g hg).1 ht
   · have := (h.ro.at_ g hg).2; have := (hT g ht).1; omega
 · rcases ht with ht | ht
   · exact (h1.a3 n s o g hg).1 ht
   · have := ((h.gr n s o).at_ g hg).2; have := (hT g ht).1; omega
 · rcases hb with hb | hb
   · exact h1.tb b hb
   · have k1 := hT b hb
     have k2 := h.blk.lt
     have k3 := h.mp.lt
     have k4 := h.pl.lt
     exact ⟨k1.2, by omega, by omega, by omega⟩
/-- A fact more. -/
theorem StoreO.putFact (h : StoreO base S T w sb mb pb fv rv f facts rounds un nm pm np) {w1 w2 : World} {v' : Value} {zs : List GA} (hx : Ext w w1) (ha : Apped kAtom base 26 S w1 fv zs v' w2) :
 StoreO base S T (w2.setCell ⟨sb, 0, none⟩ v') sb mb pb v' rv f zs rounds un nm pm np := by
 have h1 := h.ext hx
 obtain ⟨l1, l2, l3, l4, l5, l6, l7⟩ := h1.lo
 have hown : ∀ g, fv.ownBlock = some g → base ≤ g ∧ g < w1.heap.size := h1.fa.at_
 have hnb : ∀ b, b < base → fv.ownBlock ≠ some b := fun b hb e => by have := (hown b e).1; omega
 have hv' : ∀ g, v'.ownBlock = some g → base ≤ g := fun g hg => (ha.own.at_ g hg).1
 have hva : ∀ g, v'.ownBlock = some g → (fv.ownBlock = some g ∨ g = w1.heap.size) := fun g hg => by
  rcases ha.at_ with e | e
  · exact .inl (e ▸ hg)
  · rw [e] at hg; injection hg with hg; exact .inr hg.symm
 have hsz := ha.grown.size
 refine ⟨by simpa using (h1.blk.below ha.below l1).set_ 0 v', ⟨l1, l2, l3, l4, l5, l6, by go_size⟩, ?_, h1.sub, ?_, ?_, fun n s o => ?_, ?_, fun g hg => ?_, fun g hg => ?_, fun n s o g hg => ?_, fun b hb => ?_⟩
 · exact ha.own.set (p := ⟨sb, 0, none⟩) l1 (fun hT => (h1.tb sb (h1.sub _ hT)).2.1 rfl) v'
 · exact (h1.ro.grown ha.grown (fun g hg e => (h1.a1 g e).1 hg) (fun _ h => h.elim)).set (p := ⟨sb, 0, none⟩) l1 (fun h => h) v'
 · exact (h1.mp.kept ha.grown (fun e => hnb mb l2 e.symm)).set (p := ⟨sb, 0, none⟩) (fun e => l4 e.symm) v'
 · exact ((h1.gr n s o).grown ha.grown (fun g hg e => (h1.a1 g e).2.2 n s o hg) (fun _ h => h.elim)).set (p := ⟨sb, 0, none⟩) l1 (fun h => h) v'
 · exact (h1.pl.ext (ha.grown.block pb h1.pl.lt (fun e => hnb pb l3 e.symm))).setCell (a := ⟨sb, 0, none⟩) (fun e => l5 e.symm) v'
 · rcases hva g hg with e | e
   · exact h1.a1 g e
   · subst e
     exact ⟨fun e2 => (h1.ro.fresh _ e2 rfl), fun hT => by have := (h1.tb _ hT).1; omega, fun n s o e2 => (h1.gr n s o).fresh _ e2 rfl⟩
 · exact h1.a2 g hg
 · exact h1.a3 n s o g hg
 · have := h1.tb b hb
   exact ⟨by go_size, this.2⟩
/-- A round more. -/
theorem StoreO.putRound (h : StoreO base S T w sb mb pb fv rv f facts rounds un nm pm np) {w1 w2 : World} {v' : Value} {zs : List Nat} (hx : Ext w w1) (ha : Apped kNum base 3 None w1 rv zs v' w2) :
 StoreO base S T (w2.setCell ⟨sb, 1, none⟩ v') sb mb pb fv v' f facts zs un nm pm np := by
 have h1 := h.ext hx
 obtain ⟨l1, l2, l3, l4, l5, l6, l7⟩ := h1.lo
 have hown : ∀ g, rv.ownBlock = some g → base ≤ g ∧ g < w1.heap.size := h1.ro.at_
 have hnb : ∀ b, b < base → rv.ownBlock ≠ some b := fun b hb e => by have := (hown b e).1; omega
 have hva : ∀ g, v'.ownBlock = some g → (rv.ownBlock = some g ∨ g = w1.heap.size) := fun g hg => by
  rcases ha.at_ with e | e
  · exact .inl (e ▸ hg)
  · rw [e] at hg; injection hg with hg; exact .inr hg.symm
 have hsz := ha.grown.size
 refine ⟨by simpa using (h1.blk.below ha.below l1).set_ 1 v', ⟨l1, l2, l3, l4, l5, l6, by go_size⟩, ?_, h1.sub, ?_, ?_, fun n s o => ?_, ?_, fun g hg => ?_, fun g hg => ?_, fun n s o g hg => ?_, fun b hb => ?_⟩
 · exact (h1.fa.grown ha.grown (fun g hg e => (h1.a1 g hg).1 e) (fun b hT e => (h1.a2 b e).1 (h1.sub _ hT))).set (p := ⟨sb, 1, none⟩) l1 (fun hT => (h1.tb sb (h1.sub _ hT)).2.1 rfl) v'
 · exact ha.own.set (p := ⟨sb, 1, none⟩) l1 (fun h => h) v'
 · exact (h1.mp.kept ha.grown (fun e => hnb mb l2 e.symm)).set (p := ⟨sb, 1, none⟩) (fun e => l4 e.symm) v'
 · exact ((h1.gr n s o).grown ha.grown (fun g hg e => (h1.a2 g e).2 n s o hg) (fun _ h => h.elim)).set (p := ⟨sb, 1, none⟩) l1 (fun h => h) v'
 · exact (h1.pl.ext (ha.grown.block pb h1.pl.lt (fun e => hnb pb l3 e.symm))).setCell (a := ⟨sb, 1, none⟩) (fun e => l5 e.symm) v'
 · refine ⟨fun e2 => ?_, (h1.a1 g hg).2⟩
   rcases hva g e2 with e | e
   · exact (h1.a1 g hg).1 e
   · exact h1.fa.fresh g hg e
 · rcases hva g hg with e | e
   · exact h1.a2 g e
   · subst e
     exact ⟨fun hT => by have := (h1.tb _ hT).1; omega, fun n s o e2 => (h1.gr n s o).fresh _ e2 rfl⟩
 · exact h1.a3 n s o g hg
 · have := h1.tb b hb
   exact ⟨by go_size, this.2⟩
/-- A text more. -/
theorem StoreO.putPlace (h : StoreO base S T w sb mb pb fv rv f facts rounds un nm pm np) {w1 w2 : World} {pm' : ByteArray → Option Nat} {np' : Nat} (hx : Ext w w1) (hg : w1.grownBy w2 (some pb)) (hp : MapN w2 pb np' pm') :
 StoreO base S T w2 sb mb pb fv rv f facts rounds un nm pm' np' := by
 have h1 := h.ext hx
 obtain ⟨l1, l2, l3, l4, l5, l6, l7⟩ := h1.lo
 have hsz := hg.size
 have off : ∀ {v : Value}, (∀ g, v.ownBlock = some g → base ≤ g) → ∀ g, v.ownBlock = some g → some pb ≠ some g := fun hb g hg e => by injection e with e; have := hb g hg; omega
 refine ⟨(hg.block sb h1.blk.lt (fun e => by injection e with e; exact l5 e)).trans h1.blk, ⟨l1, l2, l3, l4, l5, l6, by omega⟩, ?_, h1.sub, ?_, ?_, fun n s o => ?_, hp, h1.a1, h1.a2, h1.a3, fun b hb => ⟨Nat.lt_of_lt_of_le (h1.tb b hb).1 hsz, (h1.tb b hb).2⟩⟩
 · exact h1.fa.grown hg (off fun g hg => (h1.fa.at_ g hg).1) (fun b hT e => by injection e with e; exact (h1.tb b (h1.sub _ hT)).2.2.2 e.symm)
 · exact h1.ro.grown hg (off fun g hg => (h1.ro.at_ g hg).1) (fun _ h => h.elim)
 · exact h1.mp.kept hg (fun e => by injection e with e; exact l6 e)
 · exact (h1.gr n s o).grown hg (off fun g hg => ((h1.gr n s o).at_ g hg).1) (fun _ h => h.elim)
/-- What a group owns, while its entry is being written. -/
theorem StoreO.group (h : StoreO base S T w sb mb pb fv rv f facts rounds un nm pm np) {w0 w1 w2 : World} (hx0 : Ext w w0) (hg1 : w0.grownBy w1 (some mb)) (hx : Ext w1 w2) (n : ByteArray) (s : Nat) (o : Option (Nat × ByteArray)) : OwnK kNum base 3 None w2 (f (wk n s o)) (un n s o) := by
 have h1 := h.ext hx0
 exact (((h1.gr n s o).grown hg1 (fun g hg e => by injection e with e; have := ((h1.gr n s o).at_ g hg).1; have := h1.lo.2.1; omega) (fun _ h => h.elim)).ext hx)
/-- A place more under a key. -/
theorem StoreO.putGroup (h : StoreO base S T w sb mb pb fv rv f facts rounds un nm pm np) {w0 w1 w2 w3 w4 : World} {n : ByteArray} {s : Nat} {o : Option (Nat × ByteArray)} {v' : Value} {zs : List Nat} {f' : Value → Value} {nm' : Nat} {un' : ByteArray → Nat → Option (Nat × ByteArray) → List Nat}
 (hx0 : Ext w w0) (hg1 : w0.grownBy w1 (some mb)) (hx : Ext w1 w2) (ha : Apped kNum base 3 None w2 (f (wk n s o)) zs v' w3) (hg3 : w3.grownBy w4 (some mb)) (hm : MapV w4 mb nm' f') (hf1 : f' (wk n s o) = v') (hf2 : ∀ k, k ≠ wk n s o → f' k = f k)
 (hu1 : un' n s o = zs) (hu2 : ∀ n' s' o', ¬ (n' = n ∧ s' = s ∧ o' = o) → un' n' s' o' = un n' s' o') :
 StoreO base S T w4 sb mb pb fv rv f' facts rounds un' nm' pm np := by
 have h1 := h.ext hx0
 obtain ⟨l1, l2, l3, l4, l5, l6, l7⟩ := h1.lo
 have s1 := hg1.size
 have s2 := hx.size
 have s3 := ha.grown.size
 have s4 := hg3.size
 have off : ∀ {v : Value}, (∀ g, v.ownBlock = some g → base ≤ g) → ∀ g, v.ownBlock = some g → some mb ≠ some g := fun hb g hg e => by injection e with e; have := hb g hg; omega
 have hown : ∀ g, (f (wk n s o)).ownBlock = some g → base ≤ g := fun g hg => ((h1.gr n s o).at_ g hg).1
 have hnb : ∀ b, b < base → (f (wk n s o)).ownBlock ≠ some b := fun b hb e => by have := hown b e; omega
 have hva : ∀ g, v'.ownBlock = some g → ((f (wk n s o)).ownBlock = some g ∨ g = w2.heap.size) := fun g hg => by
  rcases ha.at_ with e | e
  · exact .inl (e ▸ hg)
  · rw [e] at hg; injection hg with hg; exact .inr hg.symm
 have hfk : ∀ {n' s' o'}, (n' = n ∧ s' = s ∧ o' = o) ∨ f' (wk n' s' o') = f (wk n' s' o') := fun {n' s' o'} => by
  by_cases e : wk n' s' o' = wk n s o
  · exact .inl (wk_inj e)
  · exact .inr (hf2 _ e)
 have hlow : ∀ b, b < base → b ≠ mb → b < w0.heap.size → w4.heap[b]? = w0.heap[b]? := fun b hb hne hlt =>
  (hg3.block b (by omega) (fun e => hne (by injection e))).trans ((ha.grown.block b (by omega) (fun e => hnb b hb e.symm)).trans ((hx.block b (by omega)).trans (hg1.block b hlt (fun e => hne (by injection e)))))
 have hlen : ∀ {v : Value} {α : Type} {k : Kind α} {e : TypeId} {S : Nat → Prop} {xs : List α}, OwnK k base e S w0 v xs → (∀ b, S b → b < w0.heap.size ∧ b ≠ mb ∧ (f (wk n s o)).ownBlock ≠ some b) → (∀ g, v.ownBlock = some g → (f (wk n s o)).ownBlock ≠ some g) → OwnK k base e S w4 v xs := fun {v α k e S xs} ho hS hne =>
  (((ho.grown hg1 (off fun g hg => (ho.at_ g hg).1) (fun b hb e => (hS b hb).2.1 (by injection e with e; exact e.symm))).ext hx).grown ha.grown (fun g hg e => hne g hg e) (fun b hb e => (hS b hb).2.2 e)).grown hg3 (off fun g hg => (ho.at_ g hg).1) (fun b hb e => (hS b hb).2.1 (by injection e with e; exact e.symm))
 refine ⟨(hlow sb l1 l4 h1.blk.lt).trans h1.blk, ⟨l1, l2, l3, l4, l5, l6, by omega⟩, ?_, h1.sub, ?_, hm, fun n' s' o' => ?_, ?_, fun g hg => ⟨(h1.a1 g hg).1, (h1.a1 g hg).2.1, fun n' s' o' e => ?_⟩, fun g hg => ⟨(h1.a2 g hg).1, fun n' s' o' e => ?_⟩, fun n' s' o' g hg => ?_, fun b hb => ⟨by have := (h1.tb b hb).1; omega, (h1.tb b hb).2⟩⟩
 · exact hlen h1.fa (fun b hT => ⟨(h1.tb b (h1.sub _ hT)).1, (h1.tb b (h1.sub _ hT)).2.2.1, fun e => (h1.a3 n s o b e).1 (h1.sub _ hT)⟩) (fun g hg e => (h1.a1 g hg).2.2 n s o e)
 · exact hlen h1.ro (fun _ h => h.elim) (fun g hg e => (h1.a2 g hg).2 n s o e)
 · rcases hfk (n' := n') (s' := s') (o' := o') with ⟨rfl, rfl, rfl⟩ | e
   · rw [hf1, hu1]
     exact ha.own.grown hg3 (off fun g hg => (ha.own.at_ g hg).1) (fun _ h => h.elim)
   · rw [e]
     by_cases e2 : n' = n ∧ s' = s ∧ o' = o
     · obtain ⟨rfl, rfl, rfl⟩ := e2
       rw [← e, hf1, hu1]
       exact ha.own.grown hg3 (off fun g hg => (ha.own.at_ g hg).1) (fun _ h => h.elim)
     · rw [hu2 n' s' o' e2]
       exact hlen (h1.gr n' s' o') (fun _ h => h.elim) (fun g hg e3 => (h1.a3 n s o g e3).2 n' s' o' (fun e4 => e2 (wk_inj e4)) hg)
 · exact h1.pl.ext (hlow pb l3 (fun e => l6 e.symm) h1.pl.lt)
 · rcases hfk (n' := n') (s' := s') (o' := o') with ⟨rfl, rfl, rfl⟩ | e2
   · rw [hf1] at e
     rcases hva g e with e3 | e3
     · exact (h1.a1 g hg).2.2 _ _ _ e3
     · have := (h1.fa.at_ g hg).2; omega
   · rw [e2] at e; exact (h1.a1 g hg).2.2 _ _ _ e
 · rcases hfk (n' := n') (s' := s') (o' := o') with ⟨rfl, rfl, rfl⟩ | e2
   · rw [hf1] at e
     rcases hva g e with e3 | e3
     · exact (h1.a2 g hg).2 _ _ _ e3
     · have := (h1.ro.at_ g hg).2; omega
   · rw [e2] at e; exact (h1.a2 g hg).2 _ _ _ e
 · by_cases e0 : wk n' s' o' = wk n s o
   · obtain ⟨rfl, rfl, rfl⟩ := wk_inj e0
     rw [hf1] at hg
     refine ⟨fun hT => ?_, fun n2 s2 o2 hne e2 => ?_⟩
     · rcases hva g hg with e3 | e3
       · exact (h1.a3 _ _ _ g e3).1 hT
       · have := (h1.tb g hT).1; omega
     · rw [hf2 _ hne] at e2
       rcases hva g hg with e3 | e3
       · exact (h1.a3 _ _ _ g e3).2 _ _ _ hne e2
       · have := ((h1.gr n2 s2 o2).at_ g e2).2; omega
   · rw [hf2 _ e0] at hg
     refine ⟨(h1.a3 _ _ _ g hg).1, fun n2 s2 o2 hne e2 => ?_⟩
     by_cases e1 : wk n2 s2 o2 = wk n s o
     · rw [e1, hf1] at e2
       rcases hva g e2 with e3 | e3
       · exact (h1.a3 _ _ _ g hg).2 n s o (fun e4 => e0 e4.symm) e3
       · have := ((h1.gr n' s' o').at_ g hg).2; omega
     · rw [hf2 _ e1] at e2
       exact (h1.a3 _ _ _ g hg).2 n2 s2 o2 hne e2
end

/-! ### The maps' operations in a drawn region -/
section
variable {w : World} {ops : Array Oper} {o : Oper} {a : Act} {K : Act → World → Prop} {Q : Exit → Act → World → Prop} {E : Prop}
theorem step_plain {P : Program} (hgd : o.guard = none) (h : Oper.wp P o a w K Q) : if Region.wanted o (yielded ops a.tmps) = true then Oper.wp P o a w K Q else E := by
 have hw : Region.wanted o (yielded ops a.tmps) = true := by simp [Region.wanted, hgd]
 rw [if_pos hw]
 exact h
theorem step_mapN_put (hgd : o.guard = none) (m x v : Operand) (hop : o.op = Op.mapUpdate 187 m x v) (B n : Nat) (f : ByteArray → Option Nat) (hm : a.eval m = .map (some B)) (hown : MapN w B n f) (hn : n ≤ 1000000) (s : ByteArray) (hx : a.eval x = .string s) (hs : s.size ≤ maxLen) (k : Nat) (hv : a.eval v = .int .i64 ((k : Nat) : Int)) (hk : k ≤ 1000000)
 (h : ∀ w', MapN w' B (if (f s).isSome then n else n + 1) (fun x => if x = s then some k else f x) → w.grownBy w' (some B) → K (a.put o.dst undef) w') : if Region.wanted o (yielded ops a.tmps) = true then Oper.wp Tryz.prog o a w K Q else E := by
 refine step_plain hgd ?_
 obtain ⟨D, h1, h2, h3⟩ := hown
 obtain ⟨w', hr, h4, h5⟩ := h1.update keyLaw Tryz.underlying187 (by unfold maxLen; omega) (val := .int .i64 ((k : Nat) : Int)) (d := .lit (.int .i64 ((k : Nat) : Int))) (ps := []) (Go.WideMaps.keyOf_string_mk Tryz.underlying9 hs) (plainElem_int Tryz.underlying3 (WalkArith.wf_i64 (by omega)))
 unfold Oper.wp execOp
 simp only [hop, hm, hx, hv, Sem.run_bind, Sem.run_pure, Result.andThen_ok, hr]
 exact h w' (MapN.put h1 h2 h3 h4) h5
theorem step_entry (hgd : o.guard = none) (m x : Operand) (hop : o.op = Op.mapEntry 186 m x) {B n : Nat} {f : Value → Value} (hm : a.eval m = .map (some B)) (hown : MapV w B n f) (hn : n < maxLen) {key : Value} {kl : Lit} (hx : a.eval x = key) (hkey : keyOf Tryz.prog 221 key = some kl)
 (h : ∀ (st : Nat) (w1 : World), w.grownBy w1 (some B) → w1.heap.size = w.heap.size → (∀ (w2 : World) (val : Value), w2.heap[B]? = w1.heap[B]? → ∃ w3, (Instr.entryStore 186 (.map (some B)) (.int .i64 (st : Int)) val).run Tryz.prog w2 = .ok () w3 ∧ (∃ f', f' key = val ∧ (∀ k, k ≠ key → f' k = f k) ∧ MapV w3 B (n + 1) f') ∧ w2.grownBy w3 (some B) ∧ w3.heap.size = w2.heap.size) →
  K (a.put o.dst (.tuple #[f key, .int .i64 (st : Int)])) w1) : if Region.wanted o (yielded ops a.tmps) = true then Oper.wp Tryz.prog o a w K Q else E := by
 refine step_plain hgd ?_
 obtain ⟨st, w1, hr, h1, h2, h3⟩ := hown.entry hn hkey
 unfold Oper.wp execOp
 simp only [hop, hm, hx, Sem.run_bind, Sem.run_pure, Result.andThen_ok, hr]
 exact h st w1 h1 h2 h3
theorem step_estore (hgd : o.guard = none) (m s v : Operand) (hop : o.op = Op.entryStore 186 m s v) {B : Nat} {st : Nat} {val : Value} (hm : a.eval m = .map (some B)) (hs : a.eval s = .int .i64 (st : Int)) (hv : a.eval v = val) {w3 : World} (hr : (Instr.entryStore 186 (.map (some B)) (.int .i64 (st : Int)) val).run Tryz.prog w = .ok () w3)
 (h : K (a.put o.dst undef) w3) : if Region.wanted o (yielded ops a.tmps) = true then Oper.wp Tryz.prog o a w K Q else E := by
 refine step_plain hgd ?_
 unfold Oper.wp execOp
 simp only [hop, hm, hs, hv, Sem.run_bind, Sem.run_pure, Result.andThen_ok, hr]
 exact h
end

end Go.Proofs.YtfjdijakgjhieaaGreat

namespace Go.Proofs.YtfjdijakgjhieaaGreat
set_option linter.unusedSimpArgs false
set_option linter.unusedVariables false
open Go.RowKit

structure TwoK (base : Nat) (e : TypeId) (Sp Sn : Nat → Prop) (w : World) (vp : Value) (ps : List GPat) (vn : Value) (ns : List GPat) : Prop where
 p : OwnK kPat base e Sp w vp ps
 n : OwnK kPat base e Sn w vn ns
 fp : ∀ b, Sp b → b < w.heap.size ∧ vp.ownBlock ≠ some b ∧ vn.ownBlock ≠ some b
 fn : ∀ b, Sn b → b < w.heap.size ∧ vp.ownBlock ≠ some b ∧ vn.ownBlock ≠ some b
 dis : ∀ b, vp.ownBlock = some b → vn.ownBlock ≠ some b
section
variable {base : Nat} {e : TypeId} {Sp Sn T : Nat → Prop} {w w' : World} {vp vn v' : Value} {ps ns zs : List GPat}
theorem TwoK.nil : TwoK base e (fun _ => False) (fun _ => False) w (.slice none 0 0) [] (.slice none 0 0) [] := ⟨OwnK.nil, OwnK.nil, fun _ h => h.elim, fun _ h => h.elim, fun b h => by cases h⟩
theorem TwoK.swap (h : TwoK base e Sp Sn w vp ps vn ns) : TwoK base e Sn Sp w vn ns vp ps := ⟨h.n, h.p, fun b hb => ⟨(h.fn b hb).1, (h.fn b hb).2.2, (h.fn b hb).2.1⟩, fun b hb => ⟨(h.fp b hb).1, (h.fp b hb).2.2, (h.fp b hb).2.1⟩, fun b h1 h2 => h.dis b h2 h1⟩
theorem TwoK.ext (h : TwoK base e Sp Sn w vp ps vn ns) (hx : Ext w w') : TwoK base e Sp Sn w' vp ps vn ns :=
 ⟨h.p.ext hx, h.n.ext hx, fun b hb => ⟨Nat.lt_of_lt_of_le (h.fp b hb).1 hx.size, (h.fp b hb).2⟩, fun b hb => ⟨Nat.lt_of_lt_of_le (h.fn b hb).1 hx.size, (h.fn b hb).2⟩, h.dis⟩
theorem TwoK.set (h : TwoK base e Sp Sn w vp ps vn ns) {a : Addr} (ha : a.block < base) (h1 : ¬ Sp a.block) (h2 : ¬ Sn a.block) (u : Value) : TwoK base e Sp Sn (w.setCell a u) vp ps vn ns := by
 have hs : w.heap.size ≤ (w.setCell a u).heap.size := by simp [World.setCell]
 exact ⟨h.p.set ha h1 u, h.n.set ha h2 u, fun b hb => ⟨Nat.lt_of_lt_of_le (h.fp b hb).1 hs, (h.fp b hb).2⟩, fun b hb => ⟨Nat.lt_of_lt_of_le (h.fn b hb).1 hs, (h.fn b hb).2⟩, h.dis⟩
theorem TwoK.app (h : TwoK base e Sp Sn w vp ps vn ns) (ha : Apped kPat base e (fun b => Sp b ∨ T b) w vp zs v' w') (hT : ∀ b, T b → b < w.heap.size ∧ vp.ownBlock ≠ some b ∧ vn.ownBlock ≠ some b) : TwoK base e (fun b => Sp b ∨ T b) Sn w' v' zs vn ns := by
 have hsz : w.heap.size ≤ w'.heap.size := ha.grown.size
 have hv : ∀ b, b < w.heap.size → vp.ownBlock ≠ some b → v'.ownBlock ≠ some b := fun b hb hne e => by
  rcases ha.at_ with h1 | h1
  · exact hne (h1 ▸ e)
  · rw [h1] at e; cases e; exact absurd hb (Nat.lt_irrefl _)
 refine ⟨ha.own, h.n.grown ha.grown (fun g hg e => h.dis g e hg) (fun b hb e => (h.fn b hb).2.1 e), fun b hb => ?_, fun b hb => ?_, fun b h1 h2 => ?_⟩
 · have hb' : b < w.heap.size ∧ vp.ownBlock ≠ some b ∧ vn.ownBlock ≠ some b := hb.elim (h.fp b) (hT b)
   exact ⟨Nat.lt_of_lt_of_le hb'.1 hsz, hv b hb'.1 hb'.2.1, hb'.2.2⟩
 · have hb' := h.fn b hb
   exact ⟨Nat.lt_of_lt_of_le hb'.1 hsz, hv b hb'.1 hb'.2.1, hb'.2.2⟩
 · rcases ha.at_ with h3 | h3
   · exact h.dis b (h3 ▸ h1) h2
   · rw [h3] at h1; cases h1
     exact absurd (h.n.at_ _ h2).2 (Nat.lt_irrefl _)
end

end Go.Proofs.YtfjdijakgjhieaaGreat

namespace Go.Proofs.YtfjdijakgjhieaaGreat
set_option linter.unusedSimpArgs false
open Go.RowKit

/-- The places not listed yet. -/
def unlisted (n : Nat) (listed : Array Bool) : List Nat := (List.range n).filter fun i => !listed.getD i true

theorem filter_len_lt {α : Type} {p q : α → Bool} : ∀ {l : List α} {x : α}, (∀ y ∈ l, q y = true → p y = true) → x ∈ l → p x = true → q x = false → (l.filter q).length < (l.filter p).length
 | [], x, _, hx, _, _ => by cases hx
 | y :: l, x, h, hx, hp, hq => by
   have hle : (l.filter q).length ≤ (l.filter p).length := by
    clear hx
    induction l with
    | nil => simp
    | cons z l ih =>
      have h1 := ih (fun y hy => h y (by
       rcases List.mem_cons.1 hy with rfl | hy
       · exact List.mem_cons_self
       · exact List.mem_cons_of_mem _ (List.mem_cons_of_mem _ hy)))
      have h2 := h z (by simp)
      cases hqz : q z <;> cases hpz : p z <;> simp [List.filter_cons, hqz, hpz] at h2 ⊢ <;> omega
   rcases List.mem_cons.1 hx with rfl | hx
   · simp [List.filter_cons, hp, hq]; omega
   · have h1 := filter_len_lt (l := l) (fun y hy => h y (List.mem_cons_of_mem _ hy)) hx hp hq
     have h2 := h y List.mem_cons_self
     cases hqz : q y <;> cases hpz : p y <;> simp [List.filter_cons, hqz, hpz] at h2 ⊢ <;> omega

section
variable {P : Program} {ops : Array Oper} {Q : Exit → Act → World → Prop} {md : Region.Mode}

/-- An invariant over what is listed: at a step the operation's own 'after's are listed; at the end all are. -/
theorem wpAny_inv (I : (Nat → Bool) → Act → World → Prop)
 (hac : ∀ i o, ops[i]? = some o → ∀ e ∈ o.after, Region.binds md e = true → e.on < i)
 (hstep : ∀ i o f a w, ops[i]? = some o → f i = false → (∀ e ∈ o.after, Region.binds md e = true → f e.on = true) → I f a w →
  wpOp P ops Q i (I (fun j => j == i || f j)) a w)
 (hend : ∀ f a w, (∀ i, i < ops.size → f i = true) → I f a w → Q .normal a w) :
 ∀ (fuel : Nat) (listed : Array Bool) (a : Act) (w : World), listed.size = ops.size → (unlisted ops.size listed).length ≤ fuel → I (fun j => listed.getD j false) a w →
   wpAny P md ops Q fuel listed a w := by
 have hall : ∀ listed : Array Bool, listed.size = ops.size → Region.ready md ops listed = [] → ∀ i, i < ops.size → listed.getD i false = true := by
  intro listed hsz hr i
  induction i using Nat.strongRecOn with
  | ind i ih =>
    intro hi
    cases hl : listed.getD i false with
    | true => rfl
    | false =>
      exfalso
      have hlt : i < listed.size := by omega
      have : i ∈ Region.ready md ops listed := by
       rw [mem_ready]
       refine ⟨by simpa [hlt] using hl, ops[i], by simp [hi], fun e he hb => ?_⟩
       have h1 := hac i ops[i] (by simp [hi]) e he hb
       exact ih _ h1 (by omega)
      rw [hr] at this; cases this
 intro fuel
 induction fuel with
 | zero =>
   intro listed a w hsz hfu hI
   have hr : Region.ready md ops listed = [] := by
    cases hr : Region.ready md ops listed with
    | nil => rfl
    | cons i rest =>
      exfalso
      have hi : i ∈ Region.ready md ops listed := by rw [hr]; exact List.mem_cons_self
      have hi2 := mem_ready.1 hi
      have : i ∈ unlisted ops.size listed := by
       unfold unlisted
       obtain ⟨h0, o, ho, _⟩ := hi2
       have hlt : i < ops.size := (Array.getElem?_eq_some_iff.1 ho).1
       rw [List.mem_filter, List.mem_range]; exact ⟨hlt, by simpa using h0⟩
      have hn : unlisted ops.size listed = [] := List.eq_nil_of_length_eq_zero (by omega)
      rw [hn] at this; cases this
   exact ⟨hr, hend _ a w (hall listed hsz hr) hI⟩
 | succ fuel ih =>
   intro listed a w hsz hfu hI
   refine ⟨fun hr => hend _ a w (hall listed hsz hr) hI, fun i hi => ?_⟩
   obtain ⟨h0, o, ho, haf⟩ := mem_ready.1 hi
   have hlt : i < ops.size := (Array.getElem?_eq_some_iff.1 ho).1
   have hlt' : i < listed.size := by omega
   have h1 := hstep i o _ a w ho (by simpa [hlt'] using h0) haf hI
   refine wpOp_mono (fun a' w' h => ih _ a' w' (by simpa using hsz) ?_ ?_) h1
   · have := filter_len_lt (l := List.range ops.size) (p := fun j => !listed.getD j true) (q := fun j => !(listed.setIfInBounds i true).getD j true) (x := i)
       (fun y _ hy => by
        by_cases hiy : i = y
        · subst hiy; simp [hlt'] at hy
        · rw [getD_set_ne true hiy] at hy; exact hy)
       (List.mem_range.2 hlt) (by simpa using h0) (by simp [hlt'])
     unfold unlisted at hfu ⊢
     omega
   · have he : (fun j => (listed.setIfInBounds i true).getD j false) = fun j => j == i || listed.getD j false := by
       funext j
       by_cases hj : i = j
       · subst hj; simp [hlt']
       · rw [getD_set_ne false hj]; simp [show (j == i) = false by simpa using Ne.symm hj]
     rw [he]; exact h

/-- A drawn region by an invariant. -/
theorem wp_region_inv {id : Nat} {a : Act} {w : World} (hm : P.follows .mixedOrders = true) (I : (Nat → Bool) → Act → World → Prop)
 (hac : ∀ i o, ops[i]? = some o → ∀ e ∈ o.after, Region.binds .any e = true → e.on < i)
 (hstep : ∀ i o f a w, ops[i]? = some o → f i = false → (∀ e ∈ o.after, Region.binds .any e = true → f e.on = true) → I f a w →
  wpOp P ops Q i (I (fun j => j == i || f j)) a w)
 (hend : ∀ f a w, (∀ i, i < ops.size → f i = true) → I f a w → Q .normal a w)
 (hat : I (fun _ => false) a { w with drawn := w.drawn + 1 }) : (Code.region id ops true).wp P Q a w := by
 refine wp_region_any hm (wpAny_inv I hac hstep hend ops.size _ a _ (by simp) ?_ ?_)
 · unfold unlisted
   exact Nat.le_trans (List.length_filter_le _ _) (by simp)
 · have : (fun j => (Array.replicate ops.size false).getD j false) = fun _ => false := by
     funext j
     by_cases h : j < ops.size <;> simp [Array.getD, h]
   rw [this]; exact hat
end

/-- What is listed is closed. -/
def ClosedF (ops : Array Oper) (f : Nat → Bool) : Prop := ∀ j o, ops[j]? = some o → f j = true → ∀ e ∈ o.after, Region.binds .any e = true → f e.on = true

theorem wp_region_inv2 {P : Program} {ops : Array Oper} {Q : Exit → Act → World → Prop} {id : Nat} {a : Act} {w : World} (hm : P.follows .mixedOrders = true) (I : (Nat → Bool) → Act → World → Prop)
 (hac : ∀ i o, ops[i]? = some o → ∀ e ∈ o.after, Region.binds .any e = true → e.on < i)
 (hstep : ∀ i o f a w, ops[i]? = some o → f i = false → ClosedF ops f → (∀ e ∈ o.after, Region.binds .any e = true → f e.on = true) → I f a w →
  wpOp P ops Q i (I (fun j => j == i || f j)) a w)
 (hend : ∀ f a w, (∀ i, i < ops.size → f i = true) → I f a w → Q .normal a w)
 (hat : I (fun _ => false) a { w with drawn := w.drawn + 1 }) : (Code.region id ops true).wp P Q a w := by
 refine wp_region_inv hm (fun f a w => ClosedF ops f ∧ I f a w) hac ?_ (fun f a w h hI => hend f a w h hI.2) ⟨fun _ _ _ h => by simp at h, hat⟩
 intro i o f a w ho hfi haf hI
 refine wpOp_mono (fun a' w' h => ⟨fun j o' ho' hj e he hb => ?_, h⟩) (hstep i o f a w ho hfi hI.1 haf hI.2)
 by_cases hji : j = i
 · subst hji
   rw [ho] at ho'
   cases ho'
   simp [haf e he hb]
 · have hj' : f j = true := by simpa [hji] using hj
   simp [hI.1 j o' ho' hj' e he hb]

theorem wpOp_of {P : Program} {ops : Array Oper} {Q : Exit → Act → World → Prop} {i : Nat} {o : Oper} {K : Act → World → Prop} {a : Act} {w : World} (ho : ops[i]? = some o) (hg : o.guard = none) (h : o.wp P a w K Q) : wpOp P ops Q i K a w := by
 unfold wpOp
 simp only [ho]
 have hw : Region.wanted o (yielded ops a.tmps) = true := by simp [Region.wanted, hg]
 rw [if_pos hw]
 exact .inl h

/-- Slices of one kind that stand apart, by number. -/
abbrev Lot (α : Type) := Nat → Option (Value × List α)
def Lot.upd {α : Type} (L : Lot α) (i : Nat) (p : Value × List α) : Lot α := fun j => if j = i then some p else L j
def SepK {α : Type} (k : Kind α) (N : Nat) (e : TypeId) (w : World) (L : Lot α) : Prop :=
 (∀ i p, L i = some p → OwnK k N e None w p.1 p.2) ∧ ∀ i j p q, i ≠ j → L i = some p → L j = some q → ∀ g, p.1.ownBlock = some g → q.1.ownBlock ≠ some g

section
variable {α : Type} {k : Kind α} {N : Nat} {e : TypeId} {w w' : World} {L : Lot α}
theorem SepK.at_ (h : SepK k N e w L) {i : Nat} {v : Value} {xs : List α} (hi : L i = some (v, xs)) : OwnK k N e None w v xs := h.1 i _ hi
theorem SepK.none : SepK k N e w (fun _ => .none) := ⟨fun _ _ h => (by cases h), fun _ _ _ _ _ h => (by cases h)⟩
theorem SepK.ext (h : SepK k N e w L) (he : Ext w w') : SepK k N e w' L := ⟨fun i p hp => (h.1 i p hp).ext he, h.2⟩
theorem SepK.put (h : SepK k N e w L) (he : Ext w w') (i : Nat) {v : Value} {xs : List α} (hv : OwnK k N e None w' v xs) (hg : ∀ g, v.ownBlock = some g → w.heap.size ≤ g) : SepK k N e w' (L.upd i (v, xs)) := by
 have hlt : ∀ j q, L j = some q → ∀ g, q.1.ownBlock = some g → g < w.heap.size := fun j q hq g h2 => ((h.1 j q hq).at_ g h2).2
 refine ⟨fun j p hp => ?_, fun a b p q hab hp hq g h1 h2 => ?_⟩
 · unfold Lot.upd at hp
   split at hp
   · cases hp; exact hv
   · exact (h.1 j p hp).ext he
 · unfold Lot.upd at hp hq
   split at hp <;> split at hq
   · omega
   · cases hp; have := hg g h1; have := hlt b q hq g h2; omega
   · cases hq; have := hg g h2; have := hlt a p hp g h1; omega
   · exact h.2 a b p q hab hp hq g h1 h2
theorem SepK.app (h : SepK k N e w L) {i : Nat} {v v' : Value} {xs zs : List α} (hi : L i = some (v, xs)) (ha : Apped k N e None w v zs v' w') : SepK k N e w' (L.upd i (v', zs)) := by
 have hlt : ∀ j q, L j = some q → ∀ g, q.1.ownBlock = some g → g < w.heap.size := fun j q hq g h2 => ((h.1 j q hq).at_ g h2).2
 have hne : ∀ j q, j ≠ i → L j = some q → ∀ g, q.1.ownBlock = some g → v'.ownBlock ≠ some g := fun j q hji hq g h2 h3 => by
  rcases ha.at_ with h4 | h4
  · exact h.2 j i q _ hji hq hi g h2 (h4 ▸ h3)
  · rw [h4] at h3; cases h3; exact absurd (hlt j q hq _ h2) (Nat.lt_irrefl _)
 refine ⟨fun j p hp => ?_, fun a b p q hab hp hq g h1 h2 => ?_⟩
 · unfold Lot.upd at hp
   split at hp
   · cases hp; exact ha.own
   · rename_i hji
     refine (h.1 j p hp).agree (fun b hb => hb.elim) (fun g hg => ?_) ha.grown.size
     exact ha.grown.block g (hlt j p hp g hg) (fun e => h.2 j i p _ hji hp hi g hg e.symm)
 · unfold Lot.upd at hp hq
   split at hp <;> split at hq
   · omega
   · cases hp; exact hne b q (by omega) hq g h2 h1
   · cases hq; exact hne a p (by omega) hp g h1 h2
   · exact h.2 a b p q hab hp hq g h1 h2
end

theorem OwnK.word {N : Nat} {e : TypeId} {w : World} {x : ByteArray} (hb : N ≤ w.heap.size) (hx : x.size ≤ maxLen) :
 OwnK kStr N e None (w.alloc (.cells #[.string x] e)) (.slice (some ⟨w.heap.size, 0, none⟩) 1 1) [x] :=
 ⟨[.string x], fun _ => False, ⟨rfl, .inr ⟨w.heap.size, 1, #[.string x], rfl, hb, Blk.new w e _, Nat.le_refl _, by unfold maxLen; omega, rfl, rfl⟩⟩, RowsE.one rfl ⟨rfl, hx⟩, fun _ h => h.elim, fun _ _ h => h⟩

end Go.Proofs.YtfjdijakgjhieaaGreat
