/- Texts of the proof: AskP, RowP, SpecE, ParseQ, RlS, Bin, ShelfB, AskQ, CompP. -/
import Derived.Test.YtfjdijakgjhieaaGreatAskf03
import Derived.Test.YtfjdijakgjhieaaGreatAskf06
import Derived.Test.YtfjdijakgjhieaaGreatAskf05
import Derived.Lib.IndexMore
import Derived.Test.YtfjdijakgjhieaaGreatAskf04
import Derived.Test.YtfjdijakgjhieaaGreatAskf02
import Derived.Deep.DeepCutAuto
import Derived.BigQuiet
import Derived.Shelf.Strings.Builder1
import Derived.Shelf.Small.Bits
import Derived.Shelf.Small.Strs
import Derived.Shelf.Strings.BuilderF
import Derived.Shelf.Strings.BuilderK
import Derived.Shelf.Strconv.Itoa0
import Derived.Shelf.Sort.Plain
import Derived.Shelf.Strings.BuilderCap
import Derived.Shelf.Slices.CompactS
import Derived.Shelf.Slices.Cells
import Derived.Shelf.Slices.In.SortNone
import Derived.Ground.SlsfProg
import Derived.Shelf.SlSortCmp.Insertion
import Derived.Shelf.SlSortCmp.ReverseRange1
import Derived.Test.YtfjdijakgjhieaaGreatProg
import Derived.Lib.SlicesCompact
import Derived.Sort.Walk0
namespace Go.Proofs.YtfjdijakgjhieaaGreat
set_option linter.unusedSimpArgs false
set_option linter.unusedVariables false
open Go.RowKit

/-! ### The reference's bindings -/
def LB.ok (b : LB) : Prop := b.ns.length = b.vs.length
theorem get_none {b : LB} (h : b.ok) {x : ByteArray} : b.get x = none ↔ idxB b.ns x = none := by
  unfold LB.get
  cases hi : idxB b.ns x with
  | none => simp
  | some i =>
    have : i < b.vs.length := by rw [← h]; exact idxB_lt hi
    simp [List.getElem?_eq_getElem this]
theorem get_plus {b : LB} (h : b.ok) (n v x : ByteArray) : (b.plus n v).get x = match b.get x with | some u => some u | none => if n = x then some v else none := by
  cases hg : b.get x with
  | none =>
    have hi := (get_none h).1 hg
    unfold LB.get LB.plus
    simp only [idxB_snoc, hi]
    by_cases e : n = x
    · simp only [if_pos e]
      rw [h]; simp
    · simp only [if_neg e]
  | some u =>
    unfold LB.get at hg
    cases hi : idxB b.ns x with
    | none => rw [hi] at hg; cases hg
    | some i =>
      rw [hi] at hg
      unfold LB.get LB.plus
      simp only [idxB_snoc, hi]
      have hlt : i < b.vs.length := by rw [← h]; exact idxB_lt hi
      rw [List.getElem?_append_left hlt]
      exact hg
theorem plus_ok {b : LB} (h : b.ok) (n v : ByteArray) : (b.plus n v).ok := by
  unfold LB.ok LB.plus at *
  simp [h]
def LB.more (b c : LB) : Prop := ∀ x u, b.get x = some u → c.get x = some u
theorem more_refl (b : LB) : b.more b := fun _ _ h => h
theorem more_trans {a b c : LB} (h : a.more b) (k : b.more c) : a.more c := fun x u hx => k x u (h x u hx)
/-- What a term is, as bound. -/
def valB (b : LB) (t : GT) : Option ByteArray := if t.v then b.get t.n else some t.n
theorem valB_more {b c : LB} (h : b.more c) {t : GT} {u : ByteArray} (ht : valB b t = some u) : valB c t = some u := by
  unfold valB at *
  split at ht
  · rename_i e; rw [if_pos e]; exact h _ _ ht
  · rename_i e; rw [if_neg e]; exact ht
theorem matchT_true {t f : GT} {b : LB} (hb : b.ok) (h : (matchT t f b).2 = true) : (matchT t f b).1.ok ∧ b.more (matchT t f b).1 ∧ valB (matchT t f b).1 t = some f.n := by
  unfold matchT at h ⊢
  by_cases hv : t.v = true
  · simp only [if_pos hv] at h ⊢
    cases hg : b.get t.n with
    | none =>
      simp only
      refine ⟨plus_ok hb _ _, fun x u hx => ?_, ?_⟩
      · rw [get_plus hb, hx]
      · unfold valB; rw [if_pos hv, get_plus hb, hg]; simp
    | some v =>
      rw [hg] at h
      simp only [decide_eq_true_eq] at h
      simp only
      exact ⟨hb, more_refl _, by unfold valB; rw [if_pos hv, hg, h]⟩
  · simp only [if_neg hv, decide_eq_true_eq] at h ⊢
    exact ⟨hb, more_refl _, by unfold valB; rw [if_neg hv, h]⟩
theorem matchL_true : ∀ {ts fs : List GT} {b : LB}, b.ok → ts.length = fs.length → (matchL ts fs b).2 = true → (matchL ts fs b).1.ok ∧ b.more (matchL ts fs b).1 ∧ ts.map (valB (matchL ts fs b).1) = fs.map (fun f => some f.n)
  | [], [], b, hb, _, _ => ⟨hb, more_refl _, rfl⟩
  | [], _ :: _, _, _, hl, _ => by simp at hl
  | _ :: _, [], _, _, hl, _ => by simp at hl
  | t :: ts, f :: fs, b, hb, hl, h => by
    simp only [matchL] at h ⊢
    split at h
    · rename_i ht
      rw [if_pos ht]
      obtain ⟨h1, h2, h3⟩ := matchT_true hb ht
      obtain ⟨k1, k2, k3⟩ := matchL_true h1 (by simpa using hl) h
      refine ⟨k1, more_trans h2 k2, ?_⟩
      rw [List.map_cons, List.map_cons, k3, valB_more k2 h3]
    · cases h
def LB.under (b : LB) (σ : ByteArray → ByteArray) : Prop := ∀ x u, b.get x = some u → u = σ x
def valS (σ : ByteArray → ByteArray) (t : GT) : ByteArray := if t.v then σ t.n else t.n
theorem matchL_meets {σ : ByteArray → ByteArray} : ∀ {ts fs : List GT} {b : LB}, b.ok → b.under σ → ts.map (valS σ) = fs.map (·.n) → (matchL ts fs b).2 = true ∧ (matchL ts fs b).1.under σ
  | [], [], b, hb, hu, _ => ⟨rfl, hu⟩
  | [], _ :: _, _, _, _, hm => by simp at hm
  | _ :: _, [], _, _, _, hm => by simp at hm
  | t :: ts, f :: fs, b, hb, hu, hm => by
    rw [List.map_cons, List.map_cons] at hm
    injection hm with hm1 hm2
    have key : (matchT t f b).2 = true ∧ (matchT t f b).1.under σ := by
      unfold matchT
      unfold valS at hm1
      by_cases hv : t.v = true
      · rw [if_pos hv] at hm1
        simp only [if_pos hv]
        cases hg : b.get t.n with
        | none =>
          refine ⟨rfl, fun x u hx => ?_⟩
          simp only at hx
          rw [get_plus hb] at hx
          cases hg2 : b.get x with
          | some y => rw [hg2] at hx; injection hx with hx; rw [← hx]; exact hu x y hg2
          | none =>
            rw [hg2] at hx
            simp only at hx
            split at hx
            · rename_i e; injection hx with hx; rw [← hx, ← e]; exact hm1.symm
            · cases hx
        | some v =>
          simp only [decide_eq_true_eq]
          exact ⟨(hu _ _ hg).trans hm1, hu⟩
      · rw [if_neg hv] at hm1
        simp only [if_neg hv, decide_eq_true_eq]
        exact ⟨hm1, hu⟩
    have hok : (matchT t f b).1.ok := (matchT_true hb key.1).1
    simp only [matchL, if_pos key.1]
    exact matchL_meets hok key.2 hm2
/-- An atom holds, its variables as they are bound. -/
def HoldsB (list : List GA) (a : GA) (b : LB) : Prop := ∃ f ∈ list, f.n = a.n ∧ a.args.map (valB b) = f.args.map (fun f => some f.n)
def HoldsS (list : List GA) (a : GA) (σ : ByteArray → ByteArray) : Prop := ∃ f ∈ list, f.n = a.n ∧ f.args.map (·.n) = a.args.map (valS σ)
theorem holdsB_more {list : List GA} {a : GA} {b c : LB} (h : HoldsB list a b) (k : b.more c) : HoldsB list a c := by
  obtain ⟨f, h1, h2, h3⟩ := h
  refine ⟨f, h1, h2, ?_⟩
  rw [← h3]
  refine List.map_congr_left fun t ht => ?_
  have : valB b t ∈ f.args.map (fun f => some f.n) := by rw [← h3]; exact List.mem_map_of_mem ht
  obtain ⟨g, _, hg⟩ := List.mem_map.1 this
  rw [← hg]
  exact valB_more k hg.symm
theorem more_mem {a : GA} {list : List GA} {b c : LB} (hb : b.ok) (h : c ∈ moreOf a list b) : c.ok ∧ b.more c ∧ HoldsB list a c := by
  unfold moreOf at h
  obtain ⟨f, hf, h⟩ := List.mem_filterMap.1 h
  split at h
  · rename_i hm
    injection h with h
    subst h
    unfold matchN at hm ⊢
    split at hm
    · rename_i hc
      rw [if_pos hc]
      obtain ⟨h1, h2, h3⟩ := matchL_true hb hc.2 hm
      exact ⟨h1, h2, f, hf, hc.1.symm, h3⟩
    · cases hm
  · cases h
theorem fold_sound {list : List GA} : ∀ {body : List GP} {out : List LB} {b : LB}, (∀ c ∈ out, c.ok) → b ∈ body.foldl (allStep list) out → b.ok ∧ (∃ c ∈ out, c.more b) ∧ ∀ p ∈ body, p.no = false → HoldsB list p.atom b
  | [], out, b, ho, h => ⟨ho b h, ⟨b, h, more_refl b⟩, fun p hp => by cases hp⟩
  | p :: body, out, b, ho, h => by
    rw [List.foldl_cons] at h
    by_cases hno : p.no = true
    · have he : allStep list out p = out := by unfold allStep; rw [if_pos hno]
      rw [he] at h
      obtain ⟨h1, h2, h3⟩ := fold_sound ho h
      refine ⟨h1, h2, fun q hq hn => ?_⟩
      rcases List.mem_cons.1 hq with rfl | hq
      · rw [hno] at hn; cases hn
      · exact h3 q hq hn
    · have he : allStep list out p = out.flatMap (moreOf p.atom list) := by unfold allStep; rw [if_neg hno]
      rw [he] at h
      have ho2 : ∀ c ∈ out.flatMap (moreOf p.atom list), c.ok := fun c hc => by
        obtain ⟨d, hd, hc⟩ := List.mem_flatMap.1 hc
        exact (more_mem (ho d hd) hc).1
      obtain ⟨h1, ⟨c, hc, hcb⟩, h3⟩ := fold_sound ho2 h
      obtain ⟨d, hd, hc⟩ := List.mem_flatMap.1 hc
      obtain ⟨g1, g2, g3⟩ := more_mem (ho d hd) hc
      refine ⟨h1, ⟨d, hd, more_trans g2 hcb⟩, fun q hq hn => ?_⟩
      rcases List.mem_cons.1 hq with rfl | hq
      · exact holdsB_more g3 hcb
      · exact h3 q hq hn
theorem fold_meets {list : List GA} {σ : ByteArray → ByteArray} : ∀ {body : List GP} {out : List LB} {c : LB}, (∀ c ∈ out, c.ok) → c ∈ out → c.under σ → (∀ p ∈ body, p.no = false → HoldsS list p.atom σ) → ∃ b ∈ body.foldl (allStep list) out, b.under σ
  | [], out, c, _, hc, hu, _ => ⟨c, hc, hu⟩
  | p :: body, out, c, ho, hc, hu, hh => by
    rw [List.foldl_cons]
    by_cases hno : p.no = true
    · have he : allStep list out p = out := by unfold allStep; rw [if_pos hno]
      rw [he]
      exact fold_meets ho hc hu (fun q hq => hh q (List.mem_cons_of_mem _ hq))
    · have he : allStep list out p = out.flatMap (moreOf p.atom list) := by unfold allStep; rw [if_neg hno]
      rw [he]
      obtain ⟨f, hf, hn, hm⟩ := hh p (by simp) (by simpa using hno)
      have hlen : p.atom.args.length = f.args.length := by
        have := congrArg List.length hm
        simpa using this.symm
      obtain ⟨k1, k2⟩ := matchL_meets (ho c hc) hu hm.symm
      have hmem : (matchL p.atom.args f.args c).1 ∈ out.flatMap (moreOf p.atom list) := by
        refine List.mem_flatMap.2 ⟨c, hc, ?_⟩
        unfold moreOf
        refine List.mem_filterMap.2 ⟨f, hf, ?_⟩
        have e : matchN p.atom f c = matchL p.atom.args f.args c := by unfold matchN; rw [if_pos ⟨hn.symm, hlen⟩]
        rw [e, if_pos k1]
      have ho2 : ∀ c ∈ out.flatMap (moreOf p.atom list), c.ok := fun c hc => by
        obtain ⟨d, hd, hc⟩ := List.mem_flatMap.1 hc
        exact (more_mem (ho d hd) hc).1
      exact fold_meets ho2 hmem k2 (fun q hq => hh q (List.mem_cons_of_mem _ hq))

/-! ### Rows -/
def sig (b : LB) (x : ByteArray) : ByteArray := (b.get x).getD emptyB
def rowB (vs : List ByteArray) (b : LB) : List ByteArray := vs.map (sig b)
def slotOf (vs : List ByteArray) (t : GT) : GS := if t.v then ⟨some ((idxB vs t.n).getD 0), noWord⟩ else ⟨none, t.n⟩
def patOf (vs : List ByteArray) (a : GA) : GPat := ⟨a.n, a.args.map (slotOf vs)⟩
def partsOf (vs : List ByteArray) (body : List GP) : List GPat := (body.filter fun p => !p.no).map fun p => patOf vs p.atom
def notsOf (vs : List ByteArray) (body : List GP) : List GPat := (body.filter fun p => p.no).map fun p => patOf vs p.atom
def seOf (list : List GA) (rounds : List Nat) (vs : List ByteArray) (body : List GP) (wanted : List Bool) : SE := ⟨list, rounds, partsOf vs body, notsOf vs body, wanted, false, 0⟩
def sigW (vs : List ByteArray) (V : Words) (x : ByteArray) : ByteArray := V.at_ ((idxB vs x).getD 0)
theorem word_slot (vs : List ByteArray) (V : Words) (t : GT) : wordOf V (slotOf vs t) = valS (sigW vs V) t := by
  unfold slotOf valS
  split <;> rfl
theorem holds_pat {facts : List GA} {vs : List ByteArray} {a : GA} {V : Words} : Holds facts (patOf vs a) V ↔ HoldsS facts a (sigW vs V) := by
  have e : (patOf vs a).slots.map (wordOf V) = a.args.map (valS (sigW vs V)) := by
    unfold patOf
    rw [List.map_map]
    exact List.map_congr_left fun t _ => word_slot vs V t
  unfold Holds HoldsS
  rw [e]
  exact Iff.rfl
theorem keyA_same {a b : GA} : keyA a = keyA b ↔ sameA a b = true := by
  rw [same_iff]
  unfold keyA argKeys
  constructor
  · intro h
    injection h with h1 h2
    refine ⟨bytes_inj h1, ?_⟩
    have e : ∀ l : List GT, l.map (fun t => t.n.data.toList) = (l.map (·.n)).map (fun s => s.data.toList) := fun l => by rw [List.map_map]; rfl
    rw [e, e] at h2
    refine List.map_inj_right (f := fun s : ByteArray => s.data.toList) (fun x y h => bytes_inj h) |>.1 h2
  · rintro ⟨h1, h2⟩
    have e : ∀ l : List GT, l.map (fun t => t.n.data.toList) = (l.map (·.n)).map (fun s => s.data.toList) := fun l => by rw [List.map_map]; rfl
    rw [h1, e, e, h2]
theorem hasA_same {list : List GA} (ha : Asc list) {x : GA} : hasA list x = true ↔ ∃ y ∈ list, sameA y x = true := by
  rw [hasA_iff list x ha]
  constructor
  · rintro ⟨y, h1, h2⟩; exact ⟨y, h1, keyA_same.1 ((cmpA_eq y x).1 h2)⟩
  · rintro ⟨y, h1, h2⟩; exact ⟨y, h1, (cmpA_eq y x).2 (keyA_same.2 h2)⟩
theorem hasA_holds {list : List GA} (ha : Asc list) {a : GA} {b : LB} {σ : ByteArray → ByteArray} (hs : ∀ t ∈ a.args, t.v = true → sig b t.n = σ t.n) : hasA list (fillN a b) = true ↔ HoldsS list a σ := by
  rw [hasA_same ha]
  have e : (fillN a b).args.map (·.n) = a.args.map (valS σ) := by
    unfold fillN
    rw [List.map_map]
    refine List.map_congr_left fun t ht => ?_
    show (fillT b t).n = valS σ t
    unfold fillT valS
    by_cases hv : t.v = true
    · simp only [if_pos hv]; exact hs t ht hv
    · simp only [if_neg hv]
  constructor
  · rintro ⟨y, h1, h2⟩
    obtain ⟨h3, h4⟩ := same_iff.1 h2
    exact ⟨y, h1, h3, h4.trans e⟩
  · rintro ⟨y, h1, h3, h4⟩
    exact ⟨y, h1, same_iff.2 ⟨h3, h4.trans e.symm⟩⟩

/-- What may be asked: variables in order, each in something that must be; words are words. -/
structure Askable (body : List GP) (vs : List ByteArray) : Prop where
  nodup : vs.Nodup
  few : vs.length ≤ 12
  mem : ∀ p ∈ body, ∀ t ∈ p.atom.args, t.v = true → t.n ∈ vs
  tight : ∀ x ∈ vs, ∃ p ∈ body, p.no = false ∧ ∃ t ∈ p.atom.args, t.v = true ∧ t.n = x
  word : ∀ p ∈ body, ∀ t ∈ p.atom.args, t.v = false → isNo t.n = false
theorem idx_nodup : ∀ {vs : List ByteArray} {i : Nat} {x : ByteArray}, vs.Nodup → vs[i]? = some x → idxB vs x = some i
  | y :: l, 0, x, _, h => by
    have : y = x := by simpa using h
    unfold idxB; rw [if_pos this]
  | y :: l, i + 1, x, hn, h => by
    obtain ⟨h1, h2⟩ := List.nodup_cons.1 hn
    have hx : l[i]? = some x := by simpa using h
    have hne : ¬ y = x := fun e => h1 (e ▸ List.mem_of_getElem? hx)
    unfold idxB
    rw [if_neg hne, idx_nodup h2 hx]; rfl
theorem sigW_at {vs : List ByteArray} (hn : vs.Nodup) (V : Words) : vs.map (sigW vs V) = (List.range vs.length).map V.at_ := by
  apply List.ext_getElem?
  intro i
  rw [List.getElem?_map, List.getElem?_map]
  by_cases h : i < vs.length
  · rw [List.getElem?_eq_getElem h, List.getElem?_range h]
    simp only [Option.map_some]
    unfold sigW
    rw [idx_nodup hn (List.getElem?_eq_getElem h)]; rfl
  · rw [List.getElem?_eq_none (by omega), List.getElem?_eq_none (by simp; omega)]; rfl
def wantAll (n : Nat) : List Bool := (List.range 12).map fun i => decide (i < n)
theorem want_iff {n v : Nat} (h : n ≤ 12) : (wantAll n)[v]? = some true ↔ v < n := by
  unfold wantAll
  rw [List.getElem?_map]
  by_cases hv : v < 12
  · rw [List.getElem?_range hv]; simp
  · rw [List.getElem?_eq_none (by simp; omega)]; simp; omega
theorem se_ok {list : List GA} {rounds : List Nat} {body : List GP} {vs : List ByteArray} (hb : Askable body vs) (hf : ∀ a ∈ list, okFact a) : (seOf list rounds vs body (wantAll vs.length)).Ok 12 := by
  have hslot : ∀ p ∈ body, ∀ t ∈ p.atom.args, okSlot 12 (slotOf vs t) := fun p hp t ht => by
    unfold okSlot slotOf
    by_cases hv : t.v = true
    · rw [if_pos hv]
      simp only
      obtain ⟨i, hi⟩ := idxB_mem (hb.mem p hp t ht hv)
      rw [hi]
      exact Nat.lt_of_lt_of_le (idxB_lt hi) hb.few
    · rw [if_neg hv]
      simp only
      exact hb.word p hp t ht (by simpa using hv)
  refine ⟨?_, hf, rfl, by simp [seOf, wantAll], ?_, ?_⟩
  · intro p hp s hs
    obtain ⟨q, hq, rfl⟩ := List.mem_map.1 (show p ∈ partsOf vs body from hp)
    obtain ⟨t, ht, rfl⟩ := List.mem_map.1 (show s ∈ q.atom.args.map (slotOf vs) from hs)
    exact hslot q (List.mem_filter.1 hq).1 t ht
  · intro v hv
    have hlt := (want_iff hb.few).1 hv
    obtain ⟨p, hp, hno, t, ht, htv, htn⟩ := hb.tight vs[v] (List.getElem_mem hlt)
    refine ⟨patOf vs p.atom, List.mem_map.2 ⟨p, List.mem_filter.2 ⟨hp, by simp [hno]⟩, rfl⟩, slotOf vs t, List.mem_map_of_mem ht, ?_⟩
    unfold slotOf
    rw [if_pos htv, htn, idx_nodup hb.nodup (List.getElem?_eq_getElem hlt)]; rfl
  · intro p hp s hs v hv
    obtain ⟨q, hq, rfl⟩ := List.mem_map.1 (show p ∈ notsOf vs body from hp)
    obtain ⟨t, ht, rfl⟩ := List.mem_map.1 (show s ∈ q.atom.args.map (slotOf vs) from hs)
    unfold slotOf at hv
    split at hv
    · rename_i htv
      obtain ⟨i, hi⟩ := idxB_mem (hb.mem q (List.mem_filter.1 hq).1 t ht htv)
      rw [hi] at hv
      simp only [Option.getD_some, Option.some.injEq] at hv
      subst hv
      exact (want_iff hb.few).2 (idxB_lt hi)
    · cases hv
theorem hindered_iff {list : List GA} {rounds : List Nat} {body : List GP} {vs : List ByteArray} {wanted : List Bool} {V : Words} : (seOf list rounds vs body wanted).hindered V = true ↔ ∃ p ∈ body, p.no = true ∧ HoldsS list p.atom (sigW vs V) := by
  unfold SE.hindered
  rw [List.any_eq_true]
  constructor
  · rintro ⟨p, hp, h⟩
    obtain ⟨q, hq, rfl⟩ := List.mem_map.1 (show p ∈ notsOf vs body from hp)
    obtain ⟨hq1, hq2⟩ := List.mem_filter.1 hq
    obtain ⟨a, ha, hs⟩ := List.any_eq_true.1 h
    obtain ⟨h1, h2⟩ := same_iff.1 hs
    refine ⟨q, hq1, hq2, holds_pat.1 ⟨a, ha, h1.symm, ?_⟩⟩
    rw [← h2]
    unfold factP
    rw [List.map_map]; rfl
  · rintro ⟨q, hq1, hq2, hh⟩
    refine ⟨patOf vs q.atom, List.mem_map.2 ⟨q, List.mem_filter.2 ⟨hq1, hq2⟩, rfl⟩, List.any_eq_true.2 ?_⟩
    obtain ⟨a, ha, h1, h2⟩ := holds_pat.2 hh
    refine ⟨a, ha, same_iff.2 ⟨h1.symm, ?_⟩⟩
    rw [h2]
    unfold factP
    rw [List.map_map]; rfl

/-- All that the program tells of a body. -/
def toldAll (E : SE) : List Words := (told E (E.parts.length + 1) (2 ^ E.parts.length - 1) (List.replicate 12 noWord)).1
theorem full_bit {n i : Nat} : (2 ^ n - 1).testBit i = decide (i < n) := Nat.testBit_two_pow_sub_one n i
theorem full_bits (n : Nat) : bitsOf n (2 ^ n - 1) ≤ n := by
  unfold bitsOf
  refine Nat.le_trans List.countP_le_length ?_
  simp
theorem at_empty (v : Nat) : isNo (Words.at_ (List.replicate 12 noWord) v) = true := by
  unfold Words.at_
  rw [List.getD_eq_getElem?_getD, List.getElem?_replicate]
  split <;> rfl
theorem start_done {E : SE} {W : Words} : E.Done (2 ^ E.parts.length - 1) W := fun i p hp hb => by
  rw [full_bit] at hb
  have := (List.getElem?_eq_some_iff.1 hp).1
  simp [this] at hb
theorem empty_below {R : Words} (h : R.length = 12) : Words.below (List.replicate 12 noWord) R := ⟨by simp [h], fun v hv => by rw [at_empty] at hv; cases hv⟩

/-- THE SAME ROWS. -/
theorem rows_same {list : List GA} {rounds : List Nat} {body : List GP} {vs : List ByteArray} (hb : Askable body vs) (hf : ∀ a ∈ list, okFact a) (ha : Asc list) (r : List ByteArray) :
    (∃ V ∈ toldAll (seOf list rounds vs body (wantAll vs.length)), (List.range vs.length).map V.at_ = r) ↔ ∃ b ∈ allN list body, rowB vs b = r := by
  have hE := se_ok (rounds := rounds) hb hf
  constructor
  · rintro ⟨V, hV, rfl⟩
    obtain ⟨h1, h2, h3⟩ := told_right hE _ _ _ V (by simp) start_done hV
    have hpos : ∀ p ∈ body, p.no = false → HoldsS list p.atom (sigW vs V) := fun p hp hn => holds_pat.1 (h2 _ (List.mem_map.2 ⟨p, List.mem_filter.2 ⟨hp, by simp [hn]⟩, rfl⟩)).2
    obtain ⟨b, hbm, hbu⟩ := fold_meets (list := list) (out := [⟨[], []⟩]) (c := ⟨[], []⟩) (fun c hc => by
      have : c = ⟨[], []⟩ := by simpa using hc
      subst this; rfl) (by simp) (fun x u h => by cases h) hpos
    obtain ⟨k1, _, k3⟩ := fold_sound (fun c hc => by
      have : c = ⟨[], []⟩ := by simpa using hc
      subst this; rfl) hbm
    have hsig : ∀ x ∈ vs, sig b x = sigW vs V x := fun x hx => by
      obtain ⟨p, hp, hno, t, ht, htv, htn⟩ := hb.tight x hx
      obtain ⟨f, _, _, hfm⟩ := k3 p hp hno
      have : valB b t ∈ f.args.map (fun f => some f.n) := by rw [← hfm]; exact List.mem_map_of_mem ht
      obtain ⟨g, _, hg⟩ := List.mem_map.1 this
      unfold valB at hg
      rw [if_pos htv, htn] at hg
      unfold sig
      rw [← hg]
      exact hbu x g.n hg.symm
    refine ⟨b, List.mem_filter.2 ⟨hbm, ?_⟩, ?_⟩
    · unfold heldB
      rw [List.all_eq_true]
      intro p hp
      cases hno : p.no with
      | false => rfl
      | true =>
        have hn : hasA list (fillN p.atom b) = false := by
          cases hh : hasA list (fillN p.atom b) with
          | false => rfl
          | true =>
            have := (hasA_holds ha (fun t ht htv => hsig t.n (hb.mem p hp t ht htv))).1 hh
            rw [hindered_iff.2 ⟨p, hp, hno, this⟩] at h3
            cases h3
        rw [hn]; rfl
    · rw [← sigW_at hb.nodup]
      exact List.map_congr_left hsig
  · rintro ⟨b, hbm, rfl⟩
    obtain ⟨hbm, hheld⟩ := List.mem_filter.1 hbm
    obtain ⟨k1, _, k3⟩ := fold_sound (fun c hc => by
      have : c = ⟨[], []⟩ := by simpa using hc
      subst this; rfl) hbm
    obtain ⟨R, hR⟩ : ∃ R : Words, R = vs.map (sig b) ++ List.replicate (12 - vs.length) noWord := ⟨_, rfl⟩
    have hRl : R.length = 12 := by rw [hR]; simp; have := hb.few; omega
    have hRat : ∀ i, i < vs.length → R.at_ i = (vs.map (sig b)).getD i noWord := fun i hi => by
      unfold Words.at_
      rw [hR, List.getD_eq_getElem?_getD, List.getD_eq_getElem?_getD, List.getElem?_append_left (by simpa using hi)]
    have hsig : ∀ x ∈ vs, sigW vs R x = sig b x := fun x hx => by
      obtain ⟨i, hi⟩ := idxB_mem hx
      unfold sigW
      rw [hi]
      simp only [Option.getD_some]
      rw [hRat i (idxB_lt hi), List.getD_eq_getElem?_getD, List.getElem?_map, idxB_some hi]; rfl
    have hval : ∀ p ∈ body, p.no = false → ∃ f ∈ list, f.n = p.atom.n ∧ p.atom.args.map (valB b) = f.args.map (fun f => some f.n) := fun p hp hn => k3 p hp hn
    have hHS : ∀ p ∈ body, p.no = false → HoldsS list p.atom (sigW vs R) := fun p hp hn => by
      obtain ⟨f, hfm, hfn, hargs⟩ := hval p hp hn
      refine ⟨f, hfm, hfn, ?_⟩
      have e : (f.args.map (·.n)).map some = (p.atom.args.map (valS (sigW vs R))).map some := by
        rw [List.map_map, show (some ∘ fun x : GT => x.n) = fun f : GT => some f.n from rfl, ← hargs, List.map_map]
        refine List.map_congr_left fun t ht => ?_
        show valB b t = some (valS (sigW vs R) t)
        unfold valB valS
        by_cases hv : t.v = true
        · rw [if_pos hv, if_pos hv, hsig t.n (hb.mem p hp t ht hv)]
          have : valB b t ∈ f.args.map (fun f => some f.n) := by rw [← hargs]; exact List.mem_map_of_mem ht
          obtain ⟨g, _, hg⟩ := List.mem_map.1 this
          unfold valB at hg
          rw [if_pos hv] at hg
          unfold sig
          rw [← hg]; rfl
        · rw [if_neg hv, if_neg hv]
      exact (List.map_inj_right (f := some) (fun x y h => Option.some.inj h)).1 e
    have hknown : ∀ p ∈ (seOf list rounds vs body (wantAll vs.length)).parts, known R p ∧ Holds list p R := fun p hp => by
      obtain ⟨q, hq, rfl⟩ := List.mem_map.1 (show p ∈ partsOf vs body from hp)
      obtain ⟨hq1, hq2⟩ := List.mem_filter.1 hq
      have hno : q.no = false := by simpa using hq2
      have hh := hHS q hq1 hno
      refine ⟨fun s hs => ?_, holds_pat.2 hh⟩
      obtain ⟨t, ht, rfl⟩ := List.mem_map.1 (show s ∈ q.atom.args.map (slotOf vs) from hs)
      rw [word_slot]
      obtain ⟨f, hfm, _, hargs⟩ := hh
      have : valS (sigW vs R) t ∈ f.args.map (·.n) := by rw [hargs]; exact List.mem_map_of_mem ht
      obtain ⟨g, hg, hgn⟩ := List.mem_map.1 this
      rw [← hgn]
      exact (hf f hfm g hg).2
    have hnh : (seOf list rounds vs body (wantAll vs.length)).hindered R = false := by
      cases hh : (seOf list rounds vs body (wantAll vs.length)).hindered R with
      | false => rfl
      | true =>
        obtain ⟨p, hp, hno, hs⟩ := hindered_iff.1 hh
        have h1 := (hasA_holds ha (b := b) (fun t ht htv => (hsig t.n (hb.mem p hp t ht htv)).symm)).2 hs
        unfold heldB at hheld
        have := List.all_eq_true.1 hheld p hp
        rw [hno, h1] at this
        cases this
    obtain ⟨V, hV, hVR⟩ := told_all hE _ (2 ^ (seOf list rounds vs body (wantAll vs.length)).parts.length - 1) (List.replicate 12 noWord) R (by simp) (fun i hi => by rw [full_bit] at hi; simpa using hi) (Nat.lt_succ_of_le (full_bits _)) start_done (empty_below hRl) hknown hnh
    refine ⟨V, hV, ?_⟩
    have e : (List.range vs.length).map V.at_ = (List.range vs.length).map R.at_ := List.map_congr_left fun i hi => hVR i ((want_iff hb.few).2 (List.mem_range.1 hi))
    rw [e, ← sigW_at hb.nodup]
    exact List.map_congr_left hsig

end Go.Proofs.YtfjdijakgjhieaaGreat

namespace Go.Proofs.YtfjdijakgjhieaaGreat
set_option linter.unusedSimpArgs false
set_option linter.unusedVariables false
open Go.RowKit

/-! ### Strictly ascending -/
section
variable {α : Type} {c : α → α → Int}
def AscC (c : α → α → Int) (l : List α) : Prop := l.Pairwise fun a b => c a b < 0
theorem self_zero (h : Total c) (a : α) : c a a = 0 := (h.eq a a).2 rfl
theorem asc_ext (h : Total c) : ∀ {l m : List α}, AscC c l → AscC c m → (∀ x, x ∈ l ↔ x ∈ m) → l = m
  | [], [], _, _, _ => rfl
  | [], y :: m, _, _, hm => absurd ((hm y).2 (by simp)) (by simp)
  | x :: l, [], _, _, hm => absurd ((hm x).1 (by simp)) (by simp)
  | x :: l, y :: m, hl, hm, he => by
    obtain ⟨h1, h2⟩ := List.pairwise_cons.1 hl
    obtain ⟨k1, k2⟩ := List.pairwise_cons.1 hm
    have hxy : x = y := by
      rcases List.mem_cons.1 ((he x).1 (by simp)) with e | e
      · exact e
      · rcases List.mem_cons.1 ((he y).2 (by simp)) with e2 | e2
        · exact e2.symm
        · have a1 := k1 x e
          have a2 := h1 y e2
          rw [h.neg] at a1
          omega
    subst hxy
    congr 1
    refine asc_ext h h2 k2 fun z => ?_
    constructor
    · intro hz
      rcases List.mem_cons.1 ((he z).1 (List.mem_cons_of_mem _ hz)) with e | e
      · subst e
        have := h1 z hz
        rw [self_zero h] at this; omega
      · exact e
    · intro hz
      rcases List.mem_cons.1 ((he z).2 (List.mem_cons_of_mem _ hz)) with e | e
      · subst e
        have := k1 z hz
        rw [self_zero h] at this; omega
      · exact e
/-- One more, in its place, once. -/
def insC (c : α → α → Int) : List α → α → List α
  | [], s => [s]
  | x :: l, s => if c x s < 0 then x :: insC c l s else if c x s = 0 then x :: l else s :: x :: l
theorem insC_mem (h : Total c) : ∀ {l : List α} {s x : α}, x ∈ insC c l s ↔ x ∈ l ∨ x = s
  | [], s, x => by simp [insC]
  | y :: l, s, x => by
    simp only [insC]
    split
    · rw [List.mem_cons, insC_mem h, List.mem_cons]
      constructor
      · rintro (e | e | e)
        · exact .inl (.inl e)
        · exact .inl (.inr e)
        · exact .inr e
      · rintro ((e | e) | e)
        · exact .inl e
        · exact .inr (.inl e)
        · exact .inr (.inr e)
    · split
      · rename_i h1 h2
        have e := (h.eq y s).1 h2
        subst e
        constructor
        · exact .inl
        · rintro (e | e)
          · exact e
          · rw [e]; simp
      · rw [List.mem_cons]
        constructor
        · rintro (e | e)
          · exact .inr e
          · exact .inl e
        · rintro (e | e)
          · exact .inr e
          · exact .inl e
theorem insC_asc (h : Total c) : ∀ {l : List α} {s : α}, AscC c l → AscC c (insC c l s)
  | [], s, _ => List.pairwise_singleton _ _
  | y :: l, s, hl => by
    obtain ⟨h1, h2⟩ := List.pairwise_cons.1 hl
    simp only [insC]
    split
    · rename_i hlt
      refine List.pairwise_cons.2 ⟨fun z hz => ?_, insC_asc h h2⟩
      rcases (insC_mem h).1 hz with e | e
      · exact h1 z e
      · rw [e]; exact hlt
    · split
      · exact hl
      · rename_i h3 h4
        have hs : c s y < 0 := by
          have := h.neg y s
          omega
        refine List.pairwise_cons.2 ⟨fun z hz => ?_, hl⟩
        rcases List.mem_cons.1 hz with e | e
        · rw [e]; exact hs
        · exact h.trans s y z hs (h1 z e)
theorem foldC_mem (h : Total c) : ∀ {vs out : List α} {x : α}, x ∈ vs.foldl (insC c) out ↔ x ∈ out ∨ x ∈ vs
  | [], out, x => by simp
  | v :: vs, out, x => by
    rw [List.foldl_cons, foldC_mem h, insC_mem h, List.mem_cons, or_assoc]
theorem foldC_asc (h : Total c) : ∀ {vs out : List α}, AscC c out → AscC c (vs.foldl (insC c) out)
  | [], _, ho => ho
  | v :: vs, out, ho => foldC_asc h (vs := vs) (out := insC c out v) (insC_asc h ho)
/-- In order, and no two alike: strictly in order. -/
theorem asc_of_sorted (h : Total c) {l : List α} (hs : l.Pairwise fun a b => c a b ≤ 0) (hn : l.Nodup) : AscC c l := by
  have := hs.and hn
  refine this.imp fun {a b} hab => ?_
  have hne : c a b ≠ 0 := fun e => hab.2 ((h.eq a b).1 e)
  have := hab.1
  omega
end

/-! ### Rows -/
theorem cmpS_total : Total cmpS where
  eq a b := by
    unfold cmpS
    rw [bytes_total.eq]
    exact ⟨fun h => bytes_inj h, fun h => by rw [h]⟩
  neg a b := by unfold cmpS; exact bytes_total.neg _ _
  trans a b d h1 h2 := by unfold cmpS at *; exact bytes_total.trans _ _ _ h1 h2
def cmpR (a b : List ByteArray) : Int := lexC cmpS a b
theorem cmpR_total : Total cmpR := lex_total cmpS_total
/-- What is asked, in order. -/
def askN (list : List GA) (body : List GP) (vs : List ByteArray) : List (List ByteArray) := ((allN list body).map (rowB vs)).foldl (insC cmpR) []
theorem askN_asc (list : List GA) (body : List GP) (vs : List ByteArray) : AscC cmpR (askN list body vs) := foldC_asc cmpR_total List.Pairwise.nil
theorem askN_mem {list : List GA} {body : List GP} {vs : List ByteArray} {r : List ByteArray} : r ∈ askN list body vs ↔ ∃ b ∈ allN list body, rowB vs b = r := by
  unfold askN
  rw [foldC_mem cmpR_total]
  simp
def rowW (n : Nat) (V : Words) : List ByteArray := (List.range n).map V.at_
/-- What the program tells, sorted, is what the reference answers. -/
theorem ask_same {list : List GA} {rounds : List Nat} {body : List GP} {vs : List ByteArray} (hb : Askable body vs) (hf : ∀ a ∈ list, okFact a) (ha : Asc list) {rows : List (List ByteArray)}
    (hp : rows.Perm ((toldAll (seOf list rounds vs body (wantAll vs.length))).map (rowW vs.length))) (hs : rows.Pairwise fun a b => cmpR a b ≤ 0) : rows = askN list body vs := by
  have hE := se_ok (rounds := rounds) hb hf
  have hap := told_apart hE (fun p hp s hs v hv => ?_) ?_ ((seOf list rounds vs body (wantAll vs.length)).parts.length + 1) (2 ^ (seOf list rounds vs body (wantAll vs.length)).parts.length - 1) (List.replicate 12 noWord) (by simp) start_done
  · have hnd : ((toldAll (seOf list rounds vs body (wantAll vs.length))).map (rowW vs.length)).Nodup := by
      unfold List.Nodup
      rw [List.pairwise_map]
      refine List.Pairwise.imp (fun {V V'} hV e => ?_) hap
      obtain ⟨v, hv, hne⟩ := hV
      have hlt := (want_iff hb.few).1 hv
      unfold rowW at e
      have e2 := congrArg (fun l => l[v]?) e
      simp only [List.getElem?_map, List.getElem?_range hlt, Option.map_some, Option.some.injEq] at e2
      exact hne e2
    refine asc_ext cmpR_total (asc_of_sorted cmpR_total hs (hp.nodup_iff.2 hnd)) (askN_asc _ _ _) fun r => ?_
    rw [askN_mem, ← rows_same (rounds := rounds) hb hf ha, hp.mem_iff, List.mem_map]
    exact Iff.rfl
  · obtain ⟨q, hq, rfl⟩ := List.mem_map.1 (show p ∈ partsOf vs body from hp)
    obtain ⟨t, ht, rfl⟩ := List.mem_map.1 (show s ∈ q.atom.args.map (slotOf vs) from hs)
    unfold slotOf at hv
    split at hv
    · rename_i htv
      obtain ⟨i, hi⟩ := idxB_mem (hb.mem q (List.mem_filter.1 hq).1 t ht htv)
      rw [hi] at hv
      simp only [Option.getD_some, Option.some.injEq] at hv
      subst hv
      exact (want_iff hb.few).2 (idxB_lt hi)
    · cases hv
  · refine List.Pairwise.imp (fun {a b} hab => ?_) ha
    cases h : sameA a b with
    | false => rfl
    | true =>
      have := (cmpA_eq a b).2 (keyA_same.2 h)
      omega

end Go.Proofs.YtfjdijakgjhieaaGreat

namespace Go.Proofs.YtfjdijakgjhieaaGreat
open Go.RowKit

end Go.Proofs.YtfjdijakgjhieaaGreat

namespace Go.Proofs.YtfjdijakgjhieaaGreat
open Go.RowKit

/-! ### Changes -/
open Classical in
noncomputable def changeOf (l : List UInt8) : Option GC := if h : ∃ g, changeOkB g = true ∧ changeL g = l then some h.choose else none
end Go.Proofs.YtfjdijakgjhieaaGreat

namespace Go.Proofs.YtfjdijakgjhieaaGreat
set_option linter.unusedSimpArgs false
set_option linter.unusedVariables false
open Go.RowKit

def partOkB (p : GP) : Bool := atomOkB p.atom
/-! ### Texts, ascending -/
theorem ltS_less (a b : ByteArray) : Op.bytesLess a.toList b.toList = ltS a b := by
  unfold ltS
  cases h : Op.bytesLess a.toList b.toList
  · cases h2 : (!a.toList == b.toList)
    · have := cmpS_same h h2
      unfold cmpS at this
      rw [this]; rfl
    · have := cmpS_more h h2
      unfold cmpS at this
      rw [this]; rfl
  · have := cmpS_less h
    unfold cmpS at this
    rw [this]; rfl
theorem str_ne' {a b : ByteArray} (h : a ≠ b) : (a.toList == b.toList) = false := by
  rw [beq_eq_false_iff_ne, ByteArray.toList_eq, ByteArray.toList_eq]
  intro e
  apply h
  cases a; cases b
  simp at e
  rw [e]
theorem putS_len (l : List ByteArray) (s : ByteArray) : (putS l s).length ≤ l.length + 1 := by
  induction l with
  | nil => exact Nat.le_refl _
  | cons x l ih =>
    unfold putS
    split
    · simp; exact ih
    · split <;> simp

/-! ### Variables -/
def varsTo (os : List ByteArray) (l : List GT) : List ByteArray := ((l.filter (·.v)).map (·.n)).foldl putS os
theorem varsTo_len (os : List ByteArray) : ∀ l : List GT, (varsTo os l).length ≤ os.length + l.length := by
  intro l
  unfold varsTo
  generalize hvs : (l.filter (·.v)).map (·.n) = vs
  have hl : vs.length ≤ l.length := by rw [← hvs, List.length_map]; exact List.length_filter_le _ _
  clear hvs
  have key : ∀ (vs os : List ByteArray), (vs.foldl putS os).length ≤ os.length + vs.length := by
    intro vs
    induction vs with
    | nil => intro os; exact Nat.le_refl _
    | cons v vs ih =>
      intro os
      have h1 := ih (putS os v)
      have h2 := putS_len os v
      simp only [List.foldl_cons, List.length_cons]
      omega
  have := key vs os
  omega

theorem varsPut_len (o : List ByteArray) (a : GA) : (varsPut o a).length ≤ o.length + a.args.length := varsTo_len o a.args

end Go.Proofs.YtfjdijakgjhieaaGreat

namespace Go.Proofs.YtfjdijakgjhieaaGreat
set_option linter.unusedSimpArgs false
set_option linter.unusedVariables false
open Go.RowKit

set_option maxRecDepth 100000 in
theorem nan_any (x : ByteArray) (w : World) : Calls Tryz.prog 159 #[.string x] w fun e w' => e = .returned (.bool false) ∧ w' = w := by
  have e : (!x.toList == x.toList) = false := by simp
  go_enter Tryz.func159, Tryz.ntmps159
  go_wp2
  go_ret
  first
    | exact ⟨rfl, rfl⟩
    | (refine ⟨?_, rfl⟩; simp)

set_option maxRecDepth 100000 in
theorem less_any (x y : ByteArray) (w : World) : Calls Tryz.prog 170 #[.string x, .string y] w fun e w' => e = .returned (.bool (Op.bytesLess x.toList y.toList)) ∧ w' = w := by
  have tok : True := trivial
  go_enter Tryz.func170, Tryz.ntmps170
  go_wp2_with (first | (go_at_call 159; refine (nan_any _ _).mono ?_; rintro e w1 ⟨rfl, e1⟩; obtain rfl : w = w1 := e1.symm) | fail)
  go_ret
  exact ⟨rfl, rfl⟩

theorem asc_less {xs : List ByteArray} (ha : AscS xs) {i k : Nat} {s x : ByteArray} (hi : xs[i]? = some s) (hk : xs[k]? = some x) : Op.bytesLess x.toList s.toList = decide (k < i) := by
  rw [ltS_less]
  obtain ⟨h1, rfl⟩ := List.getElem?_eq_some_iff.1 hi
  obtain ⟨h2, rfl⟩ := List.getElem?_eq_some_iff.1 hk
  rcases Nat.lt_trichotomy k i with h | h | h
  · rw [decide_eq_true h]; exact List.pairwise_iff_getElem.1 ha k i h2 h1 h
  · subst h; rw [decide_eq_false (by omega)]
    exact ltS_irr _
  · rw [decide_eq_false (by omega)]
    have := List.pairwise_iff_getElem.1 ha i k h1 h2 h
    cases hh : ltS xs[k] xs[i] with
    | false => rfl
    | true => have h3 := ltS_trans hh this; rw [ltS_irr] at h3; cases h3

set_option maxRecDepth 100000 in
set_option maxHeartbeats 4000000 in
theorem binSearch_any (xs : List ByteArray) (v : Value) (s : ByteArray) (i : Nat) (w : World) {V : Nat → Prop} (h : StrsR V w v xs) (ha : AscS xs) (hi : xs[i]? = some s) (hl : xs.length ≤ 4294967296) :
    Calls Tryz.prog 178 #[v, .string s] w fun e w' => e = .returned (.tuple #[.int .i64 (i : Int), .bool true]) ∧ w' = w := by
  obtain ⟨A, c, rfl, hc1, hc2⟩ := SliceR.form h
  have hil : i < xs.length := (List.getElem?_eq_some_iff.1 hi).1
  have HS := Lib.hid h
  have HA := Lib.hid ha
  have HI := Lib.hid hi
  clear h ha hi
  go_enter Tryz.func178, Tryz.ntmps178
  go_wp2_with fail
  go_loopw [7, 8, 9] (fun a b m wr => ∃ lo hi : Nat, a = .int .i64 lo ∧ b = .int .i64 hi ∧ lo ≤ i ∧ i ≤ hi ∧ hi ≤ xs.length ∧ wr = w) (fun a b _ _ => (intOf b - intOf a).toNat)
  case atStart => exact ⟨0, xs.length, rfl, rfl, Nat.zero_le _, by omega, Nat.le_refl _, rfl⟩
  case round =>
    obtain ⟨lo, hi, rfl, rfl, h1, h2, h3, rfl⟩ := hrel
    by_cases hlt : lo < hi
    · have hlt1 : (lo : Int) < (hi : Int) := by omega
      have hm1 : (lo + hi) / 2 < xs.length := by omega
      obtain ⟨b, o, x, rfl, hb, hx, _, hcell⟩ := StrsR.at_ HS.out hm1
      have hls := asc_less HA.out HI.out hx
      by_cases hm : (lo + hi) / 2 < i
      · rw [decide_eq_true hm] at hls
        have HM := Lib.hid hm
        have hm0 : (((lo + hi) / 2 : Nat) : Int) = ((lo : Int) + (hi : Int)) / 2 := by omega
        have HM0 := Lib.hid hm0
        clear hm hm0
        go_wp2_with (first | (go_at_call 170; refine (less_any _ _ _).mono ?_; rintro e w1 ⟨rfl, e1⟩; obtain rfl : wr = w1 := e1.symm) | fail)
        have hm := HM.out
        have hm0 := HM0.out
        go_roundw
        case rel => exact ⟨(lo + hi) / 2 + 1, hi, congrArg _ (by omega), rfl, by omega, h2, h3, trivial⟩
        case measure => simp [intOf]; omega
      · rw [decide_eq_false hm] at hls
        have HM := Lib.hid hm
        have hm0 : (((lo + hi) / 2 : Nat) : Int) = ((lo : Int) + (hi : Int)) / 2 := by omega
        have HM0 := Lib.hid hm0
        clear hm hm0
        go_wp2_with (first | (go_at_call 170; refine (less_any _ _ _).mono ?_; rintro e w1 ⟨rfl, e1⟩; obtain rfl : wr = w1 := e1.symm) | fail)
        have hm := HM.out
        have hm0 := HM0.out
        go_roundw
        case rel => exact ⟨lo, (lo + hi) / 2, rfl, congrArg _ (by omega), h1, by omega, by omega, trivial⟩
        case measure => simp [intOf]; omega
    · have hlt1 : ¬ (lo : Int) < (hi : Int) := by omega
      obtain rfl : lo = hi := by omega
      obtain rfl : lo = i := by omega
      have hi1 : (lo : Int) < (xs.length : Int) := by omega
      obtain ⟨b, o, x, rfl, hb, hx, _, hcell⟩ := StrsR.at_ HS.out hil
      obtain rfl : x = s := Option.some.inj (hx.symm.trans HI.out)
      have e1 : (x.toList == x.toList) = true := by simp
      go_wp2_with fail
      go_ret2
      exact ⟨rfl, rfl⟩

end Go.Proofs.YtfjdijakgjhieaaGreat

namespace Go.Proofs
open Go.Shelf
def Tryz.lays190_ren : Go.Shelf.Ren := ⟨fun | 190 => 102 | 125 => 116 | 258 => 136 | 128 => 157 | 129 => 158 | 302 => 164 | 303 => 165 | 304 => 166 | 305 => 167 | 306 => 168 | 307 => 169 | 308 => 170 | 309 => 171 | 310 => 172 | 333 => 190 | 329 => 186 | 330 => 187 | 334 => 191 | 335 => 192 | 336 => 159 | 344 => 205 | n => n, fun | 31 => 56 | 9 => 9 | 3 => 3 | 46 => 155 | 0 => 0 | 51 => 201 | 53 => 203 | 4 => 4 | 183 => 195 | 182 => 194 | 131 => 101 | 5 => 5 | 218 => 226 | 222 => 230 | 228 => 246 | 229 => 247 | n => n, fun | n => n⟩
theorem Tryz.lays190 : Go.Proofs.Lays.n190 Tryz.prog Tryz.lays190_ren := {
  mixed := by kernel_rfl
  f125 := Tryz.func116.trans (congrArg some (by kernel_rfl))
  f128 := Tryz.func157.trans (congrArg some (by kernel_rfl))
  f129 := Tryz.func158.trans (congrArg some (by kernel_rfl))
  f190 := Tryz.func102.trans (congrArg some (by kernel_rfl))
  f258 := Tryz.func136.trans (congrArg some (by kernel_rfl))
  f302 := Tryz.func164.trans (congrArg some (by kernel_rfl))
  f303 := Tryz.func165.trans (congrArg some (by kernel_rfl))
  f304 := Tryz.func166.trans (congrArg some (by kernel_rfl))
  f305 := Tryz.func167.trans (congrArg some (by kernel_rfl))
  f306 := Tryz.func168.trans (congrArg some (by kernel_rfl))
  f307 := Tryz.func169.trans (congrArg some (by kernel_rfl))
  f308 := Tryz.func170.trans (congrArg some (by kernel_rfl))
  f309 := Tryz.func171.trans (congrArg some (by kernel_rfl))
  f310 := Tryz.func172.trans (congrArg some (by kernel_rfl))
  f329 := Tryz.func186.trans (congrArg some (by kernel_rfl))
  f330 := Tryz.func187.trans (congrArg some (by kernel_rfl))
  f333 := Tryz.func190.trans (congrArg some (by kernel_rfl))
  f334 := Tryz.func191.trans (congrArg some (by kernel_rfl))
  f335 := Tryz.func192.trans (congrArg some (by kernel_rfl))
  f336 := Tryz.func159.trans (congrArg some (by kernel_rfl))
  f344 := Tryz.func205.trans (congrArg some (by kernel_rfl))
  t0 := Tryz.underlying0
  a0 := Tryz.isAgg0
  z0 := Tryz.sizeOf0
  v0 := Tryz.zeroValue0
  t3 := Tryz.underlying3
  a3 := Tryz.isAgg3
  z3 := Tryz.sizeOf3
  v3 := Tryz.zeroValue3
  t4 := Tryz.underlying4
  a4 := Tryz.isAgg4
  z4 := Tryz.sizeOf4
  v4 := Tryz.zeroValue4
  t5 := Tryz.underlying5
  a5 := Tryz.isAgg5
  z5 := Tryz.sizeOf5
  v5 := Tryz.zeroValue5
  t9 := Tryz.underlying9
  a9 := Tryz.isAgg9
  z9 := Tryz.sizeOf9
  v9 := Tryz.zeroValue9
  t31 := Tryz.underlying56
  a31 := Tryz.isAgg56
  z31 := Tryz.sizeOf56
  v31 := Tryz.zeroValue56
  t46 := Tryz.underlying155
  a46 := Tryz.isAgg155
  z46 := Tryz.sizeOf155
  v46 := Tryz.zeroValue155
  t51 := Tryz.underlying201
  a51 := Tryz.isAgg201
  z51 := Tryz.sizeOf201
  v51 := Tryz.zeroValue201
  t53 := Tryz.underlying203
  a53 := Tryz.isAgg203
  z53 := Tryz.sizeOf203
  v53 := Tryz.zeroValue203
  t131 := Tryz.underlying101
  a131 := Tryz.isAgg101
  z131 := Tryz.sizeOf101
  v131 := Tryz.zeroValue101
  t182 := Tryz.underlying194
  a182 := Tryz.isAgg194
  z182 := Tryz.sizeOf194
  v182 := Tryz.zeroValue194
  t183 := Tryz.underlying195
  a183 := Tryz.isAgg195
  z183 := Tryz.sizeOf195
  v183 := Tryz.zeroValue195
  t218 := Tryz.underlying226
  a218 := Tryz.isAgg226
  z218 := Tryz.sizeOf226
  v218 := Tryz.zeroValue226
  t222 := Tryz.underlying230
  a222 := Tryz.isAgg230
  z222 := Tryz.sizeOf230
  v222 := Tryz.zeroValue230
  t228 := Tryz.underlying246
  a228 := Tryz.isAgg246
  z228 := Tryz.sizeOf246
  v228 := Tryz.zeroValue246
  t229 := Tryz.underlying247
  a229 := Tryz.isAgg247
  z229 := Tryz.sizeOf247
  v229 := Tryz.zeroValue247 }
open Go.Sort Go.RowKit in
theorem Tryz.slices_Sort_string (blk off cap : Nat) (ss : List (List UInt8)) (w : World) (hH : Holds encStr w blk off ss.toArray) (hblk : blk < w.heap.size) (hsz : ss.length < 4611686018427387904) :
    Calls Tryz.prog 102 #[.slice (some ⟨blk, off, none⟩) ss.length cap] w fun e w' =>
      e = .returned (.tuple #[]) ∧ ∃ n os, w' = grow (putRow encStr (Sort.ahead w n) blk off (ss.mergeSort fun x y => decide (x ≤ y)).toArray) os := Any.slices_Sort_string Tryz.lays190 blk off cap ss w hH hblk hsz
def Tryz.lays194_ren : Go.Shelf.Ren := ⟨fun | 194 => 103 | n => n, fun | 31 => 56 | 9 => 9 | 3 => 3 | 4 => 4 | 0 => 0 | n => n, fun | n => n⟩
theorem Tryz.lays194 : Go.Proofs.Lays.n194 Tryz.prog Tryz.lays194_ren := {
  mixed := by kernel_rfl
  f194 := Tryz.func103.trans (congrArg some (by kernel_rfl))
  t0 := Tryz.underlying0
  a0 := Tryz.isAgg0
  z0 := Tryz.sizeOf0
  v0 := Tryz.zeroValue0
  t3 := Tryz.underlying3
  a3 := Tryz.isAgg3
  z3 := Tryz.sizeOf3
  v3 := Tryz.zeroValue3
  t4 := Tryz.underlying4
  a4 := Tryz.isAgg4
  z4 := Tryz.sizeOf4
  v4 := Tryz.zeroValue4
  t9 := Tryz.underlying9
  a9 := Tryz.isAgg9
  z9 := Tryz.sizeOf9
  v9 := Tryz.zeroValue9
  t31 := Tryz.underlying56
  a31 := Tryz.isAgg56
  z31 := Tryz.sizeOf56
  v31 := Tryz.zeroValue56 }
open Go.RowKit Go.Lib Go.Sort in
/-- slices.Compact at []string, over an array: the library's two loops are walked. (LAID: no walk: one application.) -/
theorem Tryz.slices_Compact_string_arr (blk off cap : Nat) (d : Array (List UInt8)) (w : World) (hH : Holds encStr w blk off d) (hsz : d.size ≤ 9223372036854775807) (hcap : d.size ≤ cap) :
    Calls Tryz.prog 103 #[.slice (some ⟨blk, off, none⟩) d.size cap] w fun e w' => e = .returned (.slice (some ⟨blk, off, none⟩) (compactUpTo d d.size).length cap) ∧ ∃ q, w' = putRow encStr (Sort.ahead w q) blk off (compactUpTo d d.size ++ List.replicate (d.size - (compactUpTo d d.size).length) []).toArray := Any.slices_Compact_string_arr Tryz.lays194 blk off cap d w hH hsz hcap
open Go.RowKit Go.Lib Go.Sort in
/-- slices.Compact at []string: "Compact replaces consecutive runs of equal elements with a single copy. This is like the uniq command found on Unix. Compact modifies the contents of the slice s and returns the modified slice, which may have a smaller length. Compact zeroes the elements between the new length and the original length. The result preserves the nilness of s.": IT RETURNS THE SLICE CUT TO 'Lib.compact zs'; ITS CELLS HOLD 'Lib.compact zs', THEN ZERO VALUES up to the old length; all else is as it was, but for the count of draws. IN THE WORDS OF slices.Sort's CONTRACT ('Holds', 'putRow'): so the everyday 'slices.Sort(xs); xs = slices.Compact(xs)' goes from the one contract to the other. It asks 'zs.length ≤ cap' (every slice's: the reslicing 's[:k]' looks at it). Length 0, nil: '.._empty'. (LAID: no walk: one application.) -/
theorem Tryz.slices_Compact_string (blk off cap : Nat) (zs : List (List UInt8)) (w : World) (hH : Holds encStr w blk off zs.toArray) (hsz : zs.length ≤ 9223372036854775807) (hcap : zs.length ≤ cap) :
    Calls Tryz.prog 103 #[.slice (some ⟨blk, off, none⟩) zs.length cap] w fun e w' => e = .returned (.slice (some ⟨blk, off, none⟩) (Lib.compact zs).length cap) ∧ ∃ q, w' = putRow encStr (Sort.ahead w q) blk off (Lib.compact zs ++ List.replicate (zs.length - (Lib.compact zs).length) []).toArray := Any.slices_Compact_string Tryz.lays194 blk off cap zs w hH hsz hcap
open Go.RowKit Go.Lib Go.Sort in
/-- The same at a slice of length 0, a nil one too: it comes back as it is. (LAID: no walk: one application.) -/
theorem Tryz.slices_Compact_string_empty (a : Option Addr) (cap : Nat) (w : World) :
    Calls Tryz.prog 103 #[.slice a 0 cap] w fun e w' => e = .returned (.slice a 0 cap) ∧ w' = w := Any.slices_Compact_string_empty Tryz.lays194 a cap w
open Go.RowKit Go.Lib Go.Sort in
/-- slices.Compact at []string, of an argument. (LAID: no walk: one application.) -/
theorem Tryz.slices_Compact_string_cells (b off n c : Nat) (Sx : Nat → ByteArray) (w : World) (hbig : n ≤ 9223372036854775807) (hcap : n ≤ c) (hc : ∀ i, i < n → w.cell? ⟨b, off + i, none⟩ = some (.string (Sx i))) (hf : ∀ j, j < n → w.frozen? ⟨b, off + j, none⟩ = false) :
    Calls Tryz.prog 103 #[.slice (some ⟨b, off, none⟩) n c] w fun e w' => e = .returned (.slice (some ⟨b, off, none⟩) (Lib.compact (Lib.strsOf Sx n)).length c) ∧ ∃ q, w' = (w.drewN q).setCells b off ((Lib.compact (Lib.strsOf Sx n) ++ List.replicate (n - (Lib.compact (Lib.strsOf Sx n)).length) []).map encStr) := Any.slices_Compact_string_cells Tryz.lays194 b off n c Sx w hbig hcap hc hf
open Go.RowKit Go.Sort in
/-- .. and plain. (LAID: no walk: one application.) -/
theorem Tryz.slices_Sort_string_none (p : Option Addr) (cap : Nat) (w : World) :
    Calls Tryz.prog 102 #[.slice p 0 cap] w fun e w' => e = .returned (.tuple #[]) ∧ w' = w := Any.slices_Sort_string_none Tryz.lays190 p cap w
end Go.Proofs

namespace Go.Proofs.YtfjdijakgjhieaaGreat
set_option linter.unusedSimpArgs false
set_option linter.unusedVariables false
open Go.RowKit

/-- All variables of a body, ascending. -/
def varsN (body : List GP) : List ByteArray := body.foldl (fun o p => varsPut o p.atom) []
theorem varsN_asc (body : List GP) : AscS (varsN body) := (all_fold body [] List.Pairwise.nil).1
theorem varsN_mem {body : List GP} {x : ByteArray} : x ∈ varsN body ↔ ∃ p ∈ body, x ∈ varsOf p.atom := by
  unfold varsN
  rw [(all_fold body [] List.Pairwise.nil).2]
  simp
def bodyTight (body : List GP) : Bool := body.all fun p => (varsOf p.atom).all (boundIn body)
def askOkB (body : List GP) : Bool := decide (1 ≤ body.length ∧ body.length ≤ 4) && (body.all fun p => atomOkB p.atom) && bodyTight body
theorem varsOf_mem {a : GA} {x : ByteArray} : x ∈ varsOf a ↔ ∃ t ∈ a.args, t.v = true ∧ t.n = x := by
  unfold varsOf
  simp only [List.mem_map, List.mem_filter]
  constructor
  · rintro ⟨t, ⟨h1, h2⟩, h3⟩; exact ⟨t, h1, h2, h3⟩
  · rintro ⟨t, h1, h2, h3⟩; exact ⟨t, ⟨h1, h2⟩, h3⟩
theorem nameOk_word {s : ByteArray} (h : nameOkB s = true) : isNo s = false := by
  unfold nameOkB lettersB inB at h
  simp only [Bool.and_eq_true, decide_eq_true_eq] at h
  unfold isNo
  refine decide_eq_false fun e => ?_
  have := h.1.2.1
  rw [e] at this
  omega
theorem varOk_word {s : ByteArray} (h : varOkB s = true) : isNo s = false := by
  unfold varOkB at h
  simp only [Bool.and_eq_true] at h
  unfold isNo
  refine decide_eq_false fun e => ?_
  have h1 := h.1.1
  unfold capB at h1
  have : s.data.toList = [] := List.eq_nil_of_length_eq_zero (by simpa using e)
  rw [this] at h1
  cases h1
theorem termOk_word {t : GT} (h : termOkB t = true) : isNo t.n = false := by
  unfold termOkB at h
  split at h
  · exact varOk_word h
  · exact nameOk_word h
theorem atomOk_word {a : GA} (h : atomOkB a = true) : ∀ t ∈ a.args, isNo t.n = false := fun t ht => by
  unfold atomOkB at h
  simp only [Bool.and_eq_true] at h
  exact termOk_word (List.all_eq_true.1 h.2 t ht)
theorem fact_ok {a : GA} (h : factB a = true) : okFact a := fun t ht => by
  unfold factB at h
  simp only [Bool.and_eq_true] at h
  have h2 := List.all_eq_true.1 h.2 t ht
  exact ⟨by simpa using h2, atomOk_word h.1 t ht⟩
theorem flat_small {body : List GP} (h : ∀ p ∈ body, p.atom.args.length ≤ 3) : (body.flatMap fun p => varsOf p.atom).length ≤ 3 * body.length := by
  induction body with
  | nil => simp
  | cons p body ih =>
    have h1 := ih (fun q hq => h q (List.mem_cons_of_mem _ hq))
    have h2 := h p (by simp)
    have h3 : (varsOf p.atom).length ≤ p.atom.args.length := by
      unfold varsOf
      rw [List.length_map]
      exact List.length_filter_le _ _
    rw [List.flatMap_cons, List.length_append, List.length_cons]
    omega
theorem askOk_parts {body : List GP} (h : askOkB body = true) : 1 ≤ body.length ∧ body.length ≤ 4 ∧ (∀ p ∈ body, atomOkB p.atom = true) ∧ bodyTight body = true := by
  unfold askOkB at h
  simp only [Bool.and_eq_true, decide_eq_true_eq] at h
  exact ⟨h.1.1.1, h.1.1.2, List.all_eq_true.1 h.1.2, h.2⟩
theorem atomOk_few {a : GA} (h : atomOkB a = true) : a.args.length ≤ 3 := by
  unfold atomOkB at h
  simp only [Bool.and_eq_true, decide_eq_true_eq] at h
  exact h.1.2
theorem varsN_few {body : List GP} (h : ∀ p ∈ body, p.atom.args.length ≤ 3) (hb : body.length ≤ 4) : (varsN body).length ≤ 12 := by
  have h1 := nodup_len (varsN body) (body.flatMap fun p => varsOf p.atom) (varsN_asc body).nodup (fun x hx => by
    obtain ⟨p, hp, hx⟩ := varsN_mem.1 hx
    exact List.mem_flatMap.2 ⟨p, hp, hx⟩)
  have h2 := flat_small h
  omega
theorem askable {body : List GP} (h : askOkB body = true) : Askable body (varsN body) := by
  obtain ⟨h1, h2, h3, h4⟩ := askOk_parts h
  refine ⟨(varsN_asc body).nodup, varsN_few (fun p hp => atomOk_few (h3 p hp)) h2, fun p hp t ht hv => varsN_mem.2 ⟨p, hp, varsOf_mem.2 ⟨t, ht, hv, rfl⟩⟩, fun x hx => ?_, fun p hp t ht _ => atomOk_word (h3 p hp) t ht⟩
  obtain ⟨p, hp, hx⟩ := varsN_mem.1 hx
  unfold bodyTight at h4
  have h5 := List.all_eq_true.1 (List.all_eq_true.1 h4 p hp) x hx
  unfold boundIn at h5
  obtain ⟨q, hq, h6⟩ := List.any_eq_true.1 h5
  simp only [Bool.and_eq_true, Bool.not_eq_true'] at h6
  obtain ⟨t, ht, hv, hn⟩ := varsOf_mem.1 (memS_iff.1 h6.2)
  exact ⟨q, hq, h6.1, t, ht, hv, hn⟩

end Go.Proofs.YtfjdijakgjhieaaGreat

namespace Go.Proofs.YtfjdijakgjhieaaGreat
set_option linter.unusedSimpArgs false
set_option linter.unusedVariables false
open Go.RowKit

/-- Variables of terms, as they come. -/
def termVars (ts : List GT) : List ByteArray := (ts.filter (·.v)).map (·.n)
def flatVars (ps : List GP) : List ByteArray := ps.flatMap fun p => termVars p.atom.args
theorem flatVars_mem {ps : List GP} {x : ByteArray} : x ∈ flatVars ps ↔ x ∈ varsN ps := by
  rw [varsN_mem]
  unfold flatVars
  rw [List.mem_flatMap]
  exact Iff.rfl

theorem lt_word (x y : List UInt8) : x < y ↔ ltS (strOf x) (strOf y) = true := by
  rw [← ltS_less, bytesLess_eq, decide_eq_true_iff, ByteArray.toList_eq, ByteArray.toList_eq]
  exact Iff.rfl
theorem le_word (x y : List UInt8) : x ≤ y ↔ ltS (strOf y) (strOf x) = false := by
  rw [← Bool.not_eq_true, ← lt_word]
  exact Iff.rfl
theorem strOf_inj {x y : List UInt8} (h : strOf x = strOf y) : x = y := by
  have := congrArg (fun b : ByteArray => b.data.toList) h
  simpa [strOf] using this
theorem lt_of_le_ne {x y : List UInt8} (h : x ≤ y) (hn : x ≠ y) : x < y := by
  rw [lt_word]
  exact ltS_other ((le_word x y).1 h) (fun e => hn (strOf_inj e).symm)
theorem le_trans_word {x y z : List UInt8} (h : x ≤ y) (k : y ≤ z) : x ≤ z := by
  rw [le_word]
  cases hh : ltS (strOf z) (strOf x) with
  | false => rfl
  | true =>
    by_cases e : y = z
    · subst e; rw [le_word] at h; rw [h] at hh; cases hh
    · have h1 := (lt_word _ _).1 (lt_of_le_ne k e)
      have h2 := ltS_trans h1 hh
      rw [le_word] at h; rw [h] at h2; cases h2
theorem le_total_word (x y : List UInt8) : x ≤ y ∨ y ≤ x := by
  rw [le_word, le_word]
  cases h1 : ltS (strOf y) (strOf x) with
  | false => exact .inl rfl
  | true =>
    refine .inr ?_
    cases h2 : ltS (strOf x) (strOf y) with
    | false => rfl
    | true => have := ltS_trans h1 h2; rw [ltS_irr] at this; cases this

theorem comp_is {d : Array (List UInt8)} (hs : ∀ i j, i ≤ j → j < d.size → d[i]! ≤ d[j]!) : ∀ m, m ≤ d.size → (∀ x, x ∈ Lib.compactUpTo d m ↔ ∃ j, j < m ∧ d[j]! = x) ∧ (Lib.compactUpTo d m).Pairwise (· < ·)
  | 0, _ => ⟨fun x => ⟨fun h => by simp [Lib.compactUpTo] at h, fun ⟨j, h, _⟩ => absurd h (Nat.not_lt_zero _)⟩, by simp [Lib.compactUpTo]⟩
  | m + 1, hm => by
    obtain ⟨h1, h2⟩ := comp_is hs m (by omega)
    rw [Lib.compactUpTo_succ]
    by_cases hk : Lib.keeps d m = true
    · rw [if_pos hk]
      refine ⟨fun x => ?_, ?_⟩
      · rw [List.mem_append, h1, List.mem_singleton]
        constructor
        · rintro (⟨j, hj, rfl⟩ | rfl)
          · exact ⟨j, by omega, rfl⟩
          · exact ⟨m, by omega, rfl⟩
        · rintro ⟨j, hj, rfl⟩
          by_cases e : j = m
          · subst e; exact .inr rfl
          · exact .inl ⟨j, by omega, rfl⟩
      · refine List.pairwise_append.2 ⟨h2, List.pairwise_singleton _ _, fun a ha b hb => ?_⟩
        obtain ⟨j, hj, rfl⟩ := (h1 a).1 ha
        rw [List.mem_singleton] at hb; subst hb
        have hne : d[m]! ≠ d[m - 1]! := by
          unfold Lib.keeps at hk
          rcases of_decide_eq_true hk with h0 | h0
          · omega
          · exact h0
        have a1 := hs j (m - 1) (by omega) (by omega)
        have a2 := lt_of_le_ne (hs (m - 1) m (by omega) (by omega)) (fun e => hne e.symm)
        by_cases e : d[j]! = d[m - 1]!
        · rw [e]; exact a2
        · exact (lt_word _ _).2 (ltS_trans ((lt_word _ _).1 (lt_of_le_ne a1 e)) ((lt_word _ _).1 a2))
    · have hk' : Lib.keeps d m = false := by simpa using hk
      rw [if_neg hk, List.append_nil]
      refine ⟨fun x => ?_, h2⟩
      rw [h1]
      constructor
      · rintro ⟨j, hj, rfl⟩; exact ⟨j, by omega, rfl⟩
      · rintro ⟨j, hj, rfl⟩
        by_cases e : j = m
        · subst e
          unfold Lib.keeps at hk'
          have h0 := of_decide_eq_false hk'
          have h3 : j ≠ 0 := fun e => h0 (.inl e)
          have h4 : d[j]! = d[j - 1]! := Classical.byContradiction fun e => h0 (.inr e)
          exact ⟨j - 1, by omega, h4.symm⟩
        · exact ⟨j, by omega, rfl⟩

def sortW (zs : List (List UInt8)) : List (List UInt8) := zs.mergeSort fun x y => decide (x ≤ y)
theorem sortW_sorted (zs : List (List UInt8)) : (sortW zs).Pairwise fun x y => x ≤ y := by
  have h := List.pairwise_mergeSort (le := fun x y : List UInt8 => decide (x ≤ y)) (fun a b c h1 h2 => decide_eq_true (le_trans_word (of_decide_eq_true h1) (of_decide_eq_true h2)))
    (fun a b => by rcases le_total_word a b with h | h <;> simp [h]) zs
  exact h.imp fun h => of_decide_eq_true h
theorem compact_sorted (zs : List (List UInt8)) : (∀ x, x ∈ Lib.compact (sortW zs) ↔ x ∈ zs) ∧ (Lib.compact (sortW zs)).Pairwise (· < ·) := by
  have hs : ∀ i j, i ≤ j → j < (sortW zs).toArray.size → (sortW zs).toArray[i]! ≤ (sortW zs).toArray[j]! := by
    intro i j hij hj
    have hj' : j < (sortW zs).length := by simpa using hj
    have hi' : i < (sortW zs).length := by omega
    have e1 : (sortW zs).toArray[i]! = (sortW zs)[i] := by simp [getElem!_pos, hi']
    have e2 : (sortW zs).toArray[j]! = (sortW zs)[j] := by simp [getElem!_pos, hj']
    rw [e1, e2]
    by_cases e : i = j
    · subst e; rw [le_word]; exact ltS_irr _
    · exact List.pairwise_iff_getElem.1 (sortW_sorted zs) i j hi' hj' (by omega)
  obtain ⟨h1, h2⟩ := comp_is hs (sortW zs).length (by simp)
  refine ⟨fun x => ?_, h2⟩
  have h3 : x ∈ Lib.compact (sortW zs) ↔ _ := h1 x
  have hp : x ∈ sortW zs ↔ x ∈ zs := (List.mergeSort_perm zs fun x y => decide (x ≤ y)).mem_iff
  rw [h3, ← hp]
  have e : ∀ j (hj : j < (sortW zs).length), (sortW zs).toArray[j]! = (sortW zs)[j] := fun j hj => by simp [getElem!_pos, hj]
  constructor
  · rintro ⟨j, hj, rfl⟩
    rw [e j hj]; exact List.getElem_mem hj
  · intro hx
    obtain ⟨j, hj, rfl⟩ := List.getElem_of_mem hx
    exact ⟨j, hj, e j hj⟩
theorem compact_vars (ps : List GP) : (Lib.compact (sortW ((flatVars ps).map fun s => s.data.toList))).map strOf = varsN ps := by
  obtain ⟨h1, h2⟩ := compact_sorted ((flatVars ps).map fun s => s.data.toList)
  refine asc_ext cmpS_total ?_ ((varsN_asc ps).imp fun h => of_decide_eq_true h) (fun x => ?_)
  · refine List.pairwise_map.2 (h2.imp fun {a b} h => ?_)
    exact of_decide_eq_true ((lt_word a b).1 h)
  · rw [List.mem_map, ← flatVars_mem]
    constructor
    · rintro ⟨y, hy, rfl⟩
      obtain ⟨s, hs, rfl⟩ := List.mem_map.1 ((h1 y).1 hy)
      exact hs
    · intro hx
      exact ⟨x.data.toList, (h1 _).2 (List.mem_map.2 ⟨x, hx, rfl⟩), rfl⟩

end Go.Proofs.YtfjdijakgjhieaaGreat
