/- Part of the texts of a proof: own texts joined in the order of their building; what they say stands at each theorem. -/
import Derived.Test.YtfjdijakgjhieaaGreatBas20
import Derived.Test.YtfjdijakgjhieaaGreatBas06
import Derived.StillTailTactics
import Derived.Test.YtfjdijakgjhieaaGreatBas07
import Derived.Test.YtfjdijakgjhieaaGreatBas19
import Derived.Test.YtfjdijakgjhieaaGreatBas14
import Derived.Test.YtfjdijakgjhieaaGreatBas17
import Derived.Deep.RegionHeld3
import Derived.Test.YtfjdijakgjhieaaGreatBas03
import Derived.Test.YtfjdijakgjhieaaGreatBas02
import Derived.Laws.IdiomStrings
import Derived.Lib.ItoaNum
import Derived.Deep.RegionWith
import Derived.IntWalk
import Derived.Test.YtfjdijakgjhieaaGreatBas01
import Derived.Laws.CopyOwn
namespace Go.Proofs.YtfjdijakgjhieaaGreat
set_option linter.unusedSimpArgs false
set_option linter.unusedVariables false
open Go.RowKit

/-- Who wants rows: a function value, with a state of its own. -/
structure Yields (H : Hunt) {σ : Type} (n : Nat) (g : Nat) (caps : Array Value) (R : σ → World → Prop) (put : σ → List ByteArray → σ) (rank : σ → Nat) (N : Nat) : Prop where
 go : ∀ args w, (callFunc g args).run Tryz.prog w = .ok (.enter g args) w
 up : ∀ st r, rank (put st r) ≤ rank st + 1
 put : ∀ (st : σ) (Q : Sea) (w : World), Seek H Q w → R st w → H.G Q.W → rank st < N → Calls Tryz.prog g (#[.slice (some ⟨H.sb, 18, none⟩) n 12] ++ caps) w fun e w' => e = .returned (.tuple #[]) ∧ R (put st (rowW n Q.W)) w' ∧ Inside H.M w w'
 keep : ∀ st w w', R st w → Inside (fun b => b = H.sb) w w' → R st w'

theorem enters_rows1 : ∀ args w, (callFunc 113 args).run Tryz.prog w = .ok (.enter 113 args) w := enters_of Tryz.func113 (by kernel_rfl) (by rfl)

set_option maxRecDepth 100000 in
theorem run_words {n : Nat} (hn : n ≤ 12) (sb : Nat) (w : World) : (Instr.sliceAt 145 (.pointer (some ⟨sb, 18, none⟩)) none (some (.int .i64 (n : Int))) none).run Tryz.prog w = .ok (.slice (some ⟨sb, 18, none⟩) n 12) w := by
 have h1 : (0 : Int) ≤ (n : Int) := by omega
 have h2 : (n : Int) ≤ 12 := by omega
 simp [Instr.sliceAt, run_underlying Tryz.underlying145, Instr.sliceBounds, run_sliceBound, Tryz.sizeOf9, Result.andThen, h1, h2, hn, Addr.add, go_sem]

/-- What rows' function lies upon. -/
def RowsAt {σ : Type} (R : σ → World → Prop) (yb qb n : Nat) (g : Nat) (caps : Array Value) (A : Option Addr) (c : Nat) (st : σ) (w : World) : Prop :=
 R st w ∧ w.cell? ⟨yb, 0, none⟩ = some (.func (.func g) #[] caps) ∧ w.cell? ⟨qb, 2, none⟩ = some (.slice A n c) ∧ yb < w.heap.size ∧ qb < w.heap.size

set_option maxRecDepth 100000 in
set_option maxHeartbeats 2000000 in
theorem rows1_teller {σ : Type} (H : Hunt) {n g : Nat} {caps : Array Value} {R : σ → World → Prop} {put : σ → List ByteArray → σ} {rank : σ → Nat} {N : Nat} (hY : Yields H n g caps R put rank N) {yb qb : Nat} {A : Option Addr} {c : Nat} (hn : n ≤ 12) (hc : n ≤ c ∧ c ≤ 9223372036854775807)
 (h1 : yb ≠ H.sb) (h2 : qb ≠ H.sb) (h3 : ¬ H.M yb) (h4 : ¬ H.M qb) :
 Teller H 113 #[.pointer (some ⟨yb, 0, none⟩), .pointer (some ⟨qb, 0, none⟩)] (RowsAt R yb qb n g caps A c) (fun st W => (put st (rowW n W), true)) rank N := by
 refine ⟨enters_rows1, fun st Q w hs hr hG hrk => ?_, fun st w w' hr hi => ?_, fun st W => hY.up _ _⟩
 · obtain ⟨r1, r2, r3, r4, r5⟩ := hr
   have eg := hY.go
   have HY := Lib.hid (fun (W : World) (hW : Ext w W) => hY.put st Q W (hs.ext hW) (hY.keep _ _ _ r1 (Inside.of_ext hW)) hG hrk)
   have R2 := Lib.hid r2
   have R3 := Lib.hid r3
   obtain ⟨hc1, hc2⟩ := hc
   have sl := hs.sea.lt
   have hsl := fun W => run_words hn H.sb W
   clear hs r1 hG hrk hY
   show Calls _ _ #[.pointer (some ⟨H.sb, 18, none⟩), .pointer (some ⟨yb, 0, none⟩), .pointer (some ⟨qb, 0, none⟩)] _ _
   go_enter Tryz.func113, Tryz.ntmps113
   go_wp2_with fail
   go_still_tail 8, (by kernel_rfl)
   change wpList _ _ _ _ _ w.drew
   clear r2 r3
   go_wp2_with (first | (go_at_fn g; refine (HY.out _ (Ext.refl _).drew).mono ?_; rintro e w1 ⟨rfl, hr1, hi1⟩) | fail)
   go_ret
   have hi : Inside H.M w w1 := (Inside.of_ext (Ext.refl _).drew).trans' hi1
   exact ⟨rfl, ⟨hr1, hi.cell r4 h3 R2.out, hi.cell r5 h4 R3.out, Nat.lt_of_lt_of_le r4 hi.size, Nat.lt_of_lt_of_le r5 hi.size⟩, hi⟩
 · obtain ⟨r1, r2, r3, r4, r5⟩ := hr
   exact ⟨hY.keep _ _ _ r1 hi, hi.cell r4 h1 r2, hi.cell r5 h2 r3, Nat.lt_of_lt_of_le r4 hi.size, Nat.lt_of_lt_of_le r5 hi.size⟩

end Go.Proofs.YtfjdijakgjhieaaGreat

namespace Go.Proofs.YtfjdijakgjhieaaGreat
set_option linter.unusedSimpArgs false
set_option linter.unusedVariables false
open Go.RowKit

/-- Words: none yet, or a name that is fine. -/
def Gok (W : Words) : Prop := W.length = 12 ∧ ∀ x ∈ W, isNo x = true ∨ nameOkB x = true
theorem gok_empty : Gok (List.replicate 12 noWord) := ⟨List.length_replicate, fun x hx => .inl (by rw [List.eq_of_mem_replicate hx]; rfl)⟩
theorem gok_set {W : Words} {v : Nat} {x : ByteArray} (h : Gok W) (hx : nameOkB x = true) : Gok (W.set v x) := ⟨by rw [List.length_set]; exact h.1, fun y hy => by
 rcases List.mem_or_eq_of_mem_set hy with h1 | h1
 · exact h.2 y h1
 · exact .inr (h1 ▸ hx)⟩
theorem gok_bind {W : Words} {s : GS} {x : ByteArray} (h : Gok W) (hx : nameOkB x = true) : Gok (bindW W s x) := by
 unfold bindW
 cases s.v with
 | none => exact h
 | some v => exact gok_set h hx
theorem gok_match : ∀ (ss : List GS) (ts : List GT) (W : Words), (∀ t ∈ ts, nameOkB t.n = true) → Gok W → Gok (matchW ss ts W).1
 | [], ts, W, _, h => by simp only [matchW]; exact h
 | s :: ss, [], W, _, h => by simp only [matchW]; exact h
 | s :: ss, t :: ts, W, hts, h => by
   simp only [matchW]
   have hr : ∀ x ∈ ts, nameOkB x.n = true := fun x hx => hts x (List.mem_cons_of_mem _ hx)
   split
   · exact h
   · split
     · exact gok_match ss ts _ hr (gok_bind h (hts t List.mem_cons_self))
     · split
       · exact gok_match ss ts W hr h
       · exact h
theorem fact_names {a : GA} (h : factB a = true) : ∀ t ∈ a.args, nameOkB t.n = true := fun t ht => by
 unfold factB atomOkB at h
 simp only [Bool.and_eq_true, List.all_eq_true] at h
 have h1 := h.1.2 t ht
 have h2 := h.2 t ht
 unfold termOkB at h1
 rw [if_neg (by simpa using h2)] at h1
 exact h1
theorem gok_matchP {p : GPat} {a : GA} {W : Words} (ha : factB a = true) (h : Gok W) : Gok (matchP p a W).1 := by
 unfold matchP
 split
 · exact gok_match _ _ _ (fact_names ha) h
 · exact h
theorem gok_at {W : Words} (h : Gok W) (v : Nat) : isNo (W.at_ v) = true ∨ nameOkB (W.at_ v) = true := by
 unfold Words.at_
 rw [List.getD_eq_getElem?_getD]
 cases hg : W[v]? with
 | none => exact .inl rfl
 | some x => exact h.2 x (List.mem_of_getElem? hg)
theorem word_8 {x : ByteArray} (h : isNo x = true ∨ nameOkB x = true) : x.size ≤ 8 := by
 rcases h with h | h
 · have := of_decide_eq_true h; omega
 · exact (name_pos h).2

/-- A pattern that is fine. -/
structure PatOk (p : GPat) : Prop where
 n : nameOkB p.n = true
 few : p.slots.length ≤ 3
 slot : ∀ s ∈ p.slots, okSlot 12 s
 word : ∀ s ∈ p.slots, s.v = none → nameOkB s.w = true
theorem patOk_of {a : GA} {vs : List ByteArray} (ha : atomOkB a = true) (hm : ∀ t ∈ a.args, t.v = true → t.n ∈ vs) (hv : vs.length ≤ 12) : PatOk (patOf vs a) := by
 obtain ⟨h1, h2, h3⟩ := atom_parts ha
 refine ⟨h1, by show (a.args.map (slotOf vs)).length ≤ 3; rw [List.length_map]; exact h2, fun s hs => ?_, fun s hs hn => ?_⟩
 · obtain ⟨t, ht, rfl⟩ := List.mem_map.1 hs
   unfold okSlot slotOf
   by_cases htv : t.v = true
   · rw [if_pos htv]
     simp only
     obtain ⟨i, hi⟩ := idxB_mem (hm t ht htv)
     rw [hi]
     exact Nat.lt_of_lt_of_le (idxB_lt hi) hv
   · rw [if_neg htv]
     exact termOk_word (h3 t ht)
 · obtain ⟨t, ht, rfl⟩ := List.mem_map.1 hs
   by_cases htv : t.v = true
   · unfold slotOf at hn; rw [if_pos htv] at hn; cases hn
   · have h4 := h3 t ht
     unfold termOkB at h4
     rw [if_neg htv] at h4
     unfold slotOf; rw [if_neg htv]; exact h4
theorem wordOf_ok {W : Words} {p : GPat} (hW : Gok W) (hp : PatOk p) {s : GS} (hs : s ∈ p.slots) : isNo (wordOf W s) = true ∨ nameOkB (wordOf W s) = true := by
 unfold wordOf
 cases hv : s.v with
 | none => exact .inr (hp.word s hs hv)
 | some v => exact gok_at hW v
theorem factP_small {W : Words} {p : GPat} (hW : Gok W) (hp : PatOk p) : wAtom (factP W p) ≤ 4194304 := by
 unfold wAtom wTerms factP
 have h1 := (name_pos hp.n).2
 have h2 := hp.few
 have h3 : ∀ l : List GT, (∀ t ∈ l, t.n.size ≤ 8) → (l.map wTerm).sum ≤ 8 * l.length := by
  intro l
  induction l with
  | nil => intro _; simp
  | cons t l ih =>
    intro h
    have a1 := h t List.mem_cons_self
    have a2 := ih (fun x hx => h x (List.mem_cons_of_mem _ hx))
    rw [List.map_cons, List.sum_cons, List.length_cons]
    unfold wTerm at a2 ⊢; omega
 have h4 := h3 (p.slots.map fun s => ⟨false, wordOf W s⟩) (fun t ht => by
  obtain ⟨s, hs, rfl⟩ := List.mem_map.1 ht
  exact word_8 (wordOf_ok hW hp hs))
 simp only [List.length_map] at h4 ⊢
 omega
theorem factP_fact {W : Words} {p : GPat} (hW : Gok W) (hp : PatOk p) (hk : ∀ s ∈ p.slots, ∀ v, s.v = some v → isNo (W.at_ v) = false) : factB (factP W p) = true := by
 unfold factB atomOkB factP
 simp only [Bool.and_eq_true, List.all_eq_true, List.length_map]
 refine ⟨⟨⟨hp.n, decide_eq_true hp.few⟩, fun t ht => ?_⟩, fun t ht => ?_⟩
 · obtain ⟨s, hs, rfl⟩ := List.mem_map.1 ht
   unfold termOkB
   simp only [Bool.false_eq_true, if_false]
   rcases wordOf_ok hW hp hs with h | h
   · unfold wordOf at h ⊢
     cases hv : s.v with
     | none => exact hp.word s hs hv
     | some v => rw [hv] at h; simp only at h; rw [hk s hs v hv] at h; cases h
   · exact h
 · obtain ⟨s, hs, rfl⟩ := List.mem_map.1 ht
   rfl
theorem fact_same {a b : GA} (ha : factB a = true) (hb : factB b = true) : decide (strOf (atomL a) = strOf (atomL b)) = sameA a b := by
 apply Bool.eq_iff_iff.2
 rw [decide_eq_true_iff, same_iff]
 constructor
 · intro h
   have h1 : atomL a = atomL b := by
    have := congrArg (fun x : ByteArray => x.data.toList) h
    simpa [strOf] using this
   rw [atom_inj (factB_ok ha) (factB_ok hb) h1]
   exact ⟨rfl, rfl⟩
 · rintro ⟨h1, h2⟩
   have h3 : a = b := by
    have key : ∀ (l m : List GT), (∀ t ∈ l, t.v = false) → (∀ t ∈ m, t.v = false) → l.map (·.n) = m.map (·.n) → l = m := by
     intro l
     induction l with
     | nil => intro m _ _ h; cases m with
       | nil => rfl
       | cons _ _ => simp at h
     | cons x l ih => intro m hl hm h; cases m with
       | nil => simp at h
       | cons y m =>
         simp only [List.map_cons, List.cons.injEq] at h
         have e1 := hl x List.mem_cons_self
         have e2 := hm y List.mem_cons_self
         rw [ih m (fun t ht => hl t (List.mem_cons_of_mem _ ht)) (fun t ht => hm t (List.mem_cons_of_mem _ ht)) h.2]
         cases x; cases y; simp_all
    have h4 := key a.args b.args (fun t ht => (fact_ok ha t ht).1) (fun t ht => (fact_ok hb t ht).1) h2
    cases a; cases b; simp_all
   rw [h3]
theorem hasText_same {facts : List GA} (hf : ∀ a ∈ facts, factB a = true) {a : GA} (ha : factB a = true) : hasText facts a = facts.any (sameA a) := by
 unfold hasText
 induction facts with
 | nil => rfl
 | cons b l ih =>
   rw [List.any_cons, List.any_cons, ih (fun x hx => hf x (List.mem_cons_of_mem _ hx)), fact_same ha (hf b List.mem_cons_self)]

/-- A hunt fits: patterns are fine, facts are facts. -/
theorem fit_of {H : Hunt} (hG : H.G = Gok) (hf : ∀ a ∈ H.E.facts, factB a = true) (hp : ∀ p ∈ H.E.parts, PatOk p) (hn : ∀ p ∈ H.E.nots, PatOk p) (few : H.E.parts.length ≤ 4) (hr : H.E.rounds.length = H.E.facts.length) (hw : H.E.wanted.length = 12)
 (hwn : ∀ p ∈ H.E.nots, ∀ s ∈ p.slots, ∀ v, s.v = some v → H.E.wanted[v]? = some true)
 (nF : ¬ H.F H.sb) (nP : ¬ H.P H.sb) (nM : ¬ H.M H.sb) (FM : ∀ b, H.F b → ¬ H.M b) (PM : ∀ b, H.P b → ¬ H.M b) : H.Fit := by
 refine ⟨fun p h => ⟨(hp p h).slot, Nat.le_trans (hp p h).few (by omega)⟩, few, hr, hw, nF, nP, nM, FM, PM, fun W p j a hGW hpm hj hm => ?_, fun W hGW p h => ?_, fun W hGW hst => ?_⟩
 · rw [hG] at hGW ⊢
   exact gok_matchP (hf a (List.mem_of_getElem? hj)) hGW
 · rw [hG] at hGW
   exact ⟨(hn p h).slot, Nat.le_trans (hn p h).few (by omega), factP_small hGW (hn p h)⟩
 · rw [hG] at hGW
   unfold SE.hindered
   have hall : ∀ p ∈ H.E.nots, hasText H.E.facts (factP W p) = H.E.facts.any (sameA (factP W p)) := fun p h =>
    hasText_same hf (factP_fact hGW (hn p h) (fun s hs v hv => settled_iff.1 hst v (hwn p h s hs v hv)))
   generalize H.E.nots = l at hall
   induction l with
   | nil => rfl
   | cons p l ih => rw [List.any_cons, List.any_cons, hall p List.mem_cons_self, ih (fun q hq => hall q (List.mem_cons_of_mem _ hq))]

/-! ### What is told -/
theorem feed_go {σ : Type} (put : σ → List ByteArray → σ) (n : Nat) : ∀ (l : List Words) (st : σ), feed (fun st W => (put st (rowW n W), true)) l st = ((l.map (rowW n)).foldl put st, true)
 | [], st => rfl
 | W :: l, st => by
   simp only [feed, if_true, List.map_cons, List.foldl_cons]
   exact feed_go put n l _
theorem loop_len {E : SE} {rec_ : Words → List Words × Bool} {sd : Bool} {p : GPat} {W : Words} {B : Nat} (hr : ∀ W', (rec_ W').1.length ≤ B) : ∀ (l : List Nat) (held : Bool), (toldLoop E rec_ sd p W l held).1.length ≤ l.length * B
 | [], held => by simp [toldLoop]
 | j :: l, held => by
   have ih := fun h => loop_len hr l h (E := E) (sd := sd) (p := p) (W := W)
   have hB : ∀ h, (toldLoop E rec_ sd p W l h).1.length ≤ (l.length + 1) * B := fun h => Nat.le_trans (ih h) (Nat.mul_le_mul_right _ (Nat.le_succ _))
   rw [List.length_cons]
   simp only [toldLoop]
   split
   · exact hB _
   · split
     · exact hB _
     · rename_i a _
       have h2 := hr (matchP p a W).1
       have h3 := ih (held || (rec_ (matchP p a W).1).2)
       rw [Nat.add_mul, Nat.one_mul]
       split
       · split
         · show (rec_ (matchP p a W).1).1.length ≤ _; omega
         · simp only [List.length_append]; omega
       · split
         · simp
         · have := ih held; omega
theorem told_len {E : SE} {m : Nat} (hm : E.facts.length ≤ m) (h1 : 1 ≤ m) : ∀ (f left : Nat) (W : Words), (told E f left W).1.length ≤ m ^ f
 | 0, _, _ => by simp [told]
 | f + 1, left, W => by
   have hp : 1 ≤ m ^ (f + 1) := Nat.one_le_pow _ _ h1
   simp only [told]
   split
   · simp
   · split
     · simpa using hp
     · split
       · simp
       · rename_i i l hc
         split
         · simp
         · rename_i p hp2
           obtain ⟨_, q, _, hl⟩ := choose_is hc
           have hll : l.length ≤ m := by
            have h2 := nodup_most l (List.range E.facts.length) (by rw [hl]; exact cand_nodup _ _ _) (fun j hj => by
             rw [hl] at hj
             obtain ⟨a, ha, _⟩ := cand_is hj
             exact List.mem_range.2 (List.getElem?_eq_some_iff.1 ha).1)
            rw [List.length_range] at h2; omega
           refine Nat.le_trans (loop_len (B := m ^ f) (fun W' => told_len hm h1 f _ W') l false) ?_
           rw [Nat.pow_succ, Nat.mul_comm (m ^ f)]
           exact Nat.mul_le_mul_right _ hll
theorem toldAll_len {E : SE} (hm : E.facts.length ≤ 300) (hp : E.parts.length ≤ 4) : (toldAll E).length ≤ 2430000000000 := by
 have h1 := told_len hm (by omega) (E.parts.length + 1) (2 ^ E.parts.length - 1) (List.replicate 12 noWord)
 have h2 : 300 ^ (E.parts.length + 1) ≤ 300 ^ 5 := Nat.pow_le_pow_right (by omega) (by omega)
 have h3 : (300 : Nat) ^ 5 = 2430000000000 := by decide
 unfold toldAll
 omega
end Go.Proofs.YtfjdijakgjhieaaGreat

namespace Go.Proofs.YtfjdijakgjhieaaGreat
set_option linter.unusedSimpArgs false
set_option linter.unusedVariables false
open Go.RowKit

theorem size_set1' (w : World) (p : Addr) (u : Value) : (w.setCell p u).heap.size = w.heap.size := by simp [World.setCell]
theorem PatsR.form2 {S : Nat → Prop} {w : World} {v : Value} {xs : List GPat} (h : PatsR S w v xs) : ∃ A n c, v = .slice A n c ∧ Hid (n = xs.length) ∧ n ≤ c ∧ c ≤ 9223372036854775807 := by
 obtain ⟨A, c, rfl, h1, h2⟩ := SliceR.form h
 exact ⟨A, _, c, rfl, Lib.hid rfl, h1, h2⟩
theorem PatsR.low0 {S : Nat → Prop} {w : World} {v : Value} {xs : List GPat} (h : PatsR S w v xs) : PatsR (fun b => S b ∧ b < w.heap.size) w v xs := ListK.low (k := kPat) h
section
variable {w w' : World} {sb : Nat} {s : Sea}
theorem SeaAt.setT (h : SeaAt w sb s) {i : Nat} (hi : i < 12) (b : Bool) : SeaAt (w.setCell ⟨sb, 4 + i, none⟩ (.bool b)) sb { s with wanted := s.wanted.set i b } := by
 refine ⟨?_, h.lW, h.lB, by rw [List.length_set]; exact h.lw, h.small⟩
 have h1 := h.blk.set_ (4 + i) (.bool b)
 rwa [s.set_ { s with wanted := s.wanted.set i b } (by omega) (by
  unfold Sea.f
  rw [if_neg (by omega), if_neg (by omega), if_neg (by omega), if_neg (by omega), if_pos (by omega)]
  rw [show 4 + i - 4 = i by omega]
  show Value.bool ((s.wanted.set i b).getD i false) = _
  rw [List.getD_eq_getElem?_getD, List.getElem?_set_self (by rw [h.lw]; exact hi)]; rfl) (fun j hj hne => by
  by_cases h18 : 4 ≤ j ∧ j < 16
  · unfold Sea.f
    rw [if_neg (by omega), if_neg (by omega), if_neg (by omega), if_neg (by omega), if_pos (by omega)]
    rw [if_neg (by omega), if_neg (by omega), if_neg (by omega), if_neg (by omega), if_pos (by omega)]
    show Value.bool ((s.wanted.set i b).getD (j - 4) false) = _
    rw [List.getD_eq_getElem?_getD, List.getElem?_set_ne (by omega), ← List.getD_eq_getElem?_getD]
  · rcases (by omega : j = 0 ∨ j = 1 ∨ j = 2 ∨ j = 3 ∨ j = 16 ∨ j = 17 ∨ j = 18 ∨ j = 19 ∨ j = 20 ∨ j = 21 ∨ j = 22 ∨ j = 23 ∨ j = 24 ∨ j = 25 ∨ j = 26 ∨ j = 27 ∨ j = 28 ∨ j = 29 ∨ j = 30 ∨ j = 31 ∨ j = 32 ∨ j = 33 ∨ j = 34 ∨ j = 35 ∨ j = 36 ∨ j = 37 ∨ j = 38 ∨ j = 39 ∨ j = 40 ∨ j = 41 ∨ j = 42 ∨ j = 43) with rfl | rfl | rfl | rfl | rfl | rfl | rfl | rfl | rfl | rfl | rfl | rfl | rfl | rfl | rfl | rfl | rfl | rfl | rfl | rfl | rfl | rfl | rfl | rfl | rfl | rfl | rfl | rfl | rfl | rfl | rfl | rfl <;> rfl)] at h1
theorem SeaAt.setTell (h : SeaAt w sb s) (v : Value) : SeaAt (w.setCell ⟨sb, 43, none⟩ v) sb { s with tell := v } := by
 refine ⟨?_, h.lW, h.lB, h.lw, h.small⟩
 have h1 := h.blk.set_ 43 v
 rwa [s.set_ { s with tell := v } (j := 43) (u := v) (by omega) rfl (fun j hj hne => by
  rcases (by omega : j = 0 ∨ j = 1 ∨ j = 2 ∨ j = 3 ∨ j = 4 ∨ j = 5 ∨ j = 6 ∨ j = 7 ∨ j = 8 ∨ j = 9 ∨ j = 10 ∨ j = 11 ∨ j = 12 ∨ j = 13 ∨ j = 14 ∨ j = 15 ∨ j = 16 ∨ j = 17 ∨ j = 18 ∨ j = 19 ∨ j = 20 ∨ j = 21 ∨ j = 22 ∨ j = 23 ∨ j = 24 ∨ j = 25 ∨ j = 26 ∨ j = 27 ∨ j = 28 ∨ j = 29 ∨ j = 30 ∨ j = 31 ∨ j = 32 ∨ j = 33 ∨ j = 34 ∨ j = 35 ∨ j = 36 ∨ j = 37 ∨ j = 38 ∨ j = 39 ∨ j = 40 ∨ j = 41 ∨ j = 42) with rfl | rfl | rfl | rfl | rfl | rfl | rfl | rfl | rfl | rfl | rfl | rfl | rfl | rfl | rfl | rfl | rfl | rfl | rfl | rfl | rfl | rfl | rfl | rfl | rfl | rfl | rfl | rfl | rfl | rfl | rfl | rfl | rfl | rfl | rfl | rfl | rfl | rfl | rfl | rfl | rfl | rfl | rfl <;> rfl)] at h1
end
/-- The search as it is made. -/
def sea0 (st q0 q1 q2 t : Value) : Sea := ⟨st, q0, q1, q2, List.replicate 12 false, false, 0, List.replicate 12 noWord, List.replicate 12 0, 0, t⟩
theorem cells_eq {s : Sea} {cs : Array Value} (hs : cs.size = 44) (h : ∀ i, i < 44 → cs[i]? = some (s.f i)) : cs = s.cells := by
 apply Array.ext_getElem?
 intro i
 by_cases hi : i < 44
 · rw [s.at_ hi]; exact h i hi
 · rw [Array.getElem?_eq_none (by omega), Array.getElem?_eq_none (by rw [s.size]; omega)]
theorem want_set {k : Nat} (h : k < 12) : (wantAll k).set k true = wantAll (k + 1) := by
 rcases (by omega : k = 0 ∨ k = 1 ∨ k = 2 ∨ k = 3 ∨ k = 4 ∨ k = 5 ∨ k = 6 ∨ k = 7 ∨ k = 8 ∨ k = 9 ∨ k = 10 ∨ k = 11) with rfl | rfl | rfl | rfl | rfl | rfl | rfl | rfl | rfl | rfl | rfl | rfl <;> decide
/-- The search's block, new. -/
def seaCells (st q0 q1 q2 : Value) : Array Value := #[st, q0, q1, q2, .bool false, .bool false, .bool false, .bool false, .bool false, .bool false, .bool false, .bool false, .bool false, .bool false, .bool false, .bool false, .bool false, .int .i64 0, .string ⟨#[]⟩, .string ⟨#[]⟩, .string ⟨#[]⟩, .string ⟨#[]⟩, .string ⟨#[]⟩, .string ⟨#[]⟩, .string ⟨#[]⟩, .string ⟨#[]⟩, .string ⟨#[]⟩, .string ⟨#[]⟩, .string ⟨#[]⟩, .string ⟨#[]⟩, .int .i64 0, .int .i64 0, .int .i64 0, .int .i64 0, .int .i64 0, .int .i64 0, .int .i64 0, .int .i64 0, .int .i64 0, .int .i64 0, .int .i64 0, .int .i64 0, .int .i64 0, .nilFunc]
theorem sea0_at (st q0 q1 q2 : Value) (w : World) : SeaAt (w.alloc (.cells (seaCells st q0 q1 q2) 151)) w.heap.size (sea0 st q0 q1 q2 .nilFunc) := by
 refine ⟨?_, rfl, rfl, rfl, fun x hx => ?_⟩
 · rw [← cells_eq (s := sea0 st q0 q1 q2 .nilFunc) (cs := seaCells st q0 q1 q2) rfl (fun i hi => by
     rcases (by omega : i = 0 ∨ i = 1 ∨ i = 2 ∨ i = 3 ∨ i = 4 ∨ i = 5 ∨ i = 6 ∨ i = 7 ∨ i = 8 ∨ i = 9 ∨ i = 10 ∨ i = 11 ∨ i = 12 ∨ i = 13 ∨ i = 14 ∨ i = 15 ∨ i = 16 ∨ i = 17 ∨ i = 18 ∨ i = 19 ∨ i = 20 ∨ i = 21 ∨ i = 22 ∨ i = 23 ∨ i = 24 ∨ i = 25 ∨ i = 26 ∨ i = 27 ∨ i = 28 ∨ i = 29 ∨ i = 30 ∨ i = 31 ∨ i = 32 ∨ i = 33 ∨ i = 34 ∨ i = 35 ∨ i = 36 ∨ i = 37 ∨ i = 38 ∨ i = 39 ∨ i = 40 ∨ i = 41 ∨ i = 42 ∨ i = 43) with rfl | rfl | rfl | rfl | rfl | rfl | rfl | rfl | rfl | rfl | rfl | rfl | rfl | rfl | rfl | rfl | rfl | rfl | rfl | rfl | rfl | rfl | rfl | rfl | rfl | rfl | rfl | rfl | rfl | rfl | rfl | rfl | rfl | rfl | rfl | rfl | rfl | rfl | rfl | rfl | rfl | rfl | rfl | rfl <;> rfl)]
   exact Blk.new _ _ _
 · rw [List.eq_of_mem_replicate hx]; exact Nat.zero_le _
theorem fact_small {a : GA} (h : factB a = true) : a.args.length ≤ 1000 ∧ wAtom a ≤ 4194304 := by
 obtain ⟨h1, h2, h3⟩ := atom_parts (factB_ok h)
 refine ⟨by omega, ?_⟩
 unfold wAtom wTerms
 have k1 := (name_pos h1).2
 have k2 : ∀ l : List GT, (∀ t ∈ l, t.n.size ≤ 8) → (l.map wTerm).sum ≤ 8 * l.length := by
  intro l
  induction l with
  | nil => intro _; simp
  | cons t l ih =>
    intro h
    have a1 := h t List.mem_cons_self
    have a2 := ih (fun x hx => h x (List.mem_cons_of_mem _ hx))
    rw [List.map_cons, List.sum_cons, List.length_cons]
    unfold wTerm at a2 ⊢; omega
 have k3 := k2 a.args (fun t ht => (name_pos (fact_names h t ht)).2)
 omega

set_option maxRecDepth 100000 in
set_option maxHeartbeats 4000000 in
theorem rows_any {σ : Type} (xs : List GA) (ps : List GP) (v u : Value) (w : World) {S T : Nat → Prop} (hv : AtomsR S w v xs) (hu : PartsR T w u ps) (hS : ∀ b, S b → b < w.heap.size)
 (M0 : Nat → Prop) (hM0 : ∀ b, M0 b → b < w.heap.size) (hSM : ∀ b, S b → ¬ M0 b) (hf : ∀ a ∈ xs, factB a = true) (hl : xs.length ≤ 300) (hok : askOkB ps = true)
 {g : Nat} {caps : Array Value} {R : Nat → σ → World → Prop} {put : σ → List ByteArray → σ} {rank : σ → Nat} {N : Nat} (st0 : σ)
 (hY : ∀ (H : Hunt) (base : Nat), H.G = Gok → w.heap.size ≤ H.sb → H.sb < base → H.M = (fun b => M0 b ∨ base ≤ b) → Yields H (varsN ps).length g caps (R base) put rank N)
 (hR : ∀ W, Ext w W → R W.heap.size st0 W) (hN : rank st0 + (toldAll (seOf xs (List.replicate xs.length 0) (varsN ps) ps (wantAll (varsN ps).length))).length ≤ N) :
 Calls Tryz.prog 83 #[v, u, .func (.func g) #[] caps] w fun e w' => e = .returned (.tuple #[]) ∧
  (∃ base, w.heap.size ≤ base ∧ R base (((toldAll (seOf xs (List.replicate xs.length 0) (varsN ps) ps (wantAll (varsN ps).length))).map (rowW (varsN ps).length)).foldl put st0) w') ∧ Inside (fun b => M0 b ∨ w.heap.size ≤ b) w w' := by
 obtain ⟨a1, a2, a3, a4⟩ := askOk_parts hok
 have hps : ∀ p ∈ ps, p.atom.args.length ≤ 3 := fun p hp => atomOk_few (a3 p hp)
 have hn12 := varsN_few hps a2
 obtain ⟨A, c, rfl, hc1, hc2⟩ := SliceR.form hv
 obtain ⟨A', c', rfl, hc1', hc2'⟩ := SliceR.form hu
 have HQO := Lib.hid (fun (W : World) (hW : Ext w W) => queryOf_any ps _ W (hu.ext hW) (fun p hp => by have := hps p hp; omega) a2)
 have HSO := Lib.hid (fun (W : World) (hW : Ext w W) => storeOf_any xs _ W (hv.ext hW) (fun b hb => Nat.lt_of_lt_of_le (hS b hb) hW.size) (fun a ha => fact_small (hf a ha)) (by omega))
 have HY := Lib.hid hY
 have HR := Lib.hid hR
 have HN := Lib.hid hN
 have HF := Lib.hid hf
 have HS := Lib.hid hS
 have HM0 := Lib.hid hM0
 have HSM := Lib.hid hSM
 have HOK := Lib.hid hok
 have HA3 := Lib.hid a3
 clear hv hu hY hR hN hf hS hM0 hSM hok a1 a3 hps
 go_enter Tryz.func83, Tryz.ntmps83
 go_wp2_with (first | (go_at_call 111; refine (HQO.out _ ((Ext.refl w).alloc _)).mono ?_; rintro e w1 ⟨⟨v0, v1, v2, rfl, hq0, hq1, hq2⟩, hx1⟩; obtain ⟨P0, pn, pc, rfl, hpn, hp1, hp2⟩ := PatsR.form2 hq0; obtain ⟨N0, nn, nc, rfl, hnn, hn1, hn2⟩ := PatsR.form2 hq1; obtain ⟨V0, vn, vc, rfl, hvn, hv1, hv2⟩ := StrsR.form2 hq2) | fail)
 have HX1 := Lib.hid (show Ext w w1 from ((Ext.refl w).alloc _).trans' hx1)
 have HYB := Lib.hid (show Blk w1 w.heap.size 105 #[.func (.func g) #[] caps] from (Blk.new _ _ _).ext hx1)
 have hs1 : w.heap.size < w1.heap.size := HYB.out.lt
 have HQ0 := Lib.hid hq0
 have HQ1 := Lib.hid hq1
 have HQ2 := Lib.hid hq2
 have HB := Lib.hid (Blk.new w1 139 #[.slice P0 pn pc, .slice N0 nn nc, .slice V0 vn vc])
 clear hq0 hq1 hq2 hx1
 refine wp_region_noPanic ?_
 refine wp_region_held_drew (S := (fun w' => w'.cell? ⟨w1.heap.size, 0, none⟩ = some (.slice P0 pn pc) ∧ w'.cell? ⟨w1.heap.size, 1, none⟩ = some (.slice N0 nn nc) ∧ w'.cell? ⟨w1.heap.size, 2, none⟩ = some (.slice V0 vn vc))) (by kernel_rfl) ?_ (fun hHeld => ?_)
 · (try dsimp only); (first | exact ⟨HB.out.drew.cell 0, HB.out.drew.cell 1, HB.out.drew.cell 2⟩ | exact ⟨HB3.out.cell 0, HB3.out.cell 1, HB3.out.cell 2⟩ | exact ⟨(HB3.out.alloc _).cell 0, (HB3.out.alloc _).cell 1, (HB3.out.alloc _).cell 2⟩)
 refine tk 0 (v := ?_) rfl ?_ ?_
 rotate_left
 · (intro w hSw; (try dsimp only at hSw); go_simp) <;> with_reducible rfl
 try simp only [Act.put, stz]
 refine tk 2 (v := ?_) rfl ?_ ?_
 rotate_left
 · (intro w hSw; (try dsimp only at hSw); go_simp) <;> with_reducible rfl
 try simp only [Act.put, stz]
 refine wpAnyH_ready (rs := [1]) (by kernel_rfl) (by simp) ?_
 refine AllReadyH.cons (o := _) rfl (fun K hK => ?_) ?_
 · go_simp
   go_at_call 112; refine (HSO.out _ ((HX1.out.alloc _).drew)).mono ?_; rintro e w3 ⟨rfl, ⟨fv, rv, f, nm, np, hst⟩, hx3⟩
   have HX3 := Lib.hid (show Ext (w1.alloc (.cells #[.slice P0 pn pc, .slice N0 nn nc, .slice V0 vn vc] 139)) w3 from (Ext.refl _).drew.trans' hx3)
   have HB3 := Lib.hid (HB.out.ext HX3.out)
   have HST := Lib.hid (show StoreO (w1.heap.size + 1 + 1 + 1 + 1) S (fun b => b < w1.heap.size + 1) w3 (w1.heap.size + 1 + 1 + 1) (w1.heap.size + 1) (w1.heap.size + 1 + 1) fv rv f xs (List.replicate xs.length 0) (placesOf xs) nm (pmOf xs) np from by have h := hst; rwa [size_alloc_drew] at h)
   clear hx3 hst
   refine hK.out _ _ ?_ (fun hNew => ?_)
   · (try dsimp only); (first | exact ⟨HB.out.drew.cell 0, HB.out.drew.cell 1, HB.out.drew.cell 2⟩ | exact ⟨HB3.out.cell 0, HB3.out.cell 1, HB3.out.cell 2⟩ | exact ⟨(HB3.out.alloc _).cell 0, (HB3.out.alloc _).cell 1, (HB3.out.alloc _).cell 2⟩)
   clear hK K hHeld
   have hHeld := hNew
   clear hNew
   try simp only [Act.put, stz]
   refine tk 3 (v := ?_) rfl ?_ ?_
   rotate_left
   · (intro w hSw; (try dsimp only at hSw); go_simp) <;> with_reducible rfl
   try simp only [Act.put, stz]
   refine wpAnyH_ready (rs := [4]) (by kernel_rfl) (by simp) ?_
   refine AllReadyH.cons (o := _) rfl (fun K hK => ?_) ?_
   · go_simp
     refine hK.out _ _ ?_ (fun hNew => ?_)
     · (try dsimp only); (first | exact ⟨HB.out.drew.cell 0, HB.out.drew.cell 1, HB.out.drew.cell 2⟩ | exact ⟨HB3.out.cell 0, HB3.out.cell 1, HB3.out.cell 2⟩ | exact ⟨(HB3.out.alloc _).cell 0, (HB3.out.alloc _).cell 1, (HB3.out.alloc _).cell 2⟩)
     clear hK K hHeld
     have hHeld := hNew
     clear hNew
     try simp only [Act.put, stz]
     refine tk 5 (v := ?_) rfl ?_ ?_
     rotate_left
     · (intro w hSw; (try dsimp only at hSw); go_simp) <;> with_reducible rfl
     try simp only [Act.put, stz]
     refine wpAnyH_done (by kernel_rfl) ?_ _
     refine NoPanic.normal ?_
     obtain ⟨wb, hwb⟩ : ∃ x, x = w3.alloc (.cells (seaCells (.pointer (some ⟨w1.heap.size + 1 + 1 + 1, 0, none⟩)) (.slice P0 pn pc) (.slice N0 nn nc) (.slice V0 vn vc)) 151) := ⟨_, rfl⟩
     have HSE := Lib.hid (show SeaAt wb w3.heap.size (sea0 (.pointer (some ⟨w1.heap.size + 1 + 1 + 1, 0, none⟩)) (.slice P0 pn pc) (.slice N0 nn nc) (.slice V0 vn vc) .nilFunc) from by rw [hwb]; exact sea0_at _ _ _ _ _)
     have HXB := Lib.hid (show Ext w3 wb from by rw [hwb]; exact (Ext.refl _).alloc _)
     have HBS := Lib.hid (show wb.heap.size = w3.heap.size + 1 from by rw [hwb]; simp)
     have HBQ := Lib.hid (HB3.out.ext HXB.out)
     have hlq := HBQ.out.lt
     have b2 := HBQ.out.cell 2
     have HWB := Lib.hid hwb
     unfold seaCells at hwb
     rw [← hwb]
     clear hwb
     (try clear hHeld)
     go_wp2
     go_loopw [19] (fun i wr => ∃ k : Nat, k ≤ vn ∧ i = .int .i64 k ∧ Hid (SeaAt wr w3.heap.size { sea0 (.pointer (some ⟨w1.heap.size + 1 + 1 + 1, 0, none⟩)) (.slice P0 pn pc) (.slice N0 nn nc) (.slice V0 vn vc) .nilFunc with wanted := wantAll k } ∧ Inside (fun b => b = w3.heap.size) wb wr ∧ wr.heap.size = w3.heap.size + 1)) (fun i _ => vn - (intOf i).toNat)
     case atStart => exact ⟨0, Nat.zero_le _, rfl, Lib.hid ⟨HSE.out, Inside.refl _ _, HBS.out⟩⟩
     case round =>
      obtain ⟨k, hk, rfl, hrl⟩ := hrel
      have hk0 : (0 : Int) ≤ (k : Int) := by omega
      by_cases hlt : k < vn
      · have hk1 : (k : Int) < (vn : Int) := by omega
        have hk12 : k < 12 := by have := hvn.out; omega
        have hk2 : (k : Int) < 12 := by omega
        have hs1 := hrl.out.1.want hk12
        have hs2 := hrl.out.1.frozen (4 + k)
        have hs3 := hrl.out.1.lt
        go_wp2
        go_roundw
        case rel =>
         refine ⟨k + 1, by omega, by go_num, Lib.hid ⟨?_, hrl.out.2.1.trans' (Inside.set _ _ _ rfl), (size_set1' _ _ _).trans hrl.out.2.2⟩⟩
         have h := hrl.out.1.setT hk12 true
         rw [show ({ sea0 (.pointer (some ⟨w1.heap.size + 1 + 1 + 1, 0, none⟩)) (.slice P0 pn pc) (.slice N0 nn nc) (.slice V0 vn vc) .nilFunc with wanted := wantAll k } : Sea).wanted = wantAll k from rfl, want_set hk12] at h
         exact h
        case measure => simp [intOf]; omega
      · obtain rfl : k = vn := by omega
        obtain ⟨hsea, hin, hsz⟩ := hrl.out
        have hkn := hvn.out
        subst hkn
        have hs2 := hsea.frozen 43
        have hs3 := hsea.lt
        have hs1' := hsea.tell
        have HSEA := Lib.hid hsea
        have HIN := Lib.hid hin
        have HSZ := Lib.hid hsz
        have hs13 : w1.heap.size + 1 ≤ w3.heap.size := by have := HX3.out.size; simpa using this
        clear hsea hin hrl hsz
        have HALL := Lib.hid (show Calls Tryz.prog 114 #[.pointer (some ⟨w3.heap.size, 0, none⟩)] (wr.setCell ⟨w3.heap.size, 43, none⟩ (.func (.func 113) #[] #[.pointer (some ⟨w.heap.size, 0, none⟩), .pointer (some ⟨w1.heap.size, 0, none⟩)]))
         fun e w' => e = .returned (.tuple #[]) ∧ R (w3.heap.size + 1) (((toldAll (seOf xs (List.replicate xs.length 0) (varsN ps) ps (wantAll (varsN ps).length))).map (rowW (varsN ps).length)).foldl put st0) w' ∧ Inside (fun b => b = w3.heap.size ∨ M0 b ∨ w3.heap.size + 1 ≤ b) (wr.setCell ⟨w3.heap.size, 43, none⟩ (.func (.func 113) #[] #[.pointer (some ⟨w.heap.size, 0, none⟩), .pointer (some ⟨w1.heap.size, 0, none⟩)])) w' from by
         obtain ⟨w5, hw5⟩ : ∃ x, x = wr.setCell ⟨w3.heap.size, 43, none⟩ (.func (.func 113) #[] #[.pointer (some ⟨w.heap.size, 0, none⟩), .pointer (some ⟨w1.heap.size, 0, none⟩)]) := ⟨_, rfl⟩
         have hse5 := HSEA.out.setTell (.func (.func 113) #[] #[.pointer (some ⟨w.heap.size, 0, none⟩), .pointer (some ⟨w1.heap.size, 0, none⟩)])
         have hr5 : Inside (fun b => b = w3.heap.size) wr w5 := by rw [hw5]; exact Inside.set _ _ _ rfl
         have hz5 : w5.heap.size = w3.heap.size + 1 := by rw [hw5, size_set1']; exact HSZ.out
         rw [← hw5] at hse5 ⊢
         have hi5 : Inside (fun b => b = w3.heap.size) w3 w5 := (Inside.of_ext HXB.out).trans' (HIN.out.trans' hr5)
         have hx13 : Ext w1 w3 := ((Ext.refl _).alloc _).trans' HX3.out
         have hx5 : Ext w w5 := hi5.toExt (HX1.out.trans' hx13) (fun i hi => by subst hi; omega)
         obtain ⟨H, hH⟩ : ∃ H : Hunt, H = ⟨seOf xs (List.replicate xs.length 0) (varsN ps) ps (wantAll (varsN ps).length), fun b => S b ∨ (w1.heap.size + 1 ≤ b ∧ b < w3.heap.size), fun b => w.heap.size < b ∧ b < w1.heap.size, fun b => M0 b ∨ w3.heap.size + 1 ≤ b, Gok, w1.heap.size + 1 + 1 + 1, fv, rv, w1.heap.size + 1, w1.heap.size + 1 + 1, nm, np, f, w3.heap.size⟩ := ⟨_, rfl⟩
         have hab := askable HOK.out
         have hmem : ∀ p ∈ ps, PatOk (patOf (varsN ps) p.atom) := fun p hp => patOk_of (HA3.out p hp) (hab.mem p hp) hn12
         have hfit : H.Fit := by
          rw [hH]
          refine fit_of rfl HF.out (fun p hp => ?_) (fun p hp => ?_) ?_ (by simp [seOf]) (by simp [seOf, wantAll]) (se_ok (rounds := List.replicate xs.length 0) hab (fun a ha => fact_ok (HF.out a ha))).nots ?_ ?_ ?_ ?_ ?_
          · obtain ⟨q, hq, rfl⟩ := List.mem_map.1 (show p ∈ partsOf (varsN ps) ps from hp)
            exact hmem q (List.mem_filter.1 hq).1
          · obtain ⟨q, hq, rfl⟩ := List.mem_map.1 (show p ∈ notsOf (varsN ps) ps from hp)
            exact hmem q (List.mem_filter.1 hq).1
          · show (partsOf (varsN ps) ps).length ≤ 4
            unfold partsOf
            rw [List.length_map]
            exact Nat.le_trans (List.length_filter_le _ _) a2
          · rintro (h | h)
            · have h2 : w3.heap.size < w.heap.size := HS.out _ h
              omega
            · exact absurd h.2 (Nat.lt_irrefl _)
          · rintro ⟨_, h⟩
            have h : w3.heap.size < w1.heap.size := h
            omega
          · rintro (h | h)
            · have h2 : w3.heap.size < w.heap.size := HM0.out _ h
              omega
            · exact absurd h (Nat.not_succ_le_self _)
          · rintro b (h | ⟨h1, h2⟩) (k | k)
            · exact HSM.out b h k
            · have := HS.out _ h; omega
            · have := HM0.out _ k; omega
            · omega
          · rintro b ⟨h1, h2⟩ (k | k)
            · have := HM0.out _ k; omega
            · omega
         have hgood : R (w3.heap.size + 1) st0 w5 := by have h := HR.out w5 hx5; rwa [hz5] at h
         have hpat : ∀ {v : Value} {l : List GPat}, PatsR (From (w.alloc (.cells #[.func (.func g) #[] caps] 105)).heap.size) w1 v l → PatsR (fun b => w.heap.size < b ∧ b < w1.heap.size) w5 v l := fun {v l} h => by
          have h1 := h.low0
          have h2 : PatsR (fun b => w.heap.size < b ∧ b < w1.heap.size) w1 v l := h1.impL (fun b hb _ => ⟨by have := hb.1; simp only [World.size_alloc] at this; exact this, hb.2⟩) (.refl _ _) (Nat.le_refl _)
          exact (h2.ext hx13).impL (fun _ h _ => h) (fun b hb hlt => hi5.block b hlt (fun e => by have e : b = w3.heap.size := e; have := hb.2; omega)) hi5.size
         have hseek : Seek H { sea0 (.pointer (some ⟨w1.heap.size + 1 + 1 + 1, 0, none⟩)) (.slice P0 pn pc) (.slice N0 nn nc) (.slice V0 (varsN ps).length vc) .nilFunc with wanted := wantAll (varsN ps).length, tell := .func (.func 113) #[] #[.pointer (some ⟨w.heap.size, 0, none⟩), .pointer (some ⟨w1.heap.size, 0, none⟩)] } w5 := by
          rw [hH]
          refine ⟨?_, hse5, rfl, hpat HQ0.out, hpat HQ1.out, rfl, rfl, rfl, ⟨List.nodup_nil, fun v hv => by cases hv⟩, Nat.zero_le _, ?_⟩
          · have h := HST.out.toR (lo := w1.heap.size + 1) ⟨by omega, by omega, by omega⟩
            exact h.inside hi5 (fun b hb e => by
             have e : b = w3.heap.size := e
             rcases hb with hb | hb
             · have := HS.out _ hb; omega
             · omega)
          · rintro b (h | h)
            · have := HS.out _ h; omega
            · omega
         have hyi := HY.out H (w3.heap.size + 1) (by rw [hH]) (by rw [hH]; show w.heap.size ≤ w3.heap.size; omega) (by rw [hH]; exact Nat.lt_succ_self _) (by rw [hH])
         have hte := rows1_teller H hyi (yb := w.heap.size) (qb := w1.heap.size) (A := V0) (c := vc) hn12 ⟨hv1, hv2⟩ (by rw [hH]; show w.heap.size ≠ w3.heap.size; omega) (by rw [hH]; show w1.heap.size ≠ w3.heap.size; omega)
          (by rw [hH]; rintro (h | h)
              · have := HM0.out _ h; omega
              · have h : w3.heap.size + 1 ≤ w.heap.size := h
                omega)
          (by rw [hH]; rintro (h | h)
              · have := HM0.out _ h; omega
              · have h : w3.heap.size + 1 ≤ w1.heap.size := h
                omega)
         have hyc : w5.cell? ⟨w.heap.size, 0, none⟩ = some (.func (.func g) #[] caps) := hi5.cell (by omega) (fun e => by have e : w.heap.size = w3.heap.size := e; omega) ((HYB.out.ext hx13).cell 0)
         have hqc : w5.cell? ⟨w1.heap.size, 2, none⟩ = some (.slice V0 (varsN ps).length vc) := hi5.cell (by omega) (fun e => by have e : w1.heap.size = w3.heap.size := e; omega) (HB3.out.cell 2)
         have hall := all_any H hfit hte _ st0 w5 hseek rfl ⟨hgood, hyc, hqc, by omega, by omega⟩ (by rw [hH]; exact gok_empty) (by rw [hH]; exact HN.out)
         rw [hH] at hall
         refine hall.mono fun e w' ⟨h1, h2, h3⟩ => ⟨h1, ?_, h3.sub (fun b hb _ => hb)⟩
         have h4 := h2.1
         rw [feed_go] at h4
         exact h4)
        clear HSEA HSZ HST HQ0 HQ1 HQ2 HSE HBS HBQ HWB
        go_wp2_with (first | (go_at_call 114; refine HALL.out.mono ?_; rintro e w6 ⟨rfl, hr6, hi6⟩) | fail)
        go_end0
        refine ⟨rfl, ⟨w3.heap.size + 1, by omega, hr6⟩, ?_⟩
        have hxw : Ext w wb := (HX1.out.trans' (((Ext.refl _).alloc _).trans' HX3.out)).trans' HXB.out
        have k1 : ∀ b, b = w3.heap.size → b < wb.heap.size → M0 b ∨ w.heap.size ≤ b := fun b hb _ => .inr (by omega)
        have k2 : w.heap.size ≤ w3.heap.size := by omega
        have k3 : ∀ b, (b = w3.heap.size ∨ M0 b ∨ w3.heap.size + 1 ≤ b) → M0 b ∨ w.heap.size ≤ b := fun b hb => by
         rcases hb with hb | hb | hb
         · exact .inr (by omega)
         · exact .inl hb
         · exact .inr (by omega)
        exact (Inside.of_ext hxw).trans' ((HIN.out.sub k1).trans' ((Inside.set _ ⟨w3.heap.size, 43, none⟩ _ (.inr k2)).trans' (hi6.sub (fun b hb _ => k3 b hb))))
   exact AllReadyH.nil
 exact AllReadyH.nil

end Go.Proofs.YtfjdijakgjhieaaGreat

namespace Go.Proofs.YtfjdijakgjhieaaGreat
open Go.RowKit

/-- 'string([]byte{c})'. -/
theorem byte_string {w : World} {g : Nat} {t : TypeId} (c : Nat) (hc : c < 256) (hb : Blk w g t #[.int .u8 (c : Int)]) :
 (convert 22 9 (.slice (some ⟨g, 0, none⟩) 1 1)).run Tryz.prog w = .ok (.string ⟨#[UInt8.ofNat c]⟩) w := by
 have h := run_convert_bytes_back (P := Tryz.prog) w 22 9 5 ⟨g, 0, none⟩ 1 [UInt8.ofNat c] Tryz.underlying22 Tryz.underlying5 Tryz.underlying9 (fun j hj => by
  simp at hj; subst hj
  have hadd : (⟨g, 0, none⟩ : Addr).add 0 = ⟨g, 0, none⟩ := by simp [Addr.add]
  rw [hadd, hb.cell]
  simp
  omega)
 exact h

theorem dec_small {z : Int} (h0 : 0 ≤ z) (h : z < 10) : strOf (Lib.decDigits z.toNat) = ⟨#[UInt8.ofNat (48 + z.toNat)]⟩ := by rw [Lib.decDigits_one (by omega)]; rfl
theorem dec_big {z : Int} (h : ¬ z < 10) : strOf (Lib.decDigits z.toNat) = strOf (Lib.decDigits (z / 10).toNat) ++ ⟨#[UInt8.ofNat (48 + (z % 10).toNat)]⟩ := by
 rw [Lib.decDigits, dif_neg (by omega), show (⟨#[UInt8.ofNat (48 + (z % 10).toNat)]⟩ : ByteArray) = strOf [UInt8.ofNat (48 + (z % 10).toNat)] from rfl, strOf_append]
 rw [show (z / 10).toNat = z.toNat / 10 from by omega, show (z % 10).toNat = z.toNat % 10 from by omega]
theorem dec_len (z : Nat) (h : z ≤ 1000000000) : (Lib.decDigits z).length ≤ 10 := by
 rw [Lib.decDigits_length]
 have key : ∀ k u, u < 10 ^ k → 1 ≤ k → Lib.nDigits u ≤ k := by
  intro k
  induction k with
  | zero => intro u _ h; omega
  | succ k ih =>
    intro u hu _
    by_cases h1 : u < 10
    · rw [Lib.nDigits_small h1]; omega
    · rw [Lib.nDigits_big h1]
      have : u / 10 < 10 ^ k := by rw [Nat.pow_succ] at hu; omega
      have hk : 1 ≤ k := by
       rcases Nat.eq_zero_or_pos k with h2 | h2
       · subst h2; simp at hu; omega
       · exact h2
      have := ih (u / 10) this hk
      omega
 exact key 10 z (by omega) (by omega)
theorem u8_wrap {z : Int} (h0 : 0 ≤ z) (h : z < 256) : IntKind.u8.wrap z = z := by
 unfold IntKind.wrap; simp [IntKind.bits, IntKind.signed]; omega

set_option maxRecDepth 100000 in
set_option maxHeartbeats 4000000 in
theorem l1Dec_up : ∀ (m : Nat) (z : Int) (w : World), 0 ≤ z → z ≤ m → z ≤ 1000000000 →
 Calls Tryz.prog 94 #[.int .i64 z] w fun e w' => e = .returned (.string (strOf (Lib.decDigits z.toNat))) ∧ Ext w w' := by
 intro m
 induction m with
 | zero =>
   intro z w h0 hm hz
   obtain ⟨d, hd⟩ : ∃ d, d = strOf (Lib.decDigits z.toNat) := ⟨_, rfl⟩
   have hb := byte_string (w := w.alloc (.cells #[.int .u8 ((48 + z.toNat : Nat) : Int)] 5)) (48 + z.toNat) (by omega) (Blk.new _ _ _)
   rw [show ((48 + z.toNat : Nat) : Int) = 48 + z from by omega, ← dec_small h0 (by omega), ← hd] at hb
   have hw : IntKind.u8.wrap (48 + z) = 48 + z := u8_wrap (by omega) (by omega)
   have h10 : z < 10 := by omega
   rw [← hd]
   clear hd
   go_enter Tryz.func94, Tryz.ntmps94
   go_wp2
   go_ret
   exact ⟨rfl, (Ext.refl _).alloc _⟩
 | succ m ih =>
   intro z w h0 hm hz
   by_cases h10 : z < 10
   · obtain ⟨d, hd⟩ : ∃ d, d = strOf (Lib.decDigits z.toNat) := ⟨_, rfl⟩
     have hb := byte_string (w := w.alloc (.cells #[.int .u8 ((48 + z.toNat : Nat) : Int)] 5)) (48 + z.toNat) (by omega) (Blk.new _ _ _)
     rw [show ((48 + z.toNat : Nat) : Int) = 48 + z from by omega, ← dec_small h0 h10, ← hd] at hb
     have hw : IntKind.u8.wrap (48 + z) = 48 + z := u8_wrap (by omega) (by omega)
     rw [← hd]
     clear hd ih
     go_enter Tryz.func94, Tryz.ntmps94
     go_wp2
     go_ret
     exact ⟨rfl, (Ext.refl _).alloc _⟩
   · have hb9 := dec_big h10
     obtain ⟨d, hd⟩ : ∃ d, d = strOf (Lib.decDigits (z / 10).toNat) := ⟨_, rfl⟩
     obtain ⟨c, hc⟩ : ∃ c : ByteArray, c = ⟨#[UInt8.ofNat (48 + (z % 10).toNat)]⟩ := ⟨_, rfl⟩
     have hds : d.size ≤ 10 := by rw [hd, strOf_size]; exact dec_len _ (by omega)
     have hcs : c.size ≤ 10 := by rw [hc]; simp [ByteArray.size]
     have HI := Lib.hid (show ∀ W, Calls Tryz.prog 94 #[.int .i64 (z / 10)] W fun e w' => e = .returned (.string d) ∧ Ext W w' from fun W => hd ▸ ih (z / 10) W (by omega) (by omega) (by omega))
     have HC := Lib.hid (show ∀ W g, Blk W g 5 #[.int .u8 (48 + z % 10)] → (convert 22 9 (.slice (some ⟨g, 0, none⟩) 1 1)).run Tryz.prog W = .ok (.string c) W from fun W g hb => by
      have h := byte_string (w := W) (g := g) (t := 5) (48 + (z % 10).toNat) (by omega) (by rw [show ((48 + (z % 10).toNat : Nat) : Int) = 48 + z % 10 from by omega]; exact hb)
      rw [← hc] at h
      exact h)
     have hw : IntKind.u8.wrap (48 + z % 10) = 48 + z % 10 := u8_wrap (by omega) (by omega)
     have hq0 : 0 ≤ z % 10 := by omega
     have hq1 : z % 10 < 10 := by omega
     have ht1 : z.tdiv 10 = z / 10 := Int.tdiv_eq_ediv_of_nonneg h0
     have ht2 : z.tmod 10 = z % 10 := Int.tmod_eq_emod_of_nonneg h0
     have hw1 : IntKind.i64.wrap (z / 10) = z / 10 := IntWalk.i64_in _ ⟨by omega, by omega⟩
     have hw2 : IntKind.i64.wrap (48 + z % 10) = 48 + z % 10 := IntWalk.i64_in _ ⟨by omega, by omega⟩
     rw [hb9, ← hd, ← hc]
     have HB := Lib.hid (Blk.new w 5 #[.int .u8 (48 + z % 10)])
     have hr0 := HC.out _ _ HB.out.drew
     clear hb9 hd hc ih
     go_enter Tryz.func94, Tryz.ntmps94
     go_wp2_with (fail)
     go_region_with ((go_at_call 94; refine (HI.out _).mono ?_; rintro e w1 ⟨rfl, hx1⟩; have hr1 := HC.out _ _ (Blk.new w1 5 #[.int .u8 (48 + z % 10)]); (first | have hr2 := HC.out _ _ (HB.out.drew.ext hx1) | skip)))
     all_goals go_wp2
     all_goals
      go_ret
      first
       | exact ⟨rfl, (Ext.trans' (Ext.refl w).drew hx1).alloc _⟩
       | exact ⟨rfl, ((Ext.refl w).alloc _).drew.trans' hx1⟩

theorem l1Dec_any (z : Int) (w : World) (h0 : 0 ≤ z) (h : z ≤ 1000000000) :
 Calls Tryz.prog 94 #[.int .i64 z] w fun e w' => e = .returned (.string (strOf (Lib.decDigits z.toNat))) ∧ Ext w w' :=
 l1Dec_up 1000000000 z w h0 (by omega) h

end Go.Proofs.YtfjdijakgjhieaaGreat

namespace Go.Proofs.YtfjdijakgjhieaaGreat
set_option linter.unusedSimpArgs false
set_option linter.unusedVariables false
open Go.RowKit

def StrsO (S : Nat → Prop) : World → Value → List ByteArray → Prop := SliceO kStr S
theorem StrsO.imp {S S' : Nat → Prop} {w w' : World} {v : Value} {xs : List ByteArray} (h : StrsO S w v xs) (hS : ∀ b, S b → b < w.heap.size → S' b) (he : Agree S w w') (hsz : w.heap.size ≤ w'.heap.size) : StrsO S' w' v xs := SliceO.imp h hS he hsz
theorem StrsO.read {S : Nat → Prop} {w : World} {v : Value} {xs : List ByteArray} (h : StrsO S w v xs) : StrsR S w v xs := SliceO.read (E' := fun _ => StrE) h (fun _ _ _ h _ => h)
def RowEO (S : Nat → Prop) (w : World) (cs : List Value) (x : List ByteArray) : Prop := ∃ v, cs = [v] ∧ StrsO S w v x
def kRowO : Kind (List ByteArray) := ⟨1, RowEO, by decide, fun h hS he hsz => by obtain ⟨v, h1, h2⟩ := h; exact ⟨v, h1, h2.imp hS he hsz⟩,
 fun {_ _ l x} h => by
  obtain ⟨v, rfl, ht⟩ := h
  obtain ⟨A, c, rfl, _⟩ := SliceO.form ht
  intro u hu; simp at hu; subst hu; rfl, fun h => by obtain ⟨v, rfl, _⟩ := h; rfl⟩
def RowsO (S : Nat → Prop) : World → Value → List (List ByteArray) → Prop := SliceO kRowO S
theorem RowEO.read {S T : Nat → Prop} {w : World} {l : List Value} {a : List ByteArray} (h : RowEO T w l a) (hS : ∀ b, T b → S b) : kRow.E S w l a := by
 obtain ⟨v, h1, h3⟩ := h
 exact ⟨v, h1, StrsR.impL h3.read (fun b hb _ => hS b hb) (.refl _ _) (Nat.le_refl _)⟩
theorem RowsO.read {S : Nat → Prop} {w : World} {v : Value} {xs : List (List ByteArray)} (h : RowsO S w v xs) : RowsR S w v xs := SliceO.read (k := kRowO) (E' := kRow.E) h (fun _ _ _ h hS => RowEO.read h hS)
end Go.Proofs.YtfjdijakgjhieaaGreat

namespace Go.Proofs.YtfjdijakgjhieaaGreat
set_option linter.unusedSimpArgs false
set_option linter.unusedVariables false
open Go.RowKit

theorem strsO_new {g : Nat} {t : TypeId} {w : World} {xs : List ByteArray} (hb : Blk w g t (xs.map Value.string).toArray) (hs : ∀ x ∈ xs, x.size ≤ maxLen) (hm : xs.length ≤ maxLen) : StrsO (fun b => b = g) w (.slice (some ⟨g, 0, none⟩) xs.length xs.length) xs := by
 refine ⟨_, _, rfl, Nat.le_refl _, hm, fun _ => ⟨g, 0, fun _ _ => False, rfl, hb.lt, rfl, fun j _ => hb.frozen _, fun _ _ h => h.elim, fun _ _ _ h => h.elim, fun i x hx => ⟨[.string x], rfl, fun j u hu => ?_, rfl, hs x (List.mem_of_getElem? hx)⟩⟩⟩
 match j, hu with
 | 0, hu =>
   simp only [List.getElem?_cons_zero, Option.some.injEq] at hu
   subst hu
   show w.cell? ⟨g, 0 + (i * 1 + 0), none⟩ = _
   rw [hb.cell, show 0 + (i * 1 + 0) = i by omega]
   simp [hx]
theorem splice_all {α : Type} (L cs : List α) (h : L.length = cs.length) : splice L 0 cs = cs := by unfold splice; simp [← h]
theorem below_inside {B : Nat} {w w' : World} (h : Below B w w') : Inside (fun b => B ≤ b) w w' := ⟨h.os, h.tape, h.output, h.size, fun k hk hn => h.block k (by omega)⟩
/-- ask's out, and the rows in it. -/
def AskR (ob base : Nat) (rows : List (List ByteArray)) (w : World) : Prop := ∃ v, Blk w ob 34 #[v] ∧ OwnO kRowO base 56 (fun b => base ≤ b) w v rows ∧ base ≤ w.heap.size ∧ ob < base
theorem enters_ask1 : ∀ args w, (callFunc 84 args).run Tryz.prog w = .ok (.enter 84 args) w := enters_of Tryz.func84 (by kernel_rfl) (by rfl)

set_option maxRecDepth 100000 in
set_option maxHeartbeats 2000000 in
theorem ask1_yields (H : Hunt) {n ob base N : Nat} (hn : n ≤ 12) (hob : ob < H.sb) (hsb : H.sb < base) (hM : H.M = fun b => b = ob ∨ base ≤ b) (hN : N ≤ 2430000000000) (hG : H.G = Gok) :
 Yields H n 84 #[.pointer (some ⟨ob, 0, none⟩)] (AskR ob base) (fun st r => st ++ [r]) List.length N := by
 refine ⟨enters_ask1, fun st r => by simp, fun st Q w hs hr hGQ hrk => ?_, fun st w w' hr hi => ?_⟩
 · obtain ⟨v, r1, r2, r3, r4⟩ := hr
   obtain ⟨A, m, c, rfl, hm, hm1, hm2⟩ := r2.form2
   obtain ⟨i1, hi1⟩ : ∃ i, Tryz.prog.info? 9 = some i := ⟨_, by rfl⟩
   have hz1 : i1.zero = some (.string ⟨#[]⟩) := by have := hi1; revert this; intro h; cases h; rfl
   have hs1 : i1.size = 1 := by have := hi1; revert this; intro h; cases h; rfl
   have hb1 : i1.bytes = 16 := by have := hi1; revert this; intro h; cases h; rfl
   obtain ⟨i0, hi0⟩ : ∃ i, Tryz.prog.info? 56 = some i := ⟨_, by rfl⟩
   have hz0 : i0.zero = some (.slice none 0 0) := by have := hi0; revert this; intro h; cases h; rfl
   have hs0 : i0.size = 1 := by have := hi0; revert this; intro h; cases h; rfl
   have hb0 : i0.bytes = 24 := by have := hi0; revert this; intro h; cases h; rfl
   obtain ⟨cs0, hcs0, hmk⟩ := made 56 9 i1 _ Tryz.underlying56 hi1 hz1 n (by rw [hb1]; omega) (by omega)
   rw [hs1, Nat.mul_one] at hcs0
   have hwl : (rowW n Q.W).length = n := by simp [rowW]
   have hwat : ∀ j, j < n → w.cell? ⟨H.sb, 18 + j, none⟩ = some (.string (Q.W.at_ j)) := fun j hj => hs.sea.word (by omega)
   have hsm : ∀ x ∈ rowW n Q.W, x.size ≤ maxLen := fun x hx => by
    obtain ⟨j, _, rfl⟩ := List.mem_map.1 hx
    exact word_small hs.sea j
   obtain ⟨row, hrow⟩ : ∃ row, row = rowW n Q.W := ⟨_, rfl⟩
   have HWC := Lib.hid (show ∀ j u, (row.map Value.string)[j]? = some u → w.cell? ⟨H.sb, 18 + j, none⟩ = some u from fun j u hu => by
    rw [hrow] at hu
    have hj : j < n := by
     have := (List.getElem?_eq_some_iff.1 hu).1
     simp [rowW] at this; exact this
    rw [hwat j hj]
    simp [rowW, hj] at hu
    rw [hu])
   rw [← hrow] at hwl hsm
   have HSM := Lib.hid hsm
   have HWL := Lib.hid hwl
   have HCS := Lib.hid hcs0
   have HR1 := Lib.hid r1
   have HR2 := Lib.hid (show OwnO kRowO base 56 (fun b => base ≤ b ∧ b < w.heap.size) w (.slice A m c) st from r2.sub (fun b hb hlt => ⟨hb, hlt⟩))
   have HRW := Lib.hid hrow
   have HMM := Lib.hid hM
   have sl := hs.sea.lt
   have hol := r1.lt
   clear hs hGQ hwat hsm hrow r1 r2 hwl hcs0
   show Calls _ _ #[.slice (some ⟨H.sb, 18, none⟩) n 12, .pointer (some ⟨ob, 0, none⟩)] _ _
   go_enter Tryz.func84, Tryz.ntmps84
   go_wp2_with (first
    | ((with_reducible show wpList _ _ _ (⟨some 9, _, _, _, _, _⟩ :: _) _ _); go_loud (refine wpList_copy_splice rfl (.tmp 7) (.tmp 8) 56 56 rfl 9 Tryz.underlying56 (by rfl) (some ⟨w.heap.size, 0, none⟩) (some ⟨H.sb, 18, none⟩) n n n 12 rfl rfl w.heap.size 0 cs0.toList 9 (by rw [Array.toArray_toList]; exact Blk.new w 9 cs0) (row.map Value.string) (by simp [HWL.out]) (fun _ => ⟨rfl, _, rfl, fun j u hu => by rw [addr_add]; exact (((Ext.refl w).alloc _).cells.1 H.sb (18 + j) sl).trans (HWC.out j u hu)⟩) (by simp [HWL.out, HCS.out]) (fun v hv => by obtain ⟨x, _, rfl⟩ := List.mem_map.1 hv; rfl) w.heap.size w ((Ext.refl w).alloc _) (Nat.le_refl _) ?_)
       intro w2 HG2 hB2
       have HX2 := Lib.hid (show Ext w w2 from hB2)
       have o2 := (HR1.out.ext HX2.out).cell 0
       have f2 := (HR1.out.ext HX2.out).frozen 0
       have l2 := (HR1.out.ext HX2.out).lt
       have HE2 := Lib.hid (show StrsO (fun b => b = w.heap.size) w2 (.slice (some ⟨w.heap.size, 0, none⟩) n n) row from by
        have h1 := HG2.out
        rw [splice_all _ _ (by simp [HWL.out, HCS.out])] at h1
        have h2 := strsO_new (w := w2) (g := w.heap.size) (t := 9) (xs := row) h1 HSM.out (by rw [HWL.out]; unfold maxLen; omega)
        rwa [HWL.out] at h2)
       clear hB2 hmk)
    | (at_builtin; go_loud (refine wpList_appO (k := kRowO) (S := fun b => base ≤ b ∧ b < w.heap.size) (S' := fun b => base ≤ b) (T := fun b => b = w.heap.size) (base := base) (xs := st) rfl (.tmp 10) (.tmp 12) 34 (by rfl) i0 _ 24 Tryz.underlying34 hi0 hz0 hs0 hb0 (by rfl) (by rfl) (HR2.out.ext (HX2.out.alloc _)) _ (by rfl) [.slice (some ⟨w.heap.size, 0, none⟩) n n] row 56 ⟨_, rfl, StrsO.imp HE2.out (fun _ h _ => h) (.of_ext ((Ext.refl _).alloc _)) ((Ext.refl _).alloc _).size⟩ (Blk.new _ _ _) (fun b hb _ => by subst hb; exact r3) (fun b hb => hb.1) (fun b hb h => by omega) (fun g hg hb => by have := (HR2.out.at_ g hg).2; omega) (Nat.le_trans (show st.length + 1 ≤ 2430000000001 from by omega) (by decide)) (by omega) (Nat.le_trans r3 (HX2.out.alloc _).size) ?_)
       intro v3 w3 hap
       obtain ⟨A3, n3, c3, rfl, hn3, h31, h32⟩ := hap.own.form2
       have o3 := (hap.blk ((HR1.out.ext (HX2.out.alloc _))) r4).cell 0
       have f3 := (hap.blk ((HR1.out.ext (HX2.out.alloc _))) r4).frozen 0
       have l3 := (hap.blk ((HR1.out.ext (HX2.out.alloc _))) r4).lt
       have HAP := Lib.hid hap
       clear hap))
   go_end0
   refine ⟨rfl, ⟨.slice A3 n3 c3, ?_, ?_, ?_, r4⟩, ?_⟩
   · have h := (HAP.out.blk ((HR1.out.ext (HX2.out.alloc _))) r4).set_ 0 (.slice A3 n3 c3)
     simpa using h
   · have h := HAP.out.own
     rw [HRW.out] at h
     exact h.agree (((Agree.refl _ _).setCell (fun (hb : base ≤ ob) => by omega) _)) (fun g hg => Below.heap_setCell _ _ _ _ (by have := (h.at_ g hg).1; show g ≠ ob; omega)) (by simp [World.setCell])
   · have h1 := HAP.out.below.size
     have h2 := (HX2.out.alloc (.cells #[.slice (some ⟨w.heap.size, 0, none⟩) n n] 56)).size
     exact Nat.le_trans r3 (Nat.le_trans h2 (Nat.le_trans h1 (by simp [World.setCell])))
   · rw [HMM.out]
     exact ((Inside.of_ext (HX2.out.alloc _)).trans' ((below_inside HAP.out.below).sub (fun _ h _ => .inr h))).trans' (Inside.set _ ⟨ob, 0, none⟩ _ (.inl rfl))
 · obtain ⟨v, r1, r2, r3, r4⟩ := hr
   have hob2 : ¬ (ob = H.sb) := by omega
   refine ⟨v, hi.blk r1 hob2, ?_, Nat.le_trans r3 hi.size, r4⟩
   exact r2.agree (fun b hb hlt => hi.block b hlt (fun e => by omega)) (fun g hg => hi.block g (r2.at_ g hg).2 (fun e => by have := (r2.at_ g hg).1; omega)) hi.size

end Go.Proofs.YtfjdijakgjhieaaGreat
