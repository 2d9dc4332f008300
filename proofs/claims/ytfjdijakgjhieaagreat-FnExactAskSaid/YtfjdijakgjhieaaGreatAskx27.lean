/- Texts of the proof: ToO, ToA, MarkR, Sz, Rules. -/
import Derived.Test.YtfjdijakgjhieaaGreatAskx07
import Derived.Test.YtfjdijakgjhieaaGreatAskx02
import Derived.Test.YtfjdijakgjhieaaGreatAskx24
import Derived.Test.YtfjdijakgjhieaaGreatRows
import Derived.Test.YtfjdijakgjhieaaGreatAskx01
namespace Go.Proofs.YtfjdijakgjhieaaGreat
set_option linter.unusedSimpArgs false
set_option linter.unusedVariables false
open Go.RowKit

/-- The first n elements of a row under construction, which lie apart. -/
def FilledO {α : Type} (k : Kind α) (g : Nat) (S : Nat → Prop) (w : World) (cs : Array Value) (xs : List α) (n : Nat) : Prop :=
  ∃ F : Nat → Nat → Prop, (∀ i m, F i m → S m ∧ m ≠ g ∧ m < w.heap.size) ∧ (∀ i j m, F i m → F j m → i = j) ∧
    ∀ (i : Nat) (x : α), i < n → xs[i]? = some x → ∃ l : List Value, l.length = k.size ∧ (∀ (j : Nat) (u : Value), l[j]? = some u → cs[i * k.size + j]? = some u) ∧ k.E (F i) w l x
section
variable {α : Type} {k : Kind α} {g : Nat} {S S' : Nat → Prop} {w w' : World} {cs cs' : Array Value} {xs : List α} {n : Nat}
theorem FilledO.zero : FilledO k g S w cs xs 0 := ⟨fun _ _ => False, fun _ _ h => h.elim, fun _ _ _ h => h.elim, fun _ _ h => absurd h (by omega)⟩
theorem FilledO.step (h : FilledO k g S w cs xs n) (hag : ∀ m, m ≠ g → m < w.heap.size → w'.heap[m]? = w.heap[m]?) (hsz : w.heap.size ≤ w'.heap.size) (hg : g < w.heap.size) (hS : ∀ m, w.heap.size ≤ m → S m)
    {x : α} (hk : xs[n]? = some x) {l : List Value} (hx : k.E (From w.heap.size) w' l x) (h1 : ∀ (j : Nat) (u : Value), l[j]? = some u → cs'[n * k.size + j]? = some u) (h2 : ∀ o, o < n * k.size → cs'[o]? = cs[o]?) :
    FilledO k g S w' cs' xs (n + 1) := by
  obtain ⟨F, k1, k2, k3⟩ := h
  refine ⟨fun i m => (i < n ∧ F i m) ∨ (i = n ∧ w.heap.size ≤ m ∧ m < w'.heap.size), fun i m hm => ?_, fun i j m hi hj => ?_, fun i y hi hy => ?_⟩
  · rcases hm with ⟨_, hm⟩ | ⟨_, hm, hm2⟩
    · exact ⟨(k1 i m hm).1, (k1 i m hm).2.1, Nat.lt_of_lt_of_le (k1 i m hm).2.2 hsz⟩
    · exact ⟨hS m hm, fun e => by omega, hm2⟩
  · rcases hi with ⟨hi1, hi⟩ | ⟨hi1, hi2, _⟩ <;> rcases hj with ⟨hj1, hj⟩ | ⟨hj1, hj2, _⟩
    · exact k2 i j m hi hj
    · have := (k1 i m hi).2.2; omega
    · have := (k1 j m hj).2.2; omega
    · omega
  · by_cases hin : i = n
    · subst hin
      rw [hk] at hy; injection hy with hy; subst hy
      exact ⟨l, k.len hx, h1, k.imp hx (fun b hb hlt => .inr ⟨rfl, hb, hlt⟩) (.refl _ _) (Nat.le_refl _)⟩
    · obtain ⟨l', m1, m2, m3⟩ := k3 i y (by omega) hy
      refine ⟨l', m1, fun j u hu => ?_, k.imp m3 (fun b hb _ => .inl ⟨by omega, hb⟩) (fun b hb hlt => hag b (k1 i b hb).2.1 hlt) hsz⟩
      have hj : j < k.size := by rw [← m1]; exact (List.getElem?_eq_some_iff.1 hu).1
      rw [h2 _ (by
        have : (i + 1) * k.size ≤ n * k.size := Nat.mul_le_mul_right _ (by omega)
        rw [Nat.add_mul] at this; omega)]
      exact m2 j u hu
theorem FilledO.slice (h : FilledO k g S w cs xs n) {t : TypeId} {c : Nat} (hb : Blk w g t cs) (hn : n = xs.length) (hc : n ≤ c) (hm : c ≤ maxLen) (hg : S' g) (hS : ∀ m, S m → S' m) : SliceO k S' w (.slice (some ⟨g, 0, none⟩) n c) xs := by
  subst hn
  obtain ⟨F, k1, k2, k3⟩ := h
  refine ⟨_, c, rfl, hc, hm, fun _ => ⟨g, 0, F, rfl, hb.lt, hg, fun j _ => hb.frozen _, fun i m hm => ⟨hS m (k1 i m hm).1, (k1 i m hm).2⟩, k2, fun i x hx => ?_⟩⟩
  obtain ⟨l, h1, h2, h3⟩ := k3 i x (List.getElem?_eq_some_iff.1 hx).1 hx
  exact ⟨l, h1, fun j u hu => by rw [hb.cell, Nat.zero_add]; exact h2 j u hu, h3⟩
end
theorem Filled.terms {g : Nat} {t : TypeId} {S : Nat → Prop} {w : World} {cs : Array Value} {xs : List GT} {n c : Nat} (h : Filled 2 TermE w cs xs n) (hb : Blk w g t cs) (hn : n = xs.length) (hc : n ≤ c) (hm : c ≤ maxLen) (hg : S g) : TermsO S w (.slice (some ⟨g, 0, none⟩) n c) xs :=
  FilledO.slice (k := kTerm) (S := fun _ => False) (n := n) ⟨fun _ _ => False, fun _ _ h => h.elim, fun _ _ _ h => h.elim, fun i x hi hx => h i x hi hx⟩ hb hn hc hm hg (fun _ h => h.elim)
theorem set3_at {cs : Array Value} {i : Nat} {a b d : Value} (hs : i * 3 + 2 < cs.size) (j : Nat) (u : Value) (hu : [a, b, d][j]? = some u) : (((cs.setIfInBounds (i * 3) a).setIfInBounds (i * 3 + 1) b).setIfInBounds (i * 3 + 2) d)[i * 3 + j]? = some u := by
  match j, hu with
  | 0, hu => simp at hu; subst hu; simp [show i * 3 < cs.size from by omega]
  | 1, hu => simp at hu; subst hu; simp [show i * 3 + 1 < cs.size from by omega]
  | 2, hu => simp at hu; subst hu; simp [hs]
theorem set3_low {cs : Array Value} {i : Nat} {a b d : Value} (o : Nat) (ho : o < i * 3) : (((cs.setIfInBounds (i * 3) a).setIfInBounds (i * 3 + 1) b).setIfInBounds (i * 3 + 2) d)[o]? = cs[o]? := by
  rw [Array.getElem?_setIfInBounds_ne (by omega), Array.getElem?_setIfInBounds_ne (by omega), Array.getElem?_setIfInBounds_ne (by omega)]
theorem set2_at {cs : Array Value} {i : Nat} {a b : Value} (hs : i * 2 + 1 < cs.size) (j : Nat) (u : Value) (hu : [a, b][j]? = some u) : ((cs.setIfInBounds (i * 2) a).setIfInBounds (i * 2 + 1) b)[i * 2 + j]? = some u := by
  match j, hu with
  | 0, hu => simp at hu; subst hu; simp [show i * 2 < cs.size from by omega]
  | 1, hu => simp at hu; subst hu; simp [hs]
theorem set2_low {cs : Array Value} {i : Nat} {a b : Value} (o : Nat) (ho : o < i * 2) : ((cs.setIfInBounds (i * 2) a).setIfInBounds (i * 2 + 1) b)[o]? = cs[o]? := by
  rw [Array.getElem?_setIfInBounds_ne (by omega), Array.getElem?_setIfInBounds_ne (by omega)]
/-- Blocks from a on, ahead of b. -/
abbrev Mid (a b : Nat) : Nat → Prop := fun m => a ≤ m ∧ m < b
theorem Agree.setM {a b : Nat} {w0 w : World} (h : Agree (Mid a b) w0 w) {p : Addr} (hp : p.block < a) (u : Value) : Agree (Mid a b) w0 (w.setCell p u) := h.setCell (fun hb => Nat.lt_irrefl _ (Nat.lt_of_lt_of_le hp hb.1)) u
theorem Agree.mid {a b : Nat} {w w' : World} (h : Agree (From a) w w') : Agree (Mid a b) w w' := fun i hb hlt => h i hb.1 hlt
theorem midLe {a a' b : Nat} (h : a' ≤ a) : ∀ m, Mid a b m → Mid a' b m := fun _ hb => ⟨Nat.le_trans h hb.1, hb.2⟩
theorem TermsO.mid {a a' : Nat} {w : World} {v : Value} {xs : List GT} (h : TermsO (From a) w v xs) (ha : a' ≤ a) : TermsO (Mid a' w.heap.size) w v xs := SliceO.imp h (fun b hb hlt => ⟨Nat.le_trans ha hb, hlt⟩) (.refl _ _) (Nat.le_refl _)
theorem PartsO.imp {S S' : Nat → Prop} {w w' : World} {v : Value} {xs : List GP} (h : PartsO S w v xs) (hS : ∀ b, S b → b < w.heap.size → S' b) (he : Agree S w w') (hsz : w.heap.size ≤ w'.heap.size) : PartsO S' w' v xs := SliceO.imp h hS he hsz
theorem heap_set {w : World} {p : Addr} {u : Value} {m : Nat} (h : m ≠ p.block) : (w.setCell p u).heap[m]? = w.heap[m]? := Below.heap_setCell w p u m h

set_option maxHeartbeats 1000000 in
theorem toTermS_own (v : Value) (xs : List GT) (w : World) {S : Nat → Prop} (hv : TermsR S w v xs) (hw : wTerms xs ≤ 1048576) :
    Calls Tryz.prog 91 #[v] w fun e w' => (∃ u, e = .returned u ∧ TermsO (From w.heap.size) w' u xs) ∧ Ext w w' := by
  obtain ⟨A, c, rfl, hc1, hc2⟩ := SliceR.form hv
  have hn : xs.length ≤ 1048576 := by unfold wTerms at hw; omega
  clear hw
  obtain ⟨i0, hi0, hz0, hz1, hz2⟩ := info_parts term_info
  obtain ⟨cs0, hcs0, hmk⟩ := made 24 33 i0 _ Tryz.underlying24 hi0 hz0 xs.length (by rw [hz2]; omega) (by omega)
  rw [hz1] at hcs0
  have HC := Lib.hid hcs0
  have HV := Lib.hid hv
  have HN := Lib.hid hn
  clear hcs0 hi0 hz0 hz1 hz2 hv hn
  go_enter Tryz.func91, Tryz.ntmps91
  go_wp2
  go_loopw [4] (fun i wr => ∃ (k : Nat) (cs : Array Value), k ≤ xs.length ∧ i = .int .i64 k ∧ cs.size = xs.length * 2 ∧ Blk wr w.heap.size 33 cs ∧ Filled 2 TermE wr cs xs k ∧ Ext w wr) (fun i _ => xs.length - (intOf i).toNat)
  case atStart => exact ⟨0, cs0, Nat.zero_le _, rfl, HC.out, Blk.new _ _ _, Filled.zero _ _ _ _ _, (Ext.refl _).alloc _⟩
  case round =>
    obtain ⟨k, cs, hk, rfl, hcs, hb, hf, hx⟩ := hrel
    by_cases hlt : k < xs.length
    · obtain ⟨b, off, x, rfl, hb0, hxk, hxs, hc0, hc1⟩ := TermsR.at_ (HV.out.ext hx) hlt
      have HK := Lib.hid hxk
      have HS := Lib.hid hcs
      have HF := Lib.hid hf
      have HB := Lib.hid hb
      have hg := hb.lt
      clear hxk hcs hf hb hmk
      go_wp2_with (go_at_call 122; refine (toTerm_any x _).mono ?_; rintro e w1 ⟨rfl, hx1⟩; obtain ⟨⟨u0, hr0⟩, hf0⟩ := (HB.out.ext hx1).ready (i := k * 2) (by have := HS.out; omega); obtain ⟨⟨u1, hr1⟩, hf1⟩ := (HB.out.ext hx1).ready (i := k * 2 + 1) (by have := HS.out; omega))
      go_roundw
      case rel =>
        have hb1 := HB.out.ext hx1
        refine ⟨k + 1, _, by omega, by go_num, ?_, ((hb1.set_ _ _).set_ _ _), HF.out.two (fun l y h => h) HK.out (by have := HS.out; omega) ⟨rfl, hxs⟩, (Below.setCell (Below.setCell (hx.trans' hx1) (Nat.le_refl _) _) (Nat.le_refl _) _)⟩
        simp [HS.out]
      case measure => simp [intOf]; omega
    · have hkk : k = xs.length := by omega
      go_wp2
      go_ret
      exact ⟨⟨_, rfl, Filled.terms (hkk ▸ hf) hb rfl (Nat.le_refl _) (by unfold maxLen; omega) (Nat.le_refl _)⟩, hx⟩

set_option maxHeartbeats 1000000 in
theorem toAtom_own (a : GA) (v : Value) (w : World) {S : Nat → Prop} (hv : TermsR S w v a.args) (hn : wTerms a.args ≤ 1048576) :
    Calls Tryz.prog 49 #[.agg #[.string a.n, v]] w fun e w' => (∃ u, e = .returned (.agg #[.string a.n, u]) ∧ TermsO (From w.heap.size) w' u a.args) ∧ Ext w w' := by
  obtain ⟨A, c, rfl, hc1, hc2⟩ := SliceR.form hv
  have HV := Lib.hid hv
  have HN := Lib.hid hn
  clear hv hn
  go_enter Tryz.func49, Tryz.ntmps49
  go_wp2_with (go_at_call 91; refine (toTermS_own _ a.args _ (HV.out.ext ((((Ext.refl _).alloc _).alloc _).alloc _)) HN.out).mono ?_; rintro e w1 ⟨⟨u, rfl, hu⟩, hx1⟩; obtain ⟨hcc, hcf⟩ := hx1.cells; obtain ⟨B, d, rfl, hd1, hd2⟩ := SliceO.form hu)
  refine bodyPost_ret (v := .agg #[.string a.n, .slice B a.args.length d]) (by simp [results, Tryz.results49, go_sem, hcc]) rfl ⟨⟨_, rfl, ?_⟩, ?_⟩
  · exact hu.imp (fun b hb _ => fromLe (by go_size) b hb) ((((Agree.refl _ _).set (by go_size) _).set (by go_size) _).set (by go_size) _) (by go_size)
  · exact (((((((Ext.refl _).alloc _).alloc _).alloc _).trans' hx1).setNew (by go_size) _).setNew (by go_size) _).setNew (by go_size) _

theorem size_setCell' (w : World) (p : Addr) (u : Value) : (w.setCell p u).heap.size = w.heap.size := by simp [World.setCell]
theorem RuleEO.forms {S : Nat → Prop} {w : World} {n : ByteArray} {v u : Value} {r : GR} (h : RuleEO S w [.string n, v, u] r) :
    (∃ A c, v = .slice A r.head.args.length c ∧ r.head.args.length ≤ c ∧ c ≤ 9223372036854775807) ∧ (∃ A c, u = .slice A r.body.length c ∧ r.body.length ≤ c ∧ c ≤ 9223372036854775807) := by
  obtain ⟨v3, u3, S1, S2, heq, _, hv2, hu2, _⟩ := h
  injection heq with _ heq
  injection heq with heq1 heq
  injection heq with heq2 _
  subst heq1 heq2
  exact ⟨SliceO.form hv2, SliceO.form hu2⟩
theorem RuleEO.made {a b : Nat} {w1 w1' w2 w3 : World} {v u : Value} {r : GR} (hn : r.head.n.size ≤ maxLen) (hv : TermsO (From a) w1 v r.head.args) (h1 : Agree (From a) w1 w1') (hs1 : w1.heap.size ≤ w1'.heap.size)
    (hx : Ext w1' w2) (hu : PartsO (From w1'.heap.size) w2 u r.body) (h2 : Agree (From a) w2 w3) (hs2 : w2.heap.size ≤ w3.heap.size) (ha : a ≤ w1.heap.size) (hb : b ≤ a) : RuleEO (From b) w3 [.string r.head.n, v, u] r :=
  ⟨v, u, Mid a w1.heap.size, From w1'.heap.size, rfl, hn, TermsO.imp (SliceO.ext (TermsO.imp (TermsO.mid hv (Nat.le_refl _)) (fun _ h _ => h) (Agree.mid h1) hs1) hx) (fun _ h _ => h) (Agree.mid h2) hs2,
    PartsO.imp hu (fun _ h _ => h) (fun i hi hlt => h2 i (Nat.le_trans (Nat.le_trans ha hs1) hi) hlt) hs2, fun i hi => Nat.le_trans hb hi.1, fun i hi => Nat.le_trans hb (Nat.le_trans (Nat.le_trans ha hs1) hi), fun i hi hi2 => Nat.lt_irrefl _ (Nat.lt_of_lt_of_le (Nat.lt_of_lt_of_le hi.2 hs1) hi2)⟩
theorem part_info : (Tryz.prog.info? 37).map (fun i => (i.zero, i.size, i.bytes)) = some (some (.agg #[.bool false, .string ByteArray.empty, .slice none 0 0]), 3, 48) := by kernel_rfl
theorem rule_info : (Tryz.prog.info? 93).map (fun i => (i.zero, i.size, i.bytes)) = some (some (.agg #[.string ByteArray.empty, .slice none 0 0, .slice none 0 0]), 3, 64) := by kernel_rfl

set_option maxHeartbeats 1000000 in
theorem toPart_own (p : GP) (v : Value) (w : World) {S : Nat → Prop} (hv : TermsR S w v p.atom.args) (hn : wTerms p.atom.args ≤ 1048576) :
    Calls Tryz.prog 50 #[.agg #[.bool p.no, .string p.atom.n, v]] w fun e w' => (∃ u, e = .returned (.agg #[.bool p.no, .string p.atom.n, u]) ∧ TermsO (From w.heap.size) w' u p.atom.args) ∧ Ext w w' := by
  obtain ⟨A, c, rfl, hc1, hc2⟩ := SliceR.form hv
  have HV := Lib.hid hv
  have HN := Lib.hid hn
  clear hv hn
  go_enter Tryz.func50, Tryz.ntmps50
  go_wp2_with (go_at_call 49; refine (toAtom_own p.atom _ _ (HV.out.ext ((((Ext.refl _).alloc _).alloc _).alloc _)) HN.out).mono ?_; rintro e w1 ⟨⟨u, rfl, hu⟩, hx1⟩; obtain ⟨hcc, hcf⟩ := hx1.cells; obtain ⟨B, d, rfl, hd1, hd2⟩ := SliceO.form hu)
  refine bodyPost_ret (v := .agg #[.bool p.no, .string p.atom.n, .slice B p.atom.args.length d]) (by simp [results, Tryz.results50, go_sem, hcc]) rfl ⟨⟨_, rfl, ?_⟩, ?_⟩
  · exact hu.imp (fun b hb _ => fromLe (by go_size) b hb) ((((((Agree.refl _ _).set (by go_size) _).set (by go_size) _).set (by go_size) _).set (by go_size) _).set (by go_size) _) (by go_size)
  · exact (((((((((Ext.refl _).alloc _).alloc _).alloc _).trans' hx1).setNew (by go_size) _).setNew (by go_size) _).setNew (by go_size) _).setNew (by go_size) _).setNew (by go_size) _

set_option maxHeartbeats 1000000 in
theorem toPartS_own (v : Value) (xs : List GP) (w : World) {S : Nat → Prop} (hv : PartsR S w v xs) (hw : wParts xs ≤ 1048576) :
    Calls Tryz.prog 19 #[v] w fun e w' => (∃ u, e = .returned u ∧ PartsO (From w.heap.size) w' u xs) ∧ Ext w w' := by
  obtain ⟨A, c, rfl, hc1, hc2⟩ := SliceR.form hv
  have hn : xs.length ≤ 1048576 := by unfold wParts at hw; omega
  obtain ⟨i0, hi0, hz0, hz1, hz2⟩ := info_parts part_info
  obtain ⟨cs0, hcs0, hmk⟩ := made 38 37 i0 _ Tryz.underlying38 hi0 hz0 xs.length (by rw [hz2]; omega) (by omega)
  rw [hz1] at hcs0
  have HC := Lib.hid hcs0
  have HV := Lib.hid hv
  have HN := Lib.hid hw
  clear hcs0 hi0 hz0 hz1 hz2 hv hn hw
  go_enter Tryz.func19, Tryz.ntmps19
  go_wp2
  go_loopw [4] (fun i wr => ∃ (k : Nat) (cs : Array Value), k ≤ xs.length ∧ i = .int .i64 k ∧ cs.size = xs.length * 3 ∧ Blk wr w.heap.size 37 cs ∧ FilledO kPartO w.heap.size (From (w.heap.size + 1)) wr cs xs k ∧ Ext w wr) (fun i _ => xs.length - (intOf i).toNat)
  case atStart => exact ⟨0, cs0, Nat.zero_le _, rfl, HC.out, Blk.new _ _ _, FilledO.zero, (Ext.refl _).alloc _⟩
  case round =>
    obtain ⟨k, cs, hk, rfl, hcs, hb, hf, hx⟩ := hrel
    by_cases hlt : k < xs.length
    · obtain ⟨b, off, x, v1, rfl, hb0, hxk, hxs, ht, hc0, hc1, hc2⟩ := PartsR.at_ (HV.out.ext hx) hlt
      obtain ⟨A1, c1, rfl, hq1, hq2⟩ := SliceR.form ht
      have HW := Lib.hid (show wTerms x.atom.args ≤ 1048576 from by
        have h1 := wParts_mem (List.mem_of_getElem? hxk); have h2 := HN.out; unfold wPart wAtom at h1; omega)
      have HK := Lib.hid hxk
      have HS := Lib.hid hcs
      have HF := Lib.hid hf
      have HB := Lib.hid hb
      have HT := Lib.hid ht
      have hg := hb.lt
      clear hxk hcs hf hb hmk ht
      go_wp2_with (first
        | (go_at_call 50; refine (toPart_own x _ _ HT.out HW.out).mono ?_; rintro e w1 ⟨⟨u, rfl, hu⟩, hx1⟩
           obtain ⟨B, d, rfl, hd1, hd2⟩ := SliceO.form hu
           obtain ⟨⟨u0, hr0⟩, hf0⟩ := (HB.out.ext hx1).ready (i := k * 3) (by have := HS.out; omega)
           obtain ⟨⟨u1', hr1⟩, hf1⟩ := (HB.out.ext hx1).ready (i := k * 3 + 1) (by have := HS.out; omega)
           obtain ⟨⟨u2, hr2⟩, hf2⟩ := (HB.out.ext hx1).ready (i := k * 3 + 2) (by have := HS.out; omega)))
      go_roundw
      case rel =>
        have hb1 := HB.out.ext hx1
        have ha : Agree (From (w.heap.size + 1)) w1 (((w1.setCell ⟨w.heap.size, k * 3, none⟩ (.bool x.no)).setCell ⟨w.heap.size, k * 3 + 1, none⟩ (.string x.atom.n)).setCell ⟨w.heap.size, k * 3 + 2, none⟩ (.slice B x.atom.args.length d)) :=
          (((Agree.refl _ _).set (by simp) _).set (by simp) _).set (by simp) _
        have hsz : w1.heap.size ≤ (((w1.setCell ⟨w.heap.size, k * 3, none⟩ (.bool x.no)).setCell ⟨w.heap.size, k * 3 + 1, none⟩ (.string x.atom.n)).setCell ⟨w.heap.size, k * 3 + 2, none⟩ (.slice B x.atom.args.length d)).heap.size := by go_size
        refine ⟨k + 1, _, by omega, by go_num, ?_, (((hb1.set_ _ _).set_ _ _).set_ _ _), HF.out.step (fun m hm hlt => (heap_set hm).trans ((heap_set hm).trans ((heap_set hm).trans (hx1.block m hlt)))) (Nat.le_trans hx1.size hsz) hg (fun m hm => by show w.heap.size + 1 ≤ m; omega) HK.out (l := [.bool x.no, .string x.atom.n, .slice B x.atom.args.length d]) ⟨_, rfl, hxs, hu.imp (fun b hb _ => hb) (fun b hb hlt => ha b (by show w.heap.size + 1 ≤ b; have : wr.heap.size ≤ b := hb; omega) hlt) hsz⟩ (set3_at (by have := HS.out; omega)) (fun o ho => set3_low o ho), (Below.setCell (Below.setCell (Below.setCell (hx.trans' hx1) (Nat.le_refl _) _) (Nat.le_refl _) _) (Nat.le_refl _) _)⟩
        simp [HS.out]
      case measure => simp [intOf]; omega
    · have hkk : k = xs.length := by omega
      go_wp2
      go_ret
      refine ⟨⟨_, rfl, ?_⟩, hx⟩
      exact FilledO.slice (c := xs.length) (hkk ▸ hf) hb rfl (Nat.le_refl _) (by unfold maxLen; have := HN.out; unfold wParts at this; omega) (Nat.le_refl _) (fromLe (by omega))

end Go.Proofs.YtfjdijakgjhieaaGreat

namespace Go.Proofs.YtfjdijakgjhieaaGreat
set_option linter.unusedSimpArgs false
set_option linter.unusedVariables false
open Go.RowKit

set_option maxHeartbeats 1000000 in
theorem toAtomS_own (v : Value) (xs : List GA) (w : World) {S : Nat → Prop} (hv : AtomsR S w v xs) (hw : wAtoms xs ≤ 1048576) :
    Calls Tryz.prog 18 #[v] w fun e w' => (∃ u, e = .returned u ∧ AtomsO (From w.heap.size) w' u xs) ∧ Ext w w' := by
  obtain ⟨A, c, rfl, hc1, hc2⟩ := SliceR.form hv
  have hn : xs.length ≤ 1048576 := by unfold wAtoms at hw; omega
  obtain ⟨i0, hi0, hz0, hz1, hz2⟩ := info_parts atom_info
  obtain ⟨cs0, hcs0, hmk⟩ := made 23 26 i0 _ Tryz.underlying23 hi0 hz0 xs.length (by rw [hz2]; omega) (by omega)
  rw [hz1] at hcs0
  have HC := Lib.hid hcs0
  have HV := Lib.hid hv
  have HN := Lib.hid hw
  clear hcs0 hi0 hz0 hz1 hz2 hv hn hw
  go_enter Tryz.func18, Tryz.ntmps18
  go_wp2
  go_loopw [4] (fun i wr => ∃ (k : Nat) (cs : Array Value), k ≤ xs.length ∧ i = .int .i64 k ∧ cs.size = xs.length * 2 ∧ Blk wr w.heap.size 26 cs ∧ FilledO kAtomO w.heap.size (From (w.heap.size + 1)) wr cs xs k ∧ Ext w wr) (fun i _ => xs.length - (intOf i).toNat)
  case atStart => exact ⟨0, cs0, Nat.zero_le _, rfl, HC.out, Blk.new _ _ _, FilledO.zero, (Ext.refl _).alloc _⟩
  case round =>
    obtain ⟨k, cs, hk, rfl, hcs, hb, hf, hx⟩ := hrel
    by_cases hlt : k < xs.length
    · obtain ⟨b, off, x, v1, rfl, hb0, hxk, hxs, ht, hc0, hc1⟩ := AtomsR.at_ (HV.out.ext hx) hlt
      obtain ⟨A1, c1, rfl, hq1, hq2⟩ := SliceR.form ht
      have HW := Lib.hid (show wTerms x.args ≤ 1048576 from by
        have h1 := wAtoms_mem (List.mem_of_getElem? hxk); have h2 := HN.out; unfold wAtom at h1; omega)
      have HK := Lib.hid hxk
      have HS := Lib.hid hcs
      have HF := Lib.hid hf
      have HB := Lib.hid hb
      have HT := Lib.hid ht
      have hg := hb.lt
      clear hxk hcs hf hb hmk ht
      go_wp2_with (first
        | (go_at_call 49; refine (toAtom_own x _ _ HT.out HW.out).mono ?_; rintro e w1 ⟨⟨u, rfl, hu⟩, hx1⟩
           obtain ⟨B, d, rfl, hd1, hd2⟩ := SliceO.form hu
           obtain ⟨⟨u0, hr0⟩, hf0⟩ := (HB.out.ext hx1).ready (i := k * 2) (by have := HS.out; omega)
           obtain ⟨⟨u1, hr1⟩, hf1⟩ := (HB.out.ext hx1).ready (i := k * 2 + 1) (by have := HS.out; omega)))
      go_roundw
      case rel =>
        have hb1 := HB.out.ext hx1
        have ha : Agree (From (w.heap.size + 1)) w1 ((w1.setCell ⟨w.heap.size, k * 2, none⟩ (.string x.n)).setCell ⟨w.heap.size, k * 2 + 1, none⟩ (.slice B x.args.length d)) :=
          ((Agree.refl _ _).set (by simp) _).set (by simp) _
        have hsz : w1.heap.size ≤ ((w1.setCell ⟨w.heap.size, k * 2, none⟩ (.string x.n)).setCell ⟨w.heap.size, k * 2 + 1, none⟩ (.slice B x.args.length d)).heap.size := by go_size
        refine ⟨k + 1, _, by omega, by go_num, ?_, ((hb1.set_ _ _).set_ _ _), HF.out.step (fun m hm hlt => (heap_set hm).trans ((heap_set hm).trans (hx1.block m hlt))) (Nat.le_trans hx1.size hsz) hg (fun m hm => by show w.heap.size + 1 ≤ m; omega) HK.out (l := [.string x.n, .slice B x.args.length d]) ⟨_, rfl, hxs, hu.imp (fun b hb _ => hb) (fun b hb hlt => ha b (by show w.heap.size + 1 ≤ b; have : wr.heap.size ≤ b := hb; omega) hlt) hsz⟩ (set2_at (by have := HS.out; omega)) (fun o ho => set2_low o ho), (Below.setCell (Below.setCell (hx.trans' hx1) (Nat.le_refl _) _) (Nat.le_refl _) _)⟩
        simp [HS.out]
      case measure => simp [intOf]; omega
    · have hkk : k = xs.length := by omega
      go_wp2
      go_ret
      refine ⟨⟨_, rfl, ?_⟩, hx⟩
      exact FilledO.slice (c := xs.length) (hkk ▸ hf) hb rfl (Nat.le_refl _) (by unfold maxLen; have := HN.out; unfold wAtoms at this; omega) (Nat.le_refl _) (fromLe (by omega))

end Go.Proofs.YtfjdijakgjhieaaGreat

namespace Go.Proofs.YtfjdijakgjhieaaGreat
open Go.RowKit

def costP (p : GP) : Nat := 2 + 2 * p.atom.args.length
def mPart (k : Nat) (p : GP) : GP := ⟨((k : Int) % 3 == 0), ⟨mtext (k + 1), mTerms (k + 2) p.atom.args.length⟩⟩
def costR (r : GR) : Nat := 1 + 2 * r.head.args.length + costL costP r.body
def mRule (k : Nat) (r : GR) : GR := ⟨⟨mtext k, mTerms (k + 1) r.head.args.length⟩, mList mPart costP (k + 1 + 2 * r.head.args.length) r.body⟩

theorem size_set1 (w : World) (p : Addr) (u : Value) : (w.setCell p u).heap.size = w.heap.size := by simp [World.setCell]

theorem PartsO.upd {S : Nat → Prop} {w : World} {A : Option Addr} {n c : Nat} {xs : List GP} (h : PartsO S w (.slice A n c) xs) {i : Nat} (hi : i < n) :
    ∃ (b off : Nat) (F : Nat → Prop) (x : GP) (u : Value), A = some ⟨b, off, none⟩ ∧ b < w.heap.size ∧ S b ∧ xs[i]? = some x ∧ (∀ m, F m → S m ∧ m ≠ b ∧ m < w.heap.size) ∧
      w.frozen? ⟨b, off + i * 3, none⟩ = false ∧ w.frozen? ⟨b, off + i * 3 + 1, none⟩ = false ∧ w.cell? ⟨b, off + i * 3, none⟩ = some (.bool x.no) ∧ w.cell? ⟨b, off + i * 3 + 1, none⟩ = some (.string x.atom.n) ∧ w.cell? ⟨b, off + i * 3 + 2, none⟩ = some u ∧ TermsO F w u x.atom.args ∧
      ∀ (w1 w2 : World) (y : GP), Ext (w.setCell ⟨b, off + i * 3, none⟩ (.bool y.no)) w1 → Inside F (w1.setCell ⟨b, off + i * 3 + 1, none⟩ (.string y.atom.n)) w2 → y.atom.n.size ≤ maxLen → TermsO F w2 u y.atom.args → PartsO S w2 (.slice A n c) (xs.set i y) := by
  obtain ⟨b, off, F, x, cs, rfl, hb, hs, hx, hfr, hF, hl, hcs, hE, hup⟩ := SliceO.update h hi
  obtain ⟨u, rfl, hxs, ht⟩ := hE
  have c0 := hcs 0 _ rfl
  have c1 := hcs 1 _ rfl
  have c2 := hcs 2 _ rfl
  have f0 := hfr 0 (by decide)
  have f1 := hfr 1 (by decide)
  refine ⟨b, off, F, x, u, rfl, hb, hs, hx, hF, f0, f1, c0, c1, c2, ht, fun w1 w2 y he hin hy ht2 => ?_⟩
  have hsz := he.size
  have hsz2 := hin.size
  rw [size_set1] at hsz hsz2
  have hnF : ¬ F b := fun h => (hF b h).2.1 rfl
  have hb0 : b < (w.setCell ⟨b, off + i * 3, none⟩ (.bool y.no)).heap.size := by rw [size_set1]; exact hb
  have hb1 : b < w1.heap.size := by omega
  have g0 : w1.cell? ⟨b, off + i * 3, none⟩ = some (.bool y.no) := (he.cells.1 b _ hb0).trans (World.cell?_setCell_same _ _ _ c0)
  have gx : ∀ o, o ≠ off + i * 3 → w1.cell? ⟨b, o, none⟩ = w.cell? ⟨b, o, none⟩ := fun o ho => (he.cells.1 b o hb0).trans (World.cell?_setCell_other _ _ _ _ (fun e => ho (congrArg Addr.off e).symm))
  have g1 : w1.cell? ⟨b, off + i * 3 + 1, none⟩ = some (.string x.atom.n) := (gx _ (by omega)).trans c1
  have hblk : w2.heap[b]? = (w1.setCell ⟨b, off + i * 3 + 1, none⟩ (.string y.atom.n)).heap[b]? := hin.block b (by rw [size_set1]; exact hb1) hnF
  have hcell : ∀ o, w2.cell? ⟨b, o, none⟩ = (w1.setCell ⟨b, off + i * 3 + 1, none⟩ (.string y.atom.n)).cell? ⟨b, o, none⟩ := fun o => World.cell?_of_block hblk
  have hfroz : ∀ o, w2.frozen? ⟨b, o, none⟩ = (w1.setCell ⟨b, off + i * 3 + 1, none⟩ (.string y.atom.n)).frozen? ⟨b, o, none⟩ := fun o => World.frozen?_of_block hblk
  have hoth : ∀ o, o ≠ off + i * 3 + 1 → w2.cell? ⟨b, o, none⟩ = w1.cell? ⟨b, o, none⟩ := fun o ho => (hcell o).trans (World.cell?_setCell_other _ _ _ _ (fun e => ho (congrArg Addr.off e).symm))
  refine hup _ [.bool y.no, .string y.atom.n, u] y (by omega) (fun m hm hn hlt => ?_) (fun o ho => ?_) (fun o => ?_) rfl (fun j v hv => ?_) ⟨u, rfl, hy, ht2⟩
  · rw [hin.block m (by rw [size_set1]; omega) hn, Below.heap_setCell _ _ _ _ hm, he.block m (by rw [size_set1]; exact hlt), Below.heap_setCell _ _ _ _ hm]
  · have e1 : o ≠ off + i * 3 ∧ o ≠ off + i * 3 + 1 := by
      rcases ho with ho | ho
      · have : o < off + i * 3 := ho
        omega
      · have : off + (i + 1) * 3 ≤ o := ho
        omega
    rw [hoth o e1.2, gx o e1.1]
  · rw [hfroz, frozen_set, he.cells.2 b o hb0, frozen_set]
  · match j, hv with
    | 0, hv =>
      simp at hv; subst hv
      show w2.cell? ⟨b, off + (i * 3 + 0), none⟩ = _
      rw [Nat.add_zero, hoth _ (by omega)]
      exact g0
    | 1, hv =>
      simp at hv; subst hv
      show w2.cell? ⟨b, off + (i * 3 + 1), none⟩ = _
      rw [hcell]
      exact World.cell?_setCell_same _ _ _ g1
    | 2, hv =>
      simp at hv; subst hv
      show w2.cell? ⟨b, off + (i * 3 + 2), none⟩ = _
      rw [hoth _ (by omega), gx _ (by omega)]
      exact c2

theorem RulesO.upd {S : Nat → Prop} {w : World} {A : Option Addr} {n c : Nat} {xs : List GR} (h : RulesO S w (.slice A n c) xs) {i : Nat} (hi : i < n) :
    ∃ (b off : Nat) (S1 S2 : Nat → Prop) (x : GR) (v u : Value), A = some ⟨b, off, none⟩ ∧ b < w.heap.size ∧ S b ∧ xs[i]? = some x ∧ (∀ m, S1 m ∨ S2 m → S m ∧ m ≠ b ∧ m < w.heap.size) ∧ (∀ m, S1 m → ¬ S2 m) ∧
      w.frozen? ⟨b, off + i * 3, none⟩ = false ∧ w.cell? ⟨b, off + i * 3, none⟩ = some (.string x.head.n) ∧ w.cell? ⟨b, off + i * 3 + 1, none⟩ = some v ∧ w.cell? ⟨b, off + i * 3 + 2, none⟩ = some u ∧ TermsO S1 w v x.head.args ∧ PartsO S2 w u x.body ∧
      ∀ (w1 w2 : World) (y : GR), Ext w w1 → Inside (fun m => S1 m ∨ S2 m) (w1.setCell ⟨b, off + i * 3, none⟩ (.string y.head.n)) w2 → y.head.n.size ≤ maxLen → TermsO S1 w2 v y.head.args → PartsO S2 w2 u y.body → RulesO S w2 (.slice A n c) (xs.set i y) := by
  obtain ⟨b, off, F, x, cs, rfl, hb, hs, hx, hfr, hF, hl, hcs, hE, hup⟩ := SliceO.update h hi
  obtain ⟨v, u, S1, S2, rfl, hxs, h3, h4, h5, h6, h7⟩ := hE
  have c0 := hcs 0 _ rfl
  have c1 := hcs 1 _ rfl
  have c2 := hcs 2 _ rfl
  have f0 := hfr 0 (by decide)
  refine ⟨b, off, S1, S2, x, v, u, rfl, hb, hs, hx, fun m hm => hF m (hm.elim (h5 m) (h6 m)), h7, f0, c0, c1, c2, h3, h4, fun w1 w2 y he hin hy k1 k2 => ?_⟩
  have hsz := he.size
  have hsz2 := hin.size
  rw [size_set1] at hsz2
  have hnb : ¬ (S1 b ∨ S2 b) := fun h => (hF b (h.elim (h5 b) (h6 b))).2.1 rfl
  have hb1 : b < w1.heap.size := by omega
  have e0 : w1.cell? ⟨b, off + i * 3, none⟩ = some (.string x.head.n) := (he.cells.1 b _ hb).trans c0
  have hblk : w2.heap[b]? = (w1.setCell ⟨b, off + i * 3, none⟩ (.string y.head.n)).heap[b]? := hin.block b (by rw [size_set1]; exact hb1) hnb
  have hcell : ∀ o, w2.cell? ⟨b, o, none⟩ = (w1.setCell ⟨b, off + i * 3, none⟩ (.string y.head.n)).cell? ⟨b, o, none⟩ := fun o => World.cell?_of_block hblk
  have hfroz : ∀ o, w2.frozen? ⟨b, o, none⟩ = (w1.setCell ⟨b, off + i * 3, none⟩ (.string y.head.n)).frozen? ⟨b, o, none⟩ := fun o => World.frozen?_of_block hblk
  have hoth : ∀ o, o ≠ off + i * 3 → w2.cell? ⟨b, o, none⟩ = w.cell? ⟨b, o, none⟩ := fun o ho => (hcell o).trans ((World.cell?_setCell_other _ _ _ _ (fun e => ho (congrArg Addr.off e).symm)).trans (he.cells.1 b o hb))
  refine hup _ [.string y.head.n, v, u] y (by omega) (fun m hm hn hlt => ?_) (fun o ho => ?_) (fun o => ?_) rfl (fun j z hz => ?_) ⟨v, u, S1, S2, rfl, hy, k1, k2, h5, h6, h7⟩
  · rw [hin.block m (by rw [size_set1]; omega) (fun h => hn (h.elim (h5 m) (h6 m))), Below.heap_setCell _ _ _ _ hm, he.block m hlt]
  · have e1 : o ≠ off + i * 3 := by
      rcases ho with ho | ho
      · have : o < off + i * 3 := ho
        omega
      · have : off + (i + 1) * 3 ≤ o := ho
        omega
    exact hoth o e1
  · rw [hfroz, frozen_set, he.cells.2 b o hb]
  · match j, hz with
    | 0, hz =>
      simp at hz; subst hz
      show w2.cell? ⟨b, off + (i * 3 + 0), none⟩ = _
      rw [Nat.add_zero, hcell]
      exact World.cell?_setCell_same _ _ _ e0
    | 1, hz =>
      simp at hz; subst hz
      show w2.cell? ⟨b, off + (i * 3 + 1), none⟩ = _
      rw [hoth _ (by omega)]
      exact c1
    | 2, hz =>
      simp at hz; subst hz
      show w2.cell? ⟨b, off + (i * 3 + 2), none⟩ = _
      rw [hoth _ (by omega)]
      exact c2

set_option maxRecDepth 100000 in
set_option maxHeartbeats 4000000 in
theorem markPartS_any (v : Value) (xs : List GP) (k : Nat) (w : World) {S : Nat → Prop} (hv : PartsO S w v xs) (h1 : 1 ≤ k) (h2 : k + costL costP xs ≤ 100000000) :
    Calls Tryz.prog 24 #[v, .int .i64 k] w fun e w' => (∃ q : Nat, q = k + costL costP xs ∧ e = .returned (.int .i64 q)) ∧ PartsO S w' v (mList mPart costP k xs) ∧ Inside S w w' := by
  obtain ⟨A, c, rfl, hc1, hc2⟩ := SliceO.form hv
  have HV := Lib.hid hv
  clear hv
  go_enter Tryz.func24, Tryz.ntmps24
  go_wp2
  go_loopw [1, 5] (fun kk i wr => ∃ (j q : Nat), j ≤ xs.length ∧ i = .int .i64 j ∧ kk = .int .i64 q ∧ q ≤ 100000000 ∧ 1 ≤ q ∧ Hid (q = k + costL costP (xs.take j)) ∧ Hid (PartsO S wr (.slice A xs.length c) (mList mPart costP k (xs.take j) ++ xs.drop j)) ∧ Hid (Inside S w wr)) (fun _ i _ => xs.length - (intOf i).toNat)
  case atStart => exact ⟨0, k, Nat.zero_le _, rfl, rfl, by omega, h1, by show _ = _; simp [costL], HV, Inside.refl _ _⟩
  case round =>
    obtain ⟨j, q, hj, rfl, rfl, hq1, hq2, hq, ht, hin⟩ := hrel
    have hk0 : (0 : Int) ≤ (j : Int) := by omega
    by_cases hlt : j < xs.length
    · obtain ⟨b, off, F, x, u, rfl, hb, hs, hx, hF, f0, f1, c0, c1, c2, htm, hup⟩ := PartsO.upd ht.out (i := j) hlt
      have hxj := mList_next mPart costP hj hx
      obtain ⟨B, d, rfl, hd1, hd2⟩ := SliceO.form htm
      have hk1 : (j : Int) < (xs.length : Int) := by omega
      have HU := Lib.hid hup
      have HS := Lib.hid hs
      have HF := Lib.hid hF
      have HT := Lib.hid htm
      have HK := Lib.hid (costL_take costP hxj)
      have hq3 : q + 2 + 2 * x.atom.args.length ≤ 100000000 := by
        have h3 := hq.out
        have h4 := HK.out
        have h5 := costL_take_le costP xs (j + 1)
        have hcp : costP x = 2 + 2 * x.atom.args.length := rfl
        omega
      have HN := Lib.hid (mList_step mPart costP (k := k) hxj)
      have HM := Lib.hid (fun (W : World) => markText_any (q + 1) W (by omega) (by omega))
      clear hup hs hx hF htm hxj
      go_wp2_with (first
        | (go_at_call 54; refine (HM.out _).mono ?_; rintro e w1 ⟨rfl, hx1⟩; have hz1 := hx1.size
           have d1 := (hx1.cells.1 b (off + j * 3 + 1) (by go_size)).trans ((World.cell?_setCell_other _ _ _ _ (by simp)).trans c1)
           have d2 := (hx1.cells.1 b (off + j * 3 + 2) (by go_size)).trans ((World.cell?_setCell_other _ _ _ _ (by simp)).trans c2)
           have e1 := (hx1.cells.2 b (off + j * 3 + 1) (by go_size)).trans ((frozen_set _ _ _ _).trans f1)
           have HX1 := Lib.hid hx1; clear hx1)
        | (go_at_call 55; refine (markTermS_any (S := F) _ x.atom.args (q + 1 + 1) _ (SliceO.imp ((SliceO.imp HT.out (fun _ h _ => h) ((Agree.refl _ _).setCell (fun hb => (HF.out b hb).2.1 rfl) _) (by go_size)).ext HX1.out) (fun _ h _ => h) ((Agree.refl _ _).setCell (fun hb => (HF.out b hb).2.1 rfl) _) (by go_size)) (by omega) (by omega)).mono ?_; rintro e w2 ⟨⟨q2, hq2', rfl⟩, ht2, hin2⟩; have HQ2 := Lib.hid hq2'; have HT2 := Lib.hid ht2; have HI2 := Lib.hid hin2; have hq4 : q2 ≤ 100000000 := (by omega); have hq5 : 1 ≤ q2 := (by omega); clear hq2' ht2 hin2))
      go_roundw
      case rel =>
        have hT := HU.out w1 w2 (mPart q x) HX1.out HI2.out (mtext_max _ (by omega)) HT2.out
        rw [hq.out, HN.out] at hT
        refine ⟨j + 1, q2, by omega, by go_num, rfl, hq4, hq5, by have h3 := HQ2.out; have h4 := HK.out; have h5 := hq.out; have hcp : costP x = 2 + 2 * x.atom.args.length := rfl; show _ = _; omega, hT, ?_⟩
        exact ((hin.out.trans' (Inside.set _ _ _ HS.out)).trans' (Inside.of_ext HX1.out)).trans' ((Inside.set _ _ _ HS.out).trans' (HI2.out.sub (fun i hi _ => (HF.out i hi).1)))
      case measure => simp [intOf]; omega
    · have hjj : j = xs.length := by omega
      have HF := Lib.hid (show mList mPart costP k (xs.take j) ++ xs.drop j = mList mPart costP k xs from by rw [hjj, List.drop_length, List.append_nil, List.take_length])
      have HQ := Lib.hid (show q = k + costL costP xs from by rw [hq.out, hjj, List.take_length])
      clear hjj
      go_wp2
      go_ret
      exact ⟨⟨q, HQ.out, rfl⟩, by rw [← HF.out]; exact ht.out, hin.out⟩

end Go.Proofs.YtfjdijakgjhieaaGreat

namespace Go.Proofs.YtfjdijakgjhieaaGreat
open Go.RowKit

/-- What is left of a purse behind a weight; -1 if it does not suffice. -/
def purse (left : Int) (n : Nat) : Int := if (n : Int) ≤ left then left - n else -1


theorem purse_yes {l : Int} {n : Nat} (h : (n : Int) ≤ l) : purse l n = l - n := if_pos h
theorem purse_no {l : Int} {n : Nat} (h : l < n) : purse l n = -1 := if_neg (by omega)

set_option maxHeartbeats 400000 in
theorem szTerm_any (t : GT) (l : Int) (w : World) (hl : 0 ≤ l ∧ l ≤ 1048576) (hs : t.n.size ≤ maxLen) :
    Calls Tryz.prog 118 #[.agg #[.bool t.v, .string t.n], .int .i64 l] w fun e w' => e = .returned (.int .i64 (purse l (wTerm t))) ∧ Ext w w' := by
  unfold maxLen at hs
  obtain ⟨h0, h1⟩ := hl
  by_cases hc : l < t.n.size
  · have HP := Lib.hid (purse_no (l := l) (n := wTerm t) hc)
    go_enter Tryz.func118, Tryz.ntmps118
    go_wp2
    go_ret
    exact ⟨by rw [HP.out]; rfl, (Ext.refl _).alloc _⟩
  · have HP := Lib.hid (purse_yes (l := l) (n := wTerm t) (by unfold wTerm; omega))
    go_enter Tryz.func118, Tryz.ntmps118
    go_wp2
    go_ret
    exact ⟨by rw [HP.out]; rfl, (Ext.refl _).alloc _⟩

theorem sum_snoc {α : Type} (f : α → Nat) (l : List α) (k : Nat) (x : α) (h : l[k]? = some x) : ((l.take (k + 1)).map f).sum = ((l.take k).map f).sum + f x := by
  obtain ⟨hk, rfl⟩ := List.getElem?_eq_some_iff.1 h
  rw [List.take_succ_eq_append_getElem hk, List.map_append, List.sum_append]; simp only [List.map_cons, List.map_nil, List.sum_cons, List.sum_nil, Nat.add_zero]
theorem sum_take_le {α : Type} (f : α → Nat) (l : List α) (k : Nat) : ((l.take k).map f).sum ≤ (l.map f).sum := by
  have h : (l.map f).sum = ((l.take k ++ l.drop k).map f).sum := by rw [List.take_append_drop]
  rw [h, List.map_append, List.sum_append]; omega

theorem two_ways {P : Program} {f : FuncId} {args : Array Value} {w : World} {l : Int} {n : Nat} (h : Calls P f args w fun e w' => e = .returned (.int .i64 (purse l n)) ∧ Ext w w') :
    (l < n → Calls P f args w fun e w' => e = .returned (.int .i64 (-1)) ∧ Ext w w') ∧ ((n : Int) ≤ l → Calls P f args w fun e w' => e = .returned (.int .i64 (l - n)) ∧ Ext w w') :=
  ⟨fun hc => by rw [purse_no hc] at h; exact h, fun hc => by rw [purse_yes hc] at h; exact h⟩

set_option maxHeartbeats 1000000 in
theorem szTermS_any (v : Value) (xs : List GT) (l : Int) (w : World) (hl : 0 ≤ l ∧ l ≤ 1048576) {S : Nat → Prop} (hv : TermsR S w v xs) :
    Calls Tryz.prog 87 #[v, .int .i64 l] w fun e w' => e = .returned (.int .i64 (purse l (wTerms xs))) ∧ Ext w w' := by
  obtain ⟨h0, h1⟩ := hl
  obtain ⟨A, c, rfl, hc1, hc2⟩ := SliceR.form hv
  by_cases hc : l < xs.length
  · have HP := Lib.hid (purse_no (l := l) (n := wTerms xs) (by unfold wTerms; omega))
    go_enter Tryz.func87, Tryz.ntmps87
    go_wp2
    go_ret
    exact ⟨by rw [HP.out]; rfl, Ext.refl _⟩
  · go_enter Tryz.func87, Tryz.ntmps87
    go_wp2
    go_loopw [1, 5] (fun lf i wr => ∃ k : Nat, ∃ q : Int, k ≤ xs.length ∧ i = .int .i64 k ∧ lf = .int .i64 q ∧ 0 ≤ q ∧ q ≤ l ∧ q = l - xs.length - ((xs.take k).map wTerm).sum ∧ Ext w wr) (fun _ i _ => xs.length - (intOf i).toNat)
    case atStart => exact ⟨0, _, Nat.zero_le _, rfl, rfl, by omega, by omega, by simp, Ext.refl _⟩
    case round =>
      obtain ⟨k, q, hk, rfl, rfl, hq0, hq1, hq, hx⟩ := hrel
      have HQ := Lib.hid hq
      clear hq
      by_cases hlt : k < xs.length
      · obtain ⟨b, off, x, rfl, hb, hxk, hxs, hc0, hc1⟩ := TermsR.at_ (hv.ext hx) hlt
        have HS := Lib.hid (sum_snoc wTerm xs k x hxk)
        have HL := Lib.hid (sum_take_le wTerm xs (k + 1))
        clear hxk hv
        have hw := two_ways (szTerm_any x q wr ⟨by omega, by omega⟩ hxs)
        by_cases hs : q < wTerm x
        · have HP := Lib.hid (purse_no (l := l) (n := wTerms xs) (by have := HS.out; have := HL.out; have := HQ.out; unfold wTerms; omega))
          have hw1 := Lib.hid (hw.1 hs)
          clear hw
          go_wp2_with (go_at_call 118; refine hw1.out.mono ?_; rintro e w1 ⟨rfl, hx1⟩)
          go_ret
          exact ⟨by rw [HP.out]; rfl, hx.trans' hx1⟩
        · have hw1 := Lib.hid (hw.2 (by omega))
          have hle : (wTerm x : Int) ≤ q := by omega
          clear hw
          go_wp2_with (go_at_call 118; refine hw1.out.mono ?_; rintro e w1 ⟨rfl, hx1⟩)
          go_roundw
          case rel => exact ⟨k + 1, _, by omega, by go_num, rfl, by omega, by omega, by have := HS.out; have := HQ.out; omega, hx.trans' hx1⟩
          case measure => simp [intOf]; omega
      · have HP := Lib.hid (purse_yes (l := l) (n := wTerms xs) (by
          have := HQ.out; rw [List.take_of_length_le (by omega)] at this; unfold wTerms; omega))
        go_wp2
        go_ret
        exact ⟨by rw [HP.out]; have := HQ.out; rw [List.take_of_length_le (by omega)] at this; rw [this]; unfold wTerms; exact congrArg (fun z => Ending.returned (.int .i64 z)) (by push_cast; omega), hx⟩

set_option maxHeartbeats 1000000 in
theorem szAtom_any (a : GA) (v : Value) (l : Int) (w : World) (hl : 0 ≤ l ∧ l ≤ 1048576) (hs : a.n.size ≤ maxLen) {S : Nat → Prop} (hv : TermsR S w v a.args) :
    Calls Tryz.prog 46 #[.agg #[.string a.n, v], .int .i64 l] w fun e w' => e = .returned (.int .i64 (purse l (wAtom a))) ∧ Ext w w' := by
  unfold maxLen at hs
  obtain ⟨h0, h1⟩ := hl
  obtain ⟨A, c, rfl, hc1, hc2⟩ := SliceR.form hv
  by_cases hc : l < a.n.size
  · have HP := Lib.hid (purse_no (l := l) (n := wAtom a) (by unfold wAtom; omega))
    go_enter Tryz.func46, Tryz.ntmps46
    go_wp2
    go_ret
    exact ⟨by rw [HP.out]; rfl, (Ext.refl _).alloc _⟩
  · have hw := two_ways (szTermS_any _ a.args (l - a.n.size) _ ⟨by omega, by omega⟩ (hv.ext ((Ext.refl w).alloc (.cells #[.string a.n, .slice A a.args.length c] 68))))
    by_cases hq : l - a.n.size < wTerms a.args
    · have HP := Lib.hid (purse_no (l := l) (n := wAtom a) (by unfold wAtom; omega))
      have hw1 := Lib.hid (hw.1 hq)
      clear hw
      go_enter Tryz.func46, Tryz.ntmps46
      go_wp2_with (go_at_call 87; go_fit hw1.out; rintro e w1 ⟨rfl, hx1⟩)
      go_ret
      exact ⟨by rw [HP.out]; rfl, ((Ext.refl _).alloc _).trans' hx1⟩
    · have HP := Lib.hid (purse_yes (l := l) (n := wAtom a) (by unfold wAtom; omega))
      have hw1 := Lib.hid (hw.2 (by omega))
      clear hw
      go_enter Tryz.func46, Tryz.ntmps46
      go_wp2_with (go_at_call 87; go_fit hw1.out; rintro e w1 ⟨rfl, hx1⟩)
      go_ret
      exact ⟨by rw [HP.out]; unfold wAtom; exact congrArg (fun z => Ending.returned (.int .i64 z)) (by push_cast; omega), ((Ext.refl _).alloc _).trans' hx1⟩

set_option maxHeartbeats 1000000 in
theorem szAtomS_any (v : Value) (xs : List GA) (l : Int) (w : World) (hl : 0 ≤ l ∧ l ≤ 1048576) {S : Nat → Prop} (hv : AtomsR S w v xs) :
    Calls Tryz.prog 15 #[v, .int .i64 l] w fun e w' => e = .returned (.int .i64 (purse l (wAtoms xs))) ∧ Ext w w' := by
  obtain ⟨h0, h1⟩ := hl
  obtain ⟨A, c, rfl, hc1, hc2⟩ := SliceR.form hv
  by_cases hc : l < xs.length
  · have HP := Lib.hid (purse_no (l := l) (n := wAtoms xs) (by unfold wAtoms; omega))
    go_enter Tryz.func15, Tryz.ntmps15
    go_wp2
    go_ret
    exact ⟨by rw [HP.out]; rfl, Ext.refl _⟩
  · go_enter Tryz.func15, Tryz.ntmps15
    go_wp2
    go_loopw [1, 5] (fun lf i wr => ∃ k : Nat, ∃ q : Int, k ≤ xs.length ∧ i = .int .i64 k ∧ lf = .int .i64 q ∧ 0 ≤ q ∧ q ≤ l ∧ q = l - xs.length - ((xs.take k).map wAtom).sum ∧ Ext w wr) (fun _ i _ => xs.length - (intOf i).toNat)
    case atStart => exact ⟨0, _, Nat.zero_le _, rfl, rfl, by omega, by omega, by simp, Ext.refl _⟩
    case round =>
      obtain ⟨k, q, hk, rfl, rfl, hq0, hq1, hq, hx⟩ := hrel
      have HQ := Lib.hid hq
      clear hq
      by_cases hlt : k < xs.length
      · obtain ⟨b, off, x, v, rfl, hb, hxk, hxs, ht, hc0, hc1⟩ := AtomsR.at_ (hv.ext hx) hlt
        have HS := Lib.hid (sum_snoc wAtom xs k x hxk)
        have HL := Lib.hid (sum_take_le wAtom xs (k + 1))
        clear hxk hv
        have hw := two_ways (szAtom_any x v q wr ⟨by omega, by omega⟩ hxs ht)
        by_cases hs : q < wAtom x
        · have HP := Lib.hid (purse_no (l := l) (n := wAtoms xs) (by have := HS.out; have := HL.out; have := HQ.out; unfold wAtoms; omega))
          have hw1 := Lib.hid (hw.1 hs)
          clear hw
          go_wp2_with (go_at_call 46; refine hw1.out.mono ?_; rintro e w1 ⟨rfl, hx1⟩)
          go_ret
          exact ⟨by rw [HP.out]; rfl, hx.trans' hx1⟩
        · have hw1 := Lib.hid (hw.2 (by omega))
          have hle : (wAtom x : Int) ≤ q := by omega
          clear hw
          go_wp2_with (go_at_call 46; refine hw1.out.mono ?_; rintro e w1 ⟨rfl, hx1⟩)
          go_roundw
          case rel => exact ⟨k + 1, _, by omega, by go_num, rfl, by omega, by omega, by have := HS.out; have := HQ.out; omega, hx.trans' hx1⟩
          case measure => simp [intOf]; omega
      · have HP := Lib.hid (purse_yes (l := l) (n := wAtoms xs) (by
          have := HQ.out; rw [List.take_of_length_le (by omega)] at this; unfold wAtoms; omega))
        go_wp2
        go_ret
        exact ⟨by rw [HP.out]; have := HQ.out; rw [List.take_of_length_le (by omega)] at this; rw [this]; unfold wAtoms; exact congrArg (fun z => Ending.returned (.int .i64 z)) (by push_cast; omega), hx⟩

end Go.Proofs.YtfjdijakgjhieaaGreat

namespace Go.Proofs.YtfjdijakgjhieaaGreat
open Go.RowKit

set_option maxHeartbeats 1000000 in
theorem szPart_any (p : GP) (v : Value) (l : Int) (w : World) (hl : 0 ≤ l ∧ l ≤ 1048576) (hs : p.atom.n.size ≤ maxLen) {S : Nat → Prop} (hv : TermsR S w v p.atom.args) :
    Calls Tryz.prog 47 #[.agg #[.bool p.no, .string p.atom.n, v], .int .i64 l] w fun e w' => e = .returned (.int .i64 (purse l (wPart p))) ∧ Ext w w' := by
  obtain ⟨A, c, rfl, hc1, hc2⟩ := SliceR.form hv
  have hw := two_ways (szAtom_any p.atom _ l _ hl hs (hv.ext ((Ext.refl w).alloc (.cells #[.bool p.no, .string p.atom.n, .slice A p.atom.args.length c] 71))))
  obtain ⟨h0, h1⟩ := hl
  by_cases hq : l < wAtom p.atom
  · have HP := Lib.hid (purse_no (l := l) (n := wPart p) hq)
    have hw1 := Lib.hid (hw.1 hq)
    clear hw
    go_enter Tryz.func47, Tryz.ntmps47
    go_wp2_with (go_at_call 46; go_fit hw1.out; rintro e w1 ⟨rfl, hx1⟩)
    go_ret
    exact ⟨by rw [HP.out]; rfl, ((Ext.refl _).alloc _).trans' hx1⟩
  · have HP := Lib.hid (purse_yes (l := l) (n := wPart p) (by unfold wPart; omega))
    have hw1 := Lib.hid (hw.2 (by omega))
    have hle : (wAtom p.atom : Int) ≤ l := by omega
    clear hw
    go_enter Tryz.func47, Tryz.ntmps47
    go_wp2_with (go_at_call 46; go_fit hw1.out; rintro e w1 ⟨rfl, hx1⟩)
    go_ret
    exact ⟨by rw [HP.out]; rfl, ((Ext.refl _).alloc _).trans' hx1⟩

set_option maxHeartbeats 1000000 in
theorem szPartS_any (v : Value) (xs : List GP) (l : Int) (w : World) (hl : 0 ≤ l ∧ l ≤ 1048576) {S : Nat → Prop} (hv : PartsR S w v xs) :
    Calls Tryz.prog 16 #[v, .int .i64 l] w fun e w' => e = .returned (.int .i64 (purse l (wParts xs))) ∧ Ext w w' := by
  obtain ⟨h0, h1⟩ := hl
  obtain ⟨A, c, rfl, hc1, hc2⟩ := SliceR.form hv
  by_cases hc : l < xs.length
  · have HP := Lib.hid (purse_no (l := l) (n := wParts xs) (by unfold wParts; omega))
    go_enter Tryz.func16, Tryz.ntmps16
    go_wp2
    go_ret
    exact ⟨by rw [HP.out]; rfl, Ext.refl _⟩
  · go_enter Tryz.func16, Tryz.ntmps16
    go_wp2
    go_loopw [1, 5] (fun lf i wr => ∃ k : Nat, ∃ q : Int, k ≤ xs.length ∧ i = .int .i64 k ∧ lf = .int .i64 q ∧ 0 ≤ q ∧ q ≤ l ∧ q = l - xs.length - ((xs.take k).map wPart).sum ∧ Ext w wr) (fun _ i _ => xs.length - (intOf i).toNat)
    case atStart => exact ⟨0, _, Nat.zero_le _, rfl, rfl, by omega, by omega, by simp, Ext.refl _⟩
    case round =>
      obtain ⟨k, q, hk, rfl, rfl, hq0, hq1, hq, hx⟩ := hrel
      have HQ := Lib.hid hq
      clear hq
      by_cases hlt : k < xs.length
      · obtain ⟨b, off, x, v, rfl, hb, hxk, hxs, ht, hc0, hc1, hc2⟩ := PartsR.at_ (hv.ext hx) hlt
        have HS := Lib.hid (sum_snoc wPart xs k x hxk)
        have HL := Lib.hid (sum_take_le wPart xs (k + 1))
        clear hxk hv
        have hw := two_ways (szPart_any x v q wr ⟨by omega, by omega⟩ hxs ht)
        by_cases hs : q < wPart x
        · have HP := Lib.hid (purse_no (l := l) (n := wParts xs) (by have := HS.out; have := HL.out; have := HQ.out; unfold wParts; omega))
          have hw1 := Lib.hid (hw.1 hs)
          clear hw
          go_wp2_with (go_at_call 47; refine hw1.out.mono ?_; rintro e w1 ⟨rfl, hx1⟩)
          go_ret
          exact ⟨by rw [HP.out]; rfl, hx.trans' hx1⟩
        · have hw1 := Lib.hid (hw.2 (by omega))
          have hle : (wPart x : Int) ≤ q := by omega
          clear hw
          go_wp2_with (go_at_call 47; refine hw1.out.mono ?_; rintro e w1 ⟨rfl, hx1⟩)
          go_roundw
          case rel => exact ⟨k + 1, _, by omega, by go_num, rfl, by omega, by omega, by have := HS.out; have := HQ.out; omega, hx.trans' hx1⟩
          case measure => simp [intOf]; omega
      · have HP := Lib.hid (purse_yes (l := l) (n := wParts xs) (by
          have := HQ.out; rw [List.take_of_length_le (by omega)] at this; unfold wParts; omega))
        go_wp2
        go_ret
        exact ⟨by rw [HP.out]; have := HQ.out; rw [List.take_of_length_le (by omega)] at this; rw [this]; unfold wParts; exact congrArg (fun z => Ending.returned (.int .i64 z)) (by push_cast; omega), hx⟩

set_option maxHeartbeats 1000000 in
theorem eqPart_same (p : GP) (v u : Value) (w : World) {S T : Nat → Prop} (hv : TermsR S w v p.atom.args) (hu : TermsR T w u p.atom.args) :
    Calls Tryz.prog 53 #[.agg #[.bool p.no, .string p.atom.n, v], .agg #[.bool p.no, .string p.atom.n, u]] w fun e w' => e = .returned (.bool true) ∧ Ext w w' := by
  obtain ⟨A, c, rfl, hc1, hc2⟩ := SliceR.form hv
  obtain ⟨B, d, rfl, hd1, hd2⟩ := SliceR.form hu
  have HV := Lib.hid hv
  have HU := Lib.hid hu
  have hbb : (p.no == p.no) = true := beq_self_eq_true _
  clear hv hu
  go_enter Tryz.func53, Tryz.ntmps53
  go_wp2_with (go_at_call 52; refine (eqAtom_same p.atom _ _ _ (HV.out.ext (((Ext.refl _).alloc _).alloc _)) (HU.out.ext (((Ext.refl _).alloc _).alloc _))).mono ?_; rintro e w1 ⟨rfl, hx1⟩)
  go_ret
  exact ⟨rfl, (((Ext.refl _).alloc _).alloc _).trans' hx1⟩

set_option maxRecDepth 100000 in
set_option maxHeartbeats 1000000 in
theorem eqPartS_same (v u : Value) (xs : List GP) (w : World) {S T : Nat → Prop} (hv : PartsR S w v xs) (hu : PartsR T w u xs) :
    Calls Tryz.prog 22 #[v, u] w fun e w' => e = .returned (.bool true) ∧ Ext w w' := by
  obtain ⟨A, c, rfl, hc1, hc2⟩ := SliceR.form hv
  obtain ⟨B, d, rfl, hd1, hd2⟩ := SliceR.form hu
  have HV := Lib.hid hv
  have HU := Lib.hid hu
  clear hv hu
  go_enter Tryz.func22, Tryz.ntmps22
  go_wp2
  go_loopw [5] (fun i wr => ∃ k : Nat, k ≤ xs.length ∧ i = .int .i64 k ∧ Ext w wr) (fun i _ => xs.length - (intOf i).toNat)
  case atStart => exact ⟨0, Nat.zero_le _, rfl, Ext.refl _⟩
  case round =>
    obtain ⟨k, hk, rfl, hx⟩ := hrel
    by_cases hlt : k < xs.length
    · obtain ⟨b, off, x, v1, rfl, hb, hxk, hxs, ht1, hc0, hc1, hc2⟩ := PartsR.at_ (HV.out.ext hx) hlt
      obtain ⟨b', off', x', v2, rfl, hb', hxk', hxs', ht2, hc0', hc1', hc2'⟩ := PartsR.at_ (HU.out.ext hx) hlt
      obtain rfl : x = x' := Option.some.inj (hxk.symm.trans hxk')
      clear hxk hxk'
      have hk0 : (0 : Int) ≤ (k : Int) := Int.natCast_nonneg _
      have hk1 : (k : Int) < (xs.length : Int) := by omega
      go_wp2_with fail
      go_still_tail 8, (by kernel_rfl)
      change wpList _ _ _ _ _ wr.drew
      clear hb hb' hc0 hc1 hc2 hc0' hc1' hc2'
      go_wp2_with (go_at_call 53; refine (eqPart_same x _ _ _ ht1.drew_ ht2.drew_).mono ?_; rintro e w1 ⟨rfl, hx1⟩)
      go_roundw
      case rel => exact ⟨k + 1, by omega, by go_num, hx.drew.trans' hx1⟩
      case measure => simp [intOf]; omega
    · go_wp2
      go_ret
      exact ⟨rfl, hx⟩

end Go.Proofs.YtfjdijakgjhieaaGreat
