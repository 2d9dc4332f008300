/- The walks of the laws' copies once more: new memory that is owned whole, for terms, atoms, parts, rules. -/
import Derived.Test.YthndnkafckapnaaGreatDoorTo
import Derived.Test.YthndnkafckapnaaGreatDoorKinds
namespace Go.Proofs.YthndnkafckapnaaGreatDoor
open Go.RowKit

/-- The first n elements of a row under construction, which lie apart. -/
def FilledO {α : Type} (k : Kind α) (g : Nat) (S : Nat → Prop) (w : World) (cs : Array Value) (xs : List α) (n : Nat) : Prop :=
  ∃ F : Nat → Nat → Prop, (∀ i m, F i m → S m ∧ m ≠ g ∧ m < w.heap.size) ∧ (∀ i j m, F i m → F j m → i = j) ∧
    ∀ (i : Nat) (x : α), i < n → xs[i]? = some x → ∃ l : List Value, l.length = k.size ∧ (∀ (j : Nat) (u : Value), l[j]? = some u → cs[i * k.size + j]? = some u) ∧ k.E (F i) w l x
section
variable {α : Type} {k : Kind α} {g : Nat} {S S' : Nat → Prop} {w w' : World} {cs cs' : Array Value} {xs : List α} {n : Nat}
theorem FilledO.zero : FilledO k g S w cs xs 0 := ⟨fun _ _ => False, fun _ _ h => h.elim, fun _ _ _ h => h.elim, fun _ _ h => absurd h (by omega)⟩
theorem FilledO.step (h : FilledO k g S w cs xs n) (hag : ∀ m, m ≠ g → m < w.heap.size → w'.heap[m]? = w.heap[m]?) (hsz : w.heap.size ≤ w'.heap.size) (hg : g < w.heap.size) (hS : ∀ m, w.heap.size ≤ m → S m)
    {x : α} (hk : xs[n]? = some x) {l : List Value} (hx : k.E (From w.heap.size) w' l x) (h1 : ∀ (j : Nat) (u : Value), l[j]? = some u → cs'[n * k.size + j]? = some u) (h2 : ∀ o, o < n * k.size → cs'[o]? = cs[o]?) :
    FilledO k g S w' cs' xs (n + 1) := by
  obtain ⟨F, k1, k2, k3⟩ := h
  refine ⟨fun i m => (i < n ∧ F i m) ∨ (i = n ∧ w.heap.size ≤ m ∧ m < w'.heap.size), fun i m hm => ?_, fun i j m hi hj => ?_, fun i y hi hy => ?_⟩
  · rcases hm with ⟨_, hm⟩ | ⟨_, hm, hm2⟩
    · exact ⟨(k1 i m hm).1, (k1 i m hm).2.1, Nat.lt_of_lt_of_le (k1 i m hm).2.2 hsz⟩
    · exact ⟨hS m hm, fun e => by omega, hm2⟩
  · rcases hi with ⟨hi1, hi⟩ | ⟨hi1, hi2, _⟩ <;> rcases hj with ⟨hj1, hj⟩ | ⟨hj1, hj2, _⟩
    · exact k2 i j m hi hj
    · have := (k1 i m hi).2.2; omega
    · have := (k1 j m hj).2.2; omega
    · omega
  · by_cases hin : i = n
    · subst hin
      rw [hk] at hy; injection hy with hy; subst hy
      exact ⟨l, k.len hx, h1, k.imp hx (fun b hb hlt => .inr ⟨rfl, hb, hlt⟩) (.refl _ _) (Nat.le_refl _)⟩
    · obtain ⟨l', m1, m2, m3⟩ := k3 i y (by omega) hy
      refine ⟨l', m1, fun j u hu => ?_, k.imp m3 (fun b hb _ => .inl ⟨by omega, hb⟩) (fun b hb hlt => hag b (k1 i b hb).2.1 hlt) hsz⟩
      have hj : j < k.size := by rw [← m1]; exact (List.getElem?_eq_some_iff.1 hu).1
      rw [h2 _ (by
        have : (i + 1) * k.size ≤ n * k.size := Nat.mul_le_mul_right _ (by omega)
        rw [Nat.add_mul] at this; omega)]
      exact m2 j u hu
theorem FilledO.slice (h : FilledO k g S w cs xs n) {t : TypeId} {c : Nat} (hb : Blk w g t cs) (hn : n = xs.length) (hc : n ≤ c) (hm : c ≤ maxLen) (hg : S' g) (hS : ∀ m, S m → S' m) : SliceO k S' w (.slice (some ⟨g, 0, none⟩) n c) xs := by
  subst hn
  obtain ⟨F, k1, k2, k3⟩ := h
  refine ⟨_, c, rfl, hc, hm, fun _ => ⟨g, 0, F, rfl, hb.lt, hg, fun j _ => hb.frozen _, fun i m hm => ⟨hS m (k1 i m hm).1, (k1 i m hm).2⟩, k2, fun i x hx => ?_⟩⟩
  obtain ⟨l, h1, h2, h3⟩ := k3 i x (List.getElem?_eq_some_iff.1 hx).1 hx
  exact ⟨l, h1, fun j u hu => by rw [hb.cell, Nat.zero_add]; exact h2 j u hu, h3⟩
end
theorem Filled.terms {g : Nat} {t : TypeId} {S : Nat → Prop} {w : World} {cs : Array Value} {xs : List GT} {n c : Nat} (h : Filled 2 TermE w cs xs n) (hb : Blk w g t cs) (hn : n = xs.length) (hc : n ≤ c) (hm : c ≤ maxLen) (hg : S g) : TermsO S w (.slice (some ⟨g, 0, none⟩) n c) xs :=
  FilledO.slice (k := kTerm) (S := fun _ => False) (n := n) ⟨fun _ _ => False, fun _ _ h => h.elim, fun _ _ _ h => h.elim, fun i x hi hx => h i x hi hx⟩ hb hn hc hm hg (fun _ h => h.elim)
theorem set3_at {cs : Array Value} {i : Nat} {a b d : Value} (hs : i * 3 + 2 < cs.size) (j : Nat) (u : Value) (hu : [a, b, d][j]? = some u) : (((cs.setIfInBounds (i * 3) a).setIfInBounds (i * 3 + 1) b).setIfInBounds (i * 3 + 2) d)[i * 3 + j]? = some u := by
  match j, hu with
  | 0, hu => simp at hu; subst hu; simp [show i * 3 < cs.size from by omega]
  | 1, hu => simp at hu; subst hu; simp [show i * 3 + 1 < cs.size from by omega]
  | 2, hu => simp at hu; subst hu; simp [hs]
theorem set3_low {cs : Array Value} {i : Nat} {a b d : Value} (o : Nat) (ho : o < i * 3) : (((cs.setIfInBounds (i * 3) a).setIfInBounds (i * 3 + 1) b).setIfInBounds (i * 3 + 2) d)[o]? = cs[o]? := by
  rw [Array.getElem?_setIfInBounds_ne (by omega), Array.getElem?_setIfInBounds_ne (by omega), Array.getElem?_setIfInBounds_ne (by omega)]
theorem set2_at {cs : Array Value} {i : Nat} {a b : Value} (hs : i * 2 + 1 < cs.size) (j : Nat) (u : Value) (hu : [a, b][j]? = some u) : ((cs.setIfInBounds (i * 2) a).setIfInBounds (i * 2 + 1) b)[i * 2 + j]? = some u := by
  match j, hu with
  | 0, hu => simp at hu; subst hu; simp [show i * 2 < cs.size from by omega]
  | 1, hu => simp at hu; subst hu; simp [hs]
theorem set2_low {cs : Array Value} {i : Nat} {a b : Value} (o : Nat) (ho : o < i * 2) : ((cs.setIfInBounds (i * 2) a).setIfInBounds (i * 2 + 1) b)[o]? = cs[o]? := by
  rw [Array.getElem?_setIfInBounds_ne (by omega), Array.getElem?_setIfInBounds_ne (by omega)]
/-- Blocks from a on, ahead of b. -/
abbrev Mid (a b : Nat) : Nat → Prop := fun m => a ≤ m ∧ m < b
theorem Agree.setM {a b : Nat} {w0 w : World} (h : Agree (Mid a b) w0 w) {p : Addr} (hp : p.block < a) (u : Value) : Agree (Mid a b) w0 (w.setCell p u) := h.setCell (fun hb => Nat.lt_irrefl _ (Nat.lt_of_lt_of_le hp hb.1)) u
theorem Agree.mid {a b : Nat} {w w' : World} (h : Agree (From a) w w') : Agree (Mid a b) w w' := fun i hb hlt => h i hb.1 hlt
theorem midLe {a a' b : Nat} (h : a' ≤ a) : ∀ m, Mid a b m → Mid a' b m := fun _ hb => ⟨Nat.le_trans h hb.1, hb.2⟩
theorem TermsO.mid {a a' : Nat} {w : World} {v : Value} {xs : List GT} (h : TermsO (From a) w v xs) (ha : a' ≤ a) : TermsO (Mid a' w.heap.size) w v xs := SliceO.imp h (fun b hb hlt => ⟨Nat.le_trans ha hb, hlt⟩) (.refl _ _) (Nat.le_refl _)
theorem PartsO.imp {S S' : Nat → Prop} {w w' : World} {v : Value} {xs : List GP} (h : PartsO S w v xs) (hS : ∀ b, S b → b < w.heap.size → S' b) (he : Agree S w w') (hsz : w.heap.size ≤ w'.heap.size) : PartsO S' w' v xs := SliceO.imp h hS he hsz
theorem heap_set {w : World} {p : Addr} {u : Value} {m : Nat} (h : m ≠ p.block) : (w.setCell p u).heap[m]? = w.heap[m]? := Below.heap_setCell w p u m h

set_option maxHeartbeats 1000000 in
theorem toTermS_own (v : Value) (xs : List GT) (w : World) {S : Nat → Prop} (hv : TermsR S w v xs) (hw : wTerms xs ≤ 1048576) :
    Calls Tryz.prog 139 #[v] w fun e w' => (∃ u, e = .returned u ∧ TermsO (From w.heap.size) w' u xs) ∧ Ext w w' := by
  obtain ⟨A, c, rfl, hc1, hc2⟩ := SliceR.form hv
  have hn : xs.length ≤ 1048576 := by unfold wTerms at hw; omega
  clear hw
  obtain ⟨i0, hi0, hz0, hz1, hz2⟩ := info_parts term_info
  obtain ⟨cs0, hcs0, hmk⟩ := made 65 125 i0 _ Tryz.underlying65 hi0 hz0 xs.length (by rw [hz2]; omega) (by omega)
  rw [hz1] at hcs0
  have HC := Lib.hid hcs0
  have HV := Lib.hid hv
  have HN := Lib.hid hn
  clear hcs0 hi0 hz0 hz1 hz2 hv hn
  go_enter Tryz.func139, Tryz.ntmps139
  go_wp2
  go_loopw [4] (fun i wr => ∃ (k : Nat) (cs : Array Value), k ≤ xs.length ∧ i = .int .i64 k ∧ cs.size = xs.length * 2 ∧ Blk wr w.heap.size 125 cs ∧ Filled 2 TermE wr cs xs k ∧ Ext w wr) (fun i _ => xs.length - (intOf i).toNat)
  case atStart => exact ⟨0, cs0, Nat.zero_le _, rfl, HC.out, Blk.new _ _ _, Filled.zero _ _ _ _ _, (Ext.refl _).alloc _⟩
  case round =>
    obtain ⟨k, cs, hk, rfl, hcs, hb, hf, hx⟩ := hrel
    by_cases hlt : k < xs.length
    · obtain ⟨b, off, x, rfl, hb0, hxk, hxs, hc0, hc1⟩ := TermsR.at_ (HV.out.ext hx) hlt
      have HK := Lib.hid hxk
      have HS := Lib.hid hcs
      have HF := Lib.hid hf
      have HB := Lib.hid hb
      have hg := hb.lt
      clear hxk hcs hf hb hmk
      go_wp2_with (go_at_call 179; refine (toTerm_any x _).mono ?_; rintro e w1 ⟨rfl, hx1⟩; obtain ⟨⟨u0, hr0⟩, hf0⟩ := (HB.out.ext hx1).ready (i := k * 2) (by have := HS.out; omega); obtain ⟨⟨u1, hr1⟩, hf1⟩ := (HB.out.ext hx1).ready (i := k * 2 + 1) (by have := HS.out; omega))
      go_roundw
      case rel =>
        have hb1 := HB.out.ext hx1
        refine ⟨k + 1, _, by omega, by go_num, ?_, ((hb1.set_ _ _).set_ _ _), HF.out.two (fun l y h => h) HK.out (by have := HS.out; omega) ⟨rfl, hxs⟩, (Below.setCell (Below.setCell (hx.trans' hx1) (Nat.le_refl _) _) (Nat.le_refl _) _)⟩
        simp [HS.out]
      case measure => simp [intOf]; omega
    · have hkk : k = xs.length := by omega
      go_wp2
      go_ret
      exact ⟨⟨_, rfl, Filled.terms (hkk ▸ hf) hb rfl (Nat.le_refl _) (by unfold maxLen; omega) (Nat.le_refl _)⟩, hx⟩

set_option maxHeartbeats 1000000 in
theorem toAtom_own (a : GA) (v : Value) (w : World) {S : Nat → Prop} (hv : TermsR S w v a.args) (hn : wTerms a.args ≤ 1048576) :
    Calls Tryz.prog 102 #[.agg #[.string a.n, v]] w fun e w' => (∃ u, e = .returned (.agg #[.string a.n, u]) ∧ TermsO (From w.heap.size) w' u a.args) ∧ Ext w w' := by
  obtain ⟨A, c, rfl, hc1, hc2⟩ := SliceR.form hv
  have HV := Lib.hid hv
  have HN := Lib.hid hn
  clear hv hn
  go_enter Tryz.func102, Tryz.ntmps102
  go_wp2_with (go_at_call 139; refine (toTermS_own _ a.args _ (HV.out.ext ((((Ext.refl _).alloc _).alloc _).alloc _)) HN.out).mono ?_; rintro e w1 ⟨⟨u, rfl, hu⟩, hx1⟩; obtain ⟨hcc, hcf⟩ := hx1.cells; obtain ⟨B, d, rfl, hd1, hd2⟩ := SliceO.form hu)
  refine bodyPost_ret (v := .agg #[.string a.n, .slice B a.args.length d]) (by simp [results, Tryz.results102, go_sem, hcc]) rfl ⟨⟨_, rfl, ?_⟩, ?_⟩
  · exact hu.imp (fun b hb _ => fromLe (by go_size) b hb) ((((Agree.refl _ _).set (by go_size) _).set (by go_size) _).set (by go_size) _) (by go_size)
  · exact (((((((Ext.refl _).alloc _).alloc _).alloc _).trans' hx1).setNew (by go_size) _).setNew (by go_size) _).setNew (by go_size) _

theorem size_setCell' (w : World) (p : Addr) (u : Value) : (w.setCell p u).heap.size = w.heap.size := by simp [World.setCell]
theorem RuleEO.forms {S : Nat → Prop} {w : World} {n : ByteArray} {v u : Value} {r : GR} (h : RuleEO S w [.string n, v, u] r) :
    (∃ A c, v = .slice A r.head.args.length c ∧ r.head.args.length ≤ c ∧ c ≤ 9223372036854775807) ∧ (∃ A c, u = .slice A r.body.length c ∧ r.body.length ≤ c ∧ c ≤ 9223372036854775807) := by
  obtain ⟨v3, u3, S1, S2, heq, _, hv2, hu2, _⟩ := h
  injection heq with _ heq
  injection heq with heq1 heq
  injection heq with heq2 _
  subst heq1 heq2
  exact ⟨SliceO.form hv2, SliceO.form hu2⟩
theorem RuleEO.made {a b : Nat} {w1 w1' w2 w3 : World} {v u : Value} {r : GR} (hn : r.head.n.size ≤ maxLen) (hv : TermsO (From a) w1 v r.head.args) (h1 : Agree (From a) w1 w1') (hs1 : w1.heap.size ≤ w1'.heap.size)
    (hx : Ext w1' w2) (hu : PartsO (From w1'.heap.size) w2 u r.body) (h2 : Agree (From a) w2 w3) (hs2 : w2.heap.size ≤ w3.heap.size) (ha : a ≤ w1.heap.size) (hb : b ≤ a) : RuleEO (From b) w3 [.string r.head.n, v, u] r :=
  ⟨v, u, Mid a w1.heap.size, From w1'.heap.size, rfl, hn, TermsO.imp (SliceO.ext (TermsO.imp (TermsO.mid hv (Nat.le_refl _)) (fun _ h _ => h) (Agree.mid h1) hs1) hx) (fun _ h _ => h) (Agree.mid h2) hs2,
    PartsO.imp hu (fun _ h _ => h) (fun i hi hlt => h2 i (Nat.le_trans (Nat.le_trans ha hs1) hi) hlt) hs2, fun i hi => Nat.le_trans hb hi.1, fun i hi => Nat.le_trans hb (Nat.le_trans (Nat.le_trans ha hs1) hi), fun i hi hi2 => Nat.lt_irrefl _ (Nat.lt_of_lt_of_le (Nat.lt_of_lt_of_le hi.2 hs1) hi2)⟩
theorem part_info : (Tryz.prog.info? 144).map (fun i => (i.zero, i.size, i.bytes)) = some (some (.agg #[.bool false, .string ByteArray.empty, .slice none 0 0]), 3, 48) := by kernel_rfl
theorem rule_info : (Tryz.prog.info? 95).map (fun i => (i.zero, i.size, i.bytes)) = some (some (.agg #[.string ByteArray.empty, .slice none 0 0, .slice none 0 0]), 3, 64) := by kernel_rfl

set_option maxHeartbeats 1000000 in
theorem toPart_own (p : GP) (v : Value) (w : World) {S : Nat → Prop} (hv : TermsR S w v p.atom.args) (hn : wTerms p.atom.args ≤ 1048576) :
    Calls Tryz.prog 140 #[.agg #[.bool p.no, .string p.atom.n, v]] w fun e w' => (∃ u, e = .returned (.agg #[.bool p.no, .string p.atom.n, u]) ∧ TermsO (From w.heap.size) w' u p.atom.args) ∧ Ext w w' := by
  obtain ⟨A, c, rfl, hc1, hc2⟩ := SliceR.form hv
  have HV := Lib.hid hv
  have HN := Lib.hid hn
  clear hv hn
  go_enter Tryz.func140, Tryz.ntmps140
  go_wp2_with (go_at_call 102; refine (toAtom_own p.atom _ _ (HV.out.ext ((((Ext.refl _).alloc _).alloc _).alloc _)) HN.out).mono ?_; rintro e w1 ⟨⟨u, rfl, hu⟩, hx1⟩; obtain ⟨hcc, hcf⟩ := hx1.cells; obtain ⟨B, d, rfl, hd1, hd2⟩ := SliceO.form hu)
  refine bodyPost_ret (v := .agg #[.bool p.no, .string p.atom.n, .slice B p.atom.args.length d]) (by simp [results, Tryz.results140, go_sem, hcc]) rfl ⟨⟨_, rfl, ?_⟩, ?_⟩
  · exact hu.imp (fun b hb _ => fromLe (by go_size) b hb) ((((((Agree.refl _ _).set (by go_size) _).set (by go_size) _).set (by go_size) _).set (by go_size) _).set (by go_size) _) (by go_size)
  · exact (((((((((Ext.refl _).alloc _).alloc _).alloc _).trans' hx1).setNew (by go_size) _).setNew (by go_size) _).setNew (by go_size) _).setNew (by go_size) _).setNew (by go_size) _

set_option maxHeartbeats 1000000 in
theorem toPartS_own (v : Value) (xs : List GP) (w : World) {S : Nat → Prop} (hv : PartsR S w v xs) (hw : wParts xs ≤ 1048576) :
    Calls Tryz.prog 103 #[v] w fun e w' => (∃ u, e = .returned u ∧ PartsO (From w.heap.size) w' u xs) ∧ Ext w w' := by
  obtain ⟨A, c, rfl, hc1, hc2⟩ := SliceR.form hv
  have hn : xs.length ≤ 1048576 := by unfold wParts at hw; omega
  obtain ⟨i0, hi0, hz0, hz1, hz2⟩ := info_parts part_info
  obtain ⟨cs0, hcs0, hmk⟩ := made 93 144 i0 _ Tryz.underlying93 hi0 hz0 xs.length (by rw [hz2]; omega) (by omega)
  rw [hz1] at hcs0
  have HC := Lib.hid hcs0
  have HV := Lib.hid hv
  have HN := Lib.hid hw
  clear hcs0 hi0 hz0 hz1 hz2 hv hn hw
  go_enter Tryz.func103, Tryz.ntmps103
  go_wp2
  go_loopw [4] (fun i wr => ∃ (k : Nat) (cs : Array Value), k ≤ xs.length ∧ i = .int .i64 k ∧ cs.size = xs.length * 3 ∧ Blk wr w.heap.size 144 cs ∧ FilledO kPartO w.heap.size (From (w.heap.size + 1)) wr cs xs k ∧ Ext w wr) (fun i _ => xs.length - (intOf i).toNat)
  case atStart => exact ⟨0, cs0, Nat.zero_le _, rfl, HC.out, Blk.new _ _ _, FilledO.zero, (Ext.refl _).alloc _⟩
  case round =>
    obtain ⟨k, cs, hk, rfl, hcs, hb, hf, hx⟩ := hrel
    by_cases hlt : k < xs.length
    · obtain ⟨b, off, x, v1, rfl, hb0, hxk, hxs, ht, hc0, hc1, hc2⟩ := PartsR.at_ (HV.out.ext hx) hlt
      obtain ⟨A1, c1, rfl, hq1, hq2⟩ := SliceR.form ht
      have HW := Lib.hid (show wTerms x.atom.args ≤ 1048576 from by
        have h1 := wParts_mem (List.mem_of_getElem? hxk); have h2 := HN.out; unfold wPart wAtom at h1; omega)
      have HK := Lib.hid hxk
      have HS := Lib.hid hcs
      have HF := Lib.hid hf
      have HB := Lib.hid hb
      have HT := Lib.hid ht
      have hg := hb.lt
      clear hxk hcs hf hb hmk ht
      go_wp2_with (first
        | (go_at_call 140; refine (toPart_own x _ _ HT.out HW.out).mono ?_; rintro e w1 ⟨⟨u, rfl, hu⟩, hx1⟩
           obtain ⟨B, d, rfl, hd1, hd2⟩ := SliceO.form hu
           obtain ⟨⟨u0, hr0⟩, hf0⟩ := (HB.out.ext hx1).ready (i := k * 3) (by have := HS.out; omega)
           obtain ⟨⟨u1', hr1⟩, hf1⟩ := (HB.out.ext hx1).ready (i := k * 3 + 1) (by have := HS.out; omega)
           obtain ⟨⟨u2, hr2⟩, hf2⟩ := (HB.out.ext hx1).ready (i := k * 3 + 2) (by have := HS.out; omega)))
      go_roundw
      case rel =>
        have hb1 := HB.out.ext hx1
        have ha : Agree (From (w.heap.size + 1)) w1 (((w1.setCell ⟨w.heap.size, k * 3, none⟩ (.bool x.no)).setCell ⟨w.heap.size, k * 3 + 1, none⟩ (.string x.atom.n)).setCell ⟨w.heap.size, k * 3 + 2, none⟩ (.slice B x.atom.args.length d)) :=
          (((Agree.refl _ _).set (by simp) _).set (by simp) _).set (by simp) _
        have hsz : w1.heap.size ≤ (((w1.setCell ⟨w.heap.size, k * 3, none⟩ (.bool x.no)).setCell ⟨w.heap.size, k * 3 + 1, none⟩ (.string x.atom.n)).setCell ⟨w.heap.size, k * 3 + 2, none⟩ (.slice B x.atom.args.length d)).heap.size := by go_size
        refine ⟨k + 1, _, by omega, by go_num, ?_, (((hb1.set_ _ _).set_ _ _).set_ _ _), HF.out.step (fun m hm hlt => (heap_set hm).trans ((heap_set hm).trans ((heap_set hm).trans (hx1.block m hlt)))) (Nat.le_trans hx1.size hsz) hg (fun m hm => by show w.heap.size + 1 ≤ m; omega) HK.out (l := [.bool x.no, .string x.atom.n, .slice B x.atom.args.length d]) ⟨_, rfl, hxs, hu.imp (fun b hb _ => hb) (fun b hb hlt => ha b (by show w.heap.size + 1 ≤ b; have : wr.heap.size ≤ b := hb; omega) hlt) hsz⟩ (set3_at (by have := HS.out; omega)) (fun o ho => set3_low o ho), (Below.setCell (Below.setCell (Below.setCell (hx.trans' hx1) (Nat.le_refl _) _) (Nat.le_refl _) _) (Nat.le_refl _) _)⟩
        simp [HS.out]
      case measure => simp [intOf]; omega
    · have hkk : k = xs.length := by omega
      go_wp2
      go_ret
      refine ⟨⟨_, rfl, ?_⟩, hx⟩
      exact FilledO.slice (c := xs.length) (hkk ▸ hf) hb rfl (Nat.le_refl _) (by unfold maxLen; have := HN.out; unfold wParts at this; omega) (Nat.le_refl _) (fromLe (by omega))

set_option maxHeartbeats 1000000 in
theorem toRule_own (r : GR) (v u : Value) (w : World) {S T : Nat → Prop} (hv : TermsR S w v r.head.args) (hu : PartsR T w u r.body) (hn : wTerms r.head.args ≤ 1048576) (hm : wParts r.body ≤ 1048576) (hs : r.head.n.size ≤ maxLen) :
    Calls Tryz.prog 53 #[.agg #[.string r.head.n, v, u]] w fun e w' => (∃ v' u', e = .returned (.agg #[.string r.head.n, v', u']) ∧ RuleEO (From w.heap.size) w' [.string r.head.n, v', u'] r) ∧ Ext w w' := by
  obtain ⟨A, c, rfl, hc1, hc2⟩ := SliceR.form hv
  obtain ⟨B, d, rfl, hd1, hd2⟩ := SliceR.form hu
  have HV := Lib.hid hv
  have HU := Lib.hid hu
  have HN := Lib.hid hn
  have HM := Lib.hid hm
  have HS := Lib.hid hs
  clear hv hu hn hm hs
  go_enter Tryz.func53, Tryz.ntmps53
  go_wp2_with (fail)
  refine (toAtom_own r.head _ _ (HV.out.ext ((((Ext.refl _).alloc _).alloc _).alloc _)) HN.out).mono ?_
  rintro e w1 ⟨⟨v1, rfl, hv1⟩, hx1⟩
  obtain ⟨hcc, hcf⟩ := hx1.cells
  obtain ⟨A1, c1, rfl, hc11, hc12⟩ := SliceO.form hv1
  have HV1 := Lib.hid hv1
  have HX1 := Lib.hid hx1
  have hz1 := hx1.size
  simp only [World.size_alloc] at hz1
  have hbO := (Blk.at_new (w := (w.alloc (.cells #[.string r.head.n, .slice A r.head.args.length c, .slice B r.body.length d] 90)).alloc (.cells #[.string ⟨#[]⟩, .slice none 0 0, .slice none 0 0] 95)) (g := w.heap.size + 1 + 1) (t := 95) (cs := #[.string ⟨#[]⟩, .slice none 0 0, .slice none 0 0]) (by simp)).ext hx1
  have hbR := ((Blk.at_new (w := w.alloc (.cells #[.string r.head.n, .slice A r.head.args.length c, .slice B r.body.length d] 90)) (g := w.heap.size + 1) (t := 95) (cs := #[.string ⟨#[]⟩, .slice none 0 0, .slice none 0 0]) (by simp)).alloc (.cells #[.string ⟨#[]⟩, .slice none 0 0, .slice none 0 0] 95)).ext hx1
  have hbO2 : Blk ((w1.setCell ⟨w.heap.size + 1 + 1, 0, none⟩ (.string r.head.n)).setCell ⟨w.heap.size + 1 + 1, 1, none⟩ (.slice A1 r.head.args.length c1)) (w.heap.size + 1 + 1) 95 #[.string r.head.n, .slice A1 r.head.args.length c1, .slice none 0 0] := by simpa using (hbO.set_ 0 (.string r.head.n)).set_ 1 (.slice A1 r.head.args.length c1)
  have HBO := Lib.hid hbO2
  have HBR := Lib.hid ((hbR.far (p := ⟨w.heap.size + 1 + 1, 0, none⟩) (by simp) (.string r.head.n)).far (p := ⟨w.heap.size + 1 + 1, 1, none⟩) (by simp) (.slice A1 r.head.args.length c1))
  clear hv1 hbO hbR hbO2
  go_wp2_with (fail)
  refine (toPartS_own _ r.body _ (HU.out.ext ((((((Ext.refl _).alloc _).alloc _).alloc _).trans' HX1.out).setNew (by go_size) _ |>.setNew (by go_size) _)) HM.out).mono ?_
  rintro e w2 ⟨⟨v2, rfl, hv2⟩, hx2⟩
  obtain ⟨B2, d2, rfl, hd21, hd22⟩ := SliceO.form hv2
  have HV2 := Lib.hid hv2
  have HX2 := Lib.hid hx2
  have hO := HBO.out.ext hx2
  have hR := HBR.out.ext hx2
  have q0 := hO.cell 0
  have q1 := hO.cell 1
  have q2 := hO.cell 2
  have f2 := hO.frozen 2
  have r0 := hR.cell 0
  have r1 := hR.cell 1
  have r2 := hR.cell 2
  have g0 := hR.frozen 0
  have g1 := hR.frozen 1
  have g2 := hR.frozen 2
  have hlO := hO.lt
  have hz2 := hx2.size
  simp only [size_setCell'] at hz2
  clear hv2 hO hR
  go_wp2
  refine bodyPost_ret (v := .agg #[.string r.head.n, .slice A1 r.head.args.length c1, .slice B2 r.body.length d2]) (by simp [results, Tryz.results53, go_sem, q0, q1, q2, r0, r1, r2]) rfl ⟨⟨_, _, rfl, ?_⟩, ?_⟩
  · refine RuleEO.made (a := w.heap.size + 3) HS.out (HV1.out.sub (fromLe (by go_size))) ?_ ?_ HX2.out HV2.out ?_ ?_ ?_ ?_
    · exact (((Agree.refl _ _).set (by go_size) _).set (by go_size) _)
    · go_size
    · exact ((((Agree.refl _ _).set (by go_size) _).set (by go_size) _).set (by go_size) _).set (by go_size) _
    · go_size
    · go_size
    · omega
  · exact (((((((((((Ext.refl _).alloc _).alloc _).alloc _).trans' HX1.out).setNew (by go_size) _).setNew (by go_size) _).trans' HX2.out).setNew (by go_size) _).setNew (by go_size) _).setNew (by go_size) _).setNew (by go_size) _

set_option maxHeartbeats 1000000 in
theorem toRuleS_own (v : Value) (xs : List GR) (w : World) {S : Nat → Prop} (hv : RulesR S w v xs) (hw : wRules xs ≤ 1048576) :
    Calls Tryz.prog 17 #[v] w fun e w' => (∃ u, e = .returned u ∧ RulesO (From w.heap.size) w' u xs) ∧ Ext w w' := by
  obtain ⟨A, c, rfl, hc1, hc2⟩ := SliceR.form hv
  have hn : xs.length ≤ 1048576 := by unfold wRules at hw; omega
  obtain ⟨i0, hi0, hz0, hz1, hz2⟩ := info_parts rule_info
  obtain ⟨cs0, hcs0, hmk⟩ := made 36 95 i0 _ Tryz.underlying36 hi0 hz0 xs.length (by rw [hz2]; omega) (by omega)
  rw [hz1] at hcs0
  have HC := Lib.hid hcs0
  have HV := Lib.hid hv
  have HN := Lib.hid hw
  clear hcs0 hi0 hz0 hz1 hz2 hv hn hw
  go_enter Tryz.func17, Tryz.ntmps17
  go_wp2
  go_loopw [4] (fun i wr => ∃ (k : Nat) (cs : Array Value), k ≤ xs.length ∧ i = .int .i64 k ∧ cs.size = xs.length * 3 ∧ Blk wr w.heap.size 95 cs ∧ FilledO kRuleO w.heap.size (From (w.heap.size + 1)) wr cs xs k ∧ Ext w wr) (fun i _ => xs.length - (intOf i).toNat)
  case atStart => exact ⟨0, cs0, Nat.zero_le _, rfl, HC.out, Blk.new _ _ _, FilledO.zero, (Ext.refl _).alloc _⟩
  case round =>
    obtain ⟨k, cs, hk, rfl, hcs, hb, hf, hx⟩ := hrel
    by_cases hlt : k < xs.length
    · obtain ⟨b, off, x, v1, u1, rfl, hb0, hxk, hxs, ht, hp, hc0, hc1, hc2⟩ := RulesR.at_ (HV.out.ext hx) hlt
      obtain ⟨A1, c1, rfl, hq1, hq2⟩ := SliceR.form ht
      obtain ⟨B1, d1, rfl, hq3, hq4⟩ := SliceR.form hp
      have HW := Lib.hid (show wTerms x.head.args ≤ 1048576 ∧ wParts x.body ≤ 1048576 from by
        have h1 := wRules_mem (List.mem_of_getElem? hxk); have h2 := HN.out; unfold wRule wAtom at h1; omega)
      have HK := Lib.hid hxk
      have HS := Lib.hid hcs
      have HF := Lib.hid hf
      have HB := Lib.hid hb
      have HT := Lib.hid ht
      have HP := Lib.hid hp
      have hg := hb.lt
      clear hxk hcs hf hb hmk ht hp
      go_wp2_with (first
        | (go_at_call 53; refine (toRule_own x _ _ _ HT.out HP.out HW.out.1 HW.out.2 hxs).mono ?_; rintro e w1 ⟨⟨v2, u2, rfl, hE⟩, hx1⟩
           obtain ⟨⟨A2, c2, rfl, hd1, hd2⟩, ⟨B2, d2, rfl, hd3, hd4⟩⟩ := RuleEO.forms hE
           have HE := Lib.hid hE
           clear hE
           obtain ⟨⟨u0, hr0⟩, hf0⟩ := (HB.out.ext hx1).ready (i := k * 3) (by have := HS.out; omega)
           obtain ⟨⟨u1', hr1⟩, hf1⟩ := (HB.out.ext hx1).ready (i := k * 3 + 1) (by have := HS.out; omega)
           obtain ⟨⟨u2', hr2⟩, hf2⟩ := (HB.out.ext hx1).ready (i := k * 3 + 2) (by have := HS.out; omega)))
      go_roundw
      case rel =>
        have hb1 := HB.out.ext hx1
        have ha : Agree (From (w.heap.size + 1)) w1 (((w1.setCell ⟨w.heap.size, k * 3, none⟩ (.string x.head.n)).setCell ⟨w.heap.size, k * 3 + 1, none⟩ (.slice A2 x.head.args.length c2)).setCell ⟨w.heap.size, k * 3 + 2, none⟩ (.slice B2 x.body.length d2)) :=
          (((Agree.refl _ _).set (by simp) _).set (by simp) _).set (by simp) _
        have hsz : w1.heap.size ≤ (((w1.setCell ⟨w.heap.size, k * 3, none⟩ (.string x.head.n)).setCell ⟨w.heap.size, k * 3 + 1, none⟩ (.slice A2 x.head.args.length c2)).setCell ⟨w.heap.size, k * 3 + 2, none⟩ (.slice B2 x.body.length d2)).heap.size := by go_size
        refine ⟨k + 1, _, by omega, by go_num, ?_, (((hb1.set_ _ _).set_ _ _).set_ _ _), HF.out.step (fun m hm hlt => (heap_set hm).trans ((heap_set hm).trans ((heap_set hm).trans (hx1.block m hlt)))) (Nat.le_trans hx1.size hsz) hg (fun m hm => by show w.heap.size + 1 ≤ m; omega) HK.out (l := [.string x.head.n, .slice A2 x.head.args.length c2, .slice B2 x.body.length d2]) (RuleEO.imp HE.out (fun b hb _ => hb) (fun b hb hlt => ha b (by show w.heap.size + 1 ≤ b; have : wr.heap.size ≤ b := hb; omega) hlt) hsz) (set3_at (by have := HS.out; omega)) (fun o ho => set3_low o ho), (Below.setCell (Below.setCell (Below.setCell (hx.trans' hx1) (Nat.le_refl _) _) (Nat.le_refl _) _) (Nat.le_refl _) _)⟩
        simp [HS.out]
      case measure => simp [intOf]; omega
    · have hkk : k = xs.length := by omega
      go_wp2
      go_ret
      refine ⟨⟨_, rfl, ?_⟩, hx⟩
      exact FilledO.slice (c := xs.length) (hkk ▸ hf) hb rfl (Nat.le_refl _) (by unfold maxLen; have := HN.out; unfold wRules at this; omega) (Nat.le_refl _) (fromLe (by omega))

end Go.Proofs.YthndnkafckapnaaGreatDoor
