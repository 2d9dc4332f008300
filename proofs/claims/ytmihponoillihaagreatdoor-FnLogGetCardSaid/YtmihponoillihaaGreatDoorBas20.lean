/- Part of the texts of a proof; what they say stands at each theorem. -/
import Derived.Test.YtmihponoillihaaGreatDoorBas14
import Derived.Deep.LoopGhost
import Derived.Deep.RegionLaw
import Derived.Test.YtmihponoillihaaGreatDoorBas02
import Derived.Test.YtmihponoillihaaGreatDoorBas05
import Derived.Laws.IdiomStrings
import Derived.Lib.ItoaNum
import Derived.Deep.RegionWith
import Derived.IntWalk
import Derived.Test.YtmihponoillihaaGreatDoorBas06
import Derived.Test.YtmihponoillihaaGreatDoorBas03
set_option linter.unusedSimpArgs false
set_option linter.unusedVariables false
namespace Go.Proofs.YtmihponoillihaaGreatDoor
open Go.RowKit
theorem atom_own {w wr : World} {rb M : Nat} {name : ByteArray} {ts : List GT} {rows : List Value} {v : Value} {c0 : Array Value} (h : AtomInv w wr rb M name ts rows v c0) (x y : Value) :
 OwnK kTerm (w.heap.size + 2) 71 None ((wr.setCell ⟨w.heap.size, 0, none⟩ x).setCell ⟨w.heap.size, 1, none⟩ y) v ts := by
 obtain ⟨h1, h2, h3, h4, h5, h6, h7, h8⟩ := h; exact ⟨rows, fun _ => False, ownsRow_setCell_below (ownsRow_setCell_below h4 (a := ⟨w.heap.size, 0, none⟩) (by simp) x) (a := ⟨w.heap.size, 1, none⟩) (by simp) y, RowsE.mono (E' := TermE) h5 (fun _ _ _ h => h), fun _ h => h.elim, fun _ _ h => h⟩
set_option maxRecDepth 100000 in
set_option maxHeartbeats 4000000 in
theorem l10AtomVars_any (rb m : Nat) (name : ByteArray) (w : World) (hs : name.size ≤ 1000) (hr : Rd w rb m) (hp : m + 6 ≤ 1000000) :
 Calls Tryz.prog 162 #[.pointer (some ⟨rb, 0, none⟩), .string name, .bool true] w fun e w' =>
  (∃ v ts, e = .returned (.agg #[.string name, v]) ∧ OwnK kTerm (w.heap.size + 2) 71 None w' v ts ∧ tiny ts) ∧ Rd w' rb (m + 6) ∧ Else rb w w' := by
 have hrl := hr.lt; have HR := Lib.hid hr; obtain ⟨i0, hi0, hz0, hz1, hz2⟩ := info_parts term_info; clear hr
 go_enter Tryz.func162, Tryz.ntmps162
 go_wp2_with (go_at_call 219; refine (l10Args_any name _).mono ?_; rintro e w1 ⟨⟨z, hz, rfl⟩, rfl⟩)
 go_loopw [8] (fun i wr => ∃ (k : Nat) (ts : List GT) (rows : List Value) (v : Value) (c0 : Array Value), i = .int .i64 k ∧ k + ts.length ≤ 3 ∧ Hid (AtomInv w wr rb (m + 2 * ts.length) name ts rows v c0)) (fun i _ => (intOf i).toNat)
 case atStart =>
  refine ⟨z, [], [], .slice none 0 0, #[.string ByteArray.empty, .slice none 0 0], rfl, by simpa using hz, rfl, ?_, ?_, ?_, RowsE.nil, ⟨by simp, by simp⟩, ?_, ?_⟩
  · exact (Blk.new w _ _).alloc _
  · simpa using Blk.new (w.alloc (.cells #[.string ⟨#[]⟩, .slice none 0 0] 54)) 54 #[.string name, .slice none 0 0]
  · exact World.ownsRow_nil _ _ _ _
  · exact (HR.out.ext (((Ext.refl _).alloc _).alloc _)).le (by omega)
  exact Else.of_ext (((Ext.refl _).alloc _).alloc _)
 case round =>
  obtain ⟨k, ts, rows, v, c0, rfl, hk, hh⟩ := hrel; obtain ⟨A, c, rfl⟩ := own_form hh.out.2.2.2.1
  by_cases hk0 : 0 < k
  · have q0 := hh.out.2.1.cell 0
    have q1 := hh.out.2.2.1.cell 1; have hb1 := hh.out.2.2.1.lt; have HP := Lib.hid (rdPick_any rb (m + 2 * ts.length) 6 wr (by omega) hh.out.2.2.2.2.2.2.1 (by omega))
    have hsplit : ∀ z : Nat, decide (0 < (z : Int)) = true ∨ decide (0 < (z : Int)) = false := fun z => by cases decide (0 < (z : Int)) <;> simp
    go_wp2_with (go_at_call 73; refine HP.out.mono ?_; rintro e w1 ⟨⟨z, hz, rfl⟩, hr1, he1⟩; have q10 := (he1.cell (o := 1) (show w.heap.size + 1 ≠ rb from by omega) hb1).trans q1; have hz1' := he1.size; have HR1 := Lib.hid hr1; have HE1 := Lib.hid he1; clear hr1 he1)
    · go_region_law (first
        | (go_simp; go_at_call 220; refine (l10Var_any rb (m + 2 * ts.length + 1) _ (HR1.out.ext (Ext.refl _).drew) (by omega)).mono ?_; rintro e w2 ⟨⟨s, hs, rfl⟩, hr2, he2⟩; have hq2 := HE1.out.trans' ((Else.of_ext (rb := rb) (Ext.refl w1).drew).trans' he2); have q2 := (hq2.cell (o := 1) (show w.heap.size + 1 ≠ rb from by omega) hb1).trans q1; have hb2 := cell_lt q2; have q3 := (((Ext.refl w2).alloc (.cells #[.bool true, .string s] 71)).cells.1 _ 1 hb2).trans q2)
        | (refine step_append_lies _ (by rfl) (.tmp 24) (.tmp 28) 52 (by rfl) (w.heap.size + 2) 71 i0 _ 2 24 Tryz.underlying52 hi0 hz0 hz1 hz2 rfl (by decide) (.slice A ts.length c) ts.length rows (by rfl) (own_ext (own_else hh.out.2.2.2.1 hq2 (by omega)) ((Ext.refl _).alloc _)) ⟨w2.heap.size, 0, none⟩ 1 1 [.bool true, .string s] (by rfl) rfl (World.news_of_block (heap_alloc_new _ _)) (by simp; exact ⟨rfl, rfl⟩) (by omega) (by unfold maxLen; omega) (by omega) (by go_size) (w2.heap.size + 1) (by simp) ?_; intro g cap w3 hown3 hgrow3 hat3 hlt3; have hown2 := own_ext (own_else hh.out.2.2.2.1 hq2 (by omega)) ((Ext.refl _).alloc (.cells #[.bool true, .string s] 71)); have q4 := (own_far hown2 hgrow3 ⟨w.heap.size + 1, 1, none⟩ (by simp) (by simp; omega)).trans q3; have hb4 := own_blk hown2 hgrow3 (((hh.out.2.2.1.else_ hq2 (by omega)).alloc (.cells #[.bool true, .string s] 71))) (by omega); have f4 := hb4.frozen 1))
      all_goals (go_wp2; go_roundw)
      all_goals try (simp [intOf]; omega)
      all_goals refine ⟨k - 1, ts ++ [⟨true, s⟩], rows ++ [.bool true, .string s], _, c0, by congr 1; omega, by simp; omega, Lib.hid ((atom_step (b := true) hh.out hrl hq2 hr2 hs (by omega) ?_ hgrow3).le (by rw [List.length_append]; simp; omega))⟩
      all_goals exact hown3
    go_region_law (first
      | (go_simp; go_at_call 221; refine (l10Word_any rb (m + 2 * ts.length + 1) _ (HR1.out.ext (Ext.refl _).drew) (by omega)).mono ?_; rintro e w2 ⟨⟨s, hs, rfl⟩, hr2, he2⟩; have hq2 := HE1.out.trans' ((Else.of_ext (rb := rb) (Ext.refl w1).drew).trans' he2); have q2 := (hq2.cell (o := 1) (show w.heap.size + 1 ≠ rb from by omega) hb1).trans q1; have hb2 := cell_lt q2; have q3 := (((Ext.refl w2).alloc (.cells #[.bool false, .string s] 71)).cells.1 _ 1 hb2).trans q2)
      | (refine step_append_lies _ (by rfl) (.tmp 32) (.tmp 36) 52 (by rfl) (w.heap.size + 2) 71 i0 _ 2 24 Tryz.underlying52 hi0 hz0 hz1 hz2 rfl (by decide) (.slice A ts.length c) ts.length rows (by rfl) (own_ext (own_else hh.out.2.2.2.1 hq2 (by omega)) ((Ext.refl _).alloc _)) ⟨w2.heap.size, 0, none⟩ 1 1 [.bool false, .string s] (by rfl) rfl (World.news_of_block (heap_alloc_new _ _)) (by simp; exact ⟨rfl, rfl⟩) (by omega) (by unfold maxLen; omega) (by omega) (by go_size) (w2.heap.size + 1) (by simp) ?_; intro g cap w3 hown3 hgrow3 hat3 hlt3; have hown2 := own_ext (own_else hh.out.2.2.2.1 hq2 (by omega)) ((Ext.refl _).alloc (.cells #[.bool false, .string s] 71)); have q4 := (own_far hown2 hgrow3 ⟨w.heap.size + 1, 1, none⟩ (by simp) (by simp; omega)).trans q3; have hb4 := own_blk hown2 hgrow3 (((hh.out.2.2.1.else_ hq2 (by omega)).alloc (.cells #[.bool false, .string s] 71))) (by omega); have f4 := hb4.frozen 1))
    all_goals (go_wp2; go_roundw)
    all_goals try (simp [intOf]; omega)
    all_goals refine ⟨k - 1, ts ++ [⟨false, s⟩], rows ++ [.bool false, .string s], _, c0, by congr 1; omega, by simp; omega, Lib.hid ((atom_step (b := false) hh.out hrl hq2 hr2 hs (by omega) ?_ hgrow3).le (by rw [List.length_append]; simp; omega))⟩
    all_goals exact hown3
  have q0 := hh.out.2.2.1.cell 0; have q1 := hh.out.2.2.1.cell 1; have hc0 := hh.out.1; obtain ⟨⟨u0, p0⟩, f0⟩ := hh.out.2.1.ready (i := 0) (by omega); obtain ⟨⟨u1, p1⟩, f1⟩ := hh.out.2.1.ready (i := 1) (by omega); go_wp2; refine bodyPost_ret (v := .agg #[.string name, .slice A ts.length c]) (by simp [results, Tryz.results162, go_sem, p0, p1]) rfl ?_; obtain ⟨e1, e2, e3⟩ := atom_end hh.out hrl (.string name) (.slice A ts.length c); exact ⟨⟨_, ts, rfl, atom_own hh.out _ _, hh.out.2.2.2.2.2.1⟩, e2.le (by have := hh.out.2.2.2.2.2.1.1; omega), e3⟩
def mid (a : GA) : Prop := a.n.size ≤ 9 ∧ a.args.length ≤ 6 ∧ ∀ t ∈ a.args, t.n.size ≤ 9
def cuts12 : List ByteArray := [⟨#[40]⟩, ⟨#[41]⟩, ⟨#[44]⟩, ⟨#[32]⟩, ⟨#[120]⟩, ⟨#[88]⟩, ⟨#[110, 111, 116, 32]⟩, ⟨#[32, 97, 110, 100, 32]⟩, ⟨#[10]⟩, ⟨#[49]⟩, ⟨#[43]⟩, ⟨#[45]⟩]
theorem cuts12_small : ∀ s ∈ cuts12, s.size ≤ 5 := by decide
theorem byte_string {w : World} {g : Nat} {t : TypeId} (c : Nat) (hc : c < 256) (hb : Blk w g t #[.int .u8 (c : Int)]) :
 (convert 22 9 (.slice (some ⟨g, 0, none⟩) 1 1)).run Tryz.prog w = .ok (.string ⟨#[UInt8.ofNat c]⟩) w := by
 have h := run_convert_bytes_back (P := Tryz.prog) w 22 9 5 ⟨g, 0, none⟩ 1 [UInt8.ofNat c] Tryz.underlying22 Tryz.underlying5 Tryz.underlying9 (fun j hj => by
  simp at hj; subst hj
  have hadd : (⟨g, 0, none⟩ : Addr).add 0 = ⟨g, 0, none⟩ := by simp [Addr.add]
  rw [hadd, hb.cell]; simp
  omega)
 exact h
theorem dec_small {z : Int} (h0 : 0 ≤ z) (h : z < 10) : strOf (Lib.decDigits z.toNat) = ⟨#[UInt8.ofNat (48 + z.toNat)]⟩ := by rw [Lib.decDigits_one (by omega)]; rfl
theorem dec_big {z : Int} (h : ¬ z < 10) : strOf (Lib.decDigits z.toNat) = strOf (Lib.decDigits (z / 10).toNat) ++ ⟨#[UInt8.ofNat (48 + (z % 10).toNat)]⟩ := by
 rw [Lib.decDigits, dif_neg (by omega), show (⟨#[UInt8.ofNat (48 + (z % 10).toNat)]⟩ : ByteArray) = strOf [UInt8.ofNat (48 + (z % 10).toNat)] from rfl, strOf_append]; rw [show (z / 10).toNat = z.toNat / 10 from by omega, show (z % 10).toNat = z.toNat % 10 from by omega]
theorem dec_len (z : Nat) (h : z ≤ 1000000000) : (Lib.decDigits z).length ≤ 10 := by
 rw [Lib.decDigits_length]
 have key : ∀ k u, u < 10 ^ k → 1 ≤ k → Lib.nDigits u ≤ k := by
  intro k
  induction k with
  | zero => intro u _ h; omega
  | succ k ih =>
    intro u hu _
    by_cases h1 : u < 10
    · rw [Lib.nDigits_small h1]; omega
    rw [Lib.nDigits_big h1]
    have : u / 10 < 10 ^ k := by rw [Nat.pow_succ] at hu; omega
    have hk : 1 ≤ k := by
     rcases Nat.eq_zero_or_pos k with h2 | h2
     · subst h2; simp at hu; omega
     exact h2
    have := ih (u / 10) this hk; omega
 exact key 10 z (by omega) (by omega)
theorem u8_wrap {z : Int} (h0 : 0 ≤ z) (h : z < 256) : IntKind.u8.wrap z = z := by
 unfold IntKind.wrap; simp [IntKind.bits, IntKind.signed]; omega
set_option maxRecDepth 100000 in
set_option maxHeartbeats 4000000 in
theorem l1Dec_up : ∀ (m : Nat) (z : Int) (w : World), 0 ≤ z → z ≤ m → z ≤ 1000000000 →
 Calls Tryz.prog 75 #[.int .i64 z] w fun e w' => e = .returned (.string (strOf (Lib.decDigits z.toNat))) ∧ Ext w w' := by
 intro m
 induction m with
 | zero =>
   intro z w h0 hm hz
   obtain ⟨d, hd⟩ : ∃ d, d = strOf (Lib.decDigits z.toNat) := ⟨_, rfl⟩
   have hb := byte_string (w := w.alloc (.cells #[.int .u8 ((48 + z.toNat : Nat) : Int)] 5)) (48 + z.toNat) (by omega) (Blk.new _ _ _); rw [show ((48 + z.toNat : Nat) : Int) = 48 + z from by omega, ← dec_small h0 (by omega), ← hd] at hb; have hw : IntKind.u8.wrap (48 + z) = 48 + z := u8_wrap (by omega) (by omega)
   have h10 : z < 10 := by omega
   rw [← hd]; clear hd
   go_enter Tryz.func75, Tryz.ntmps75
   go_wp2; go_ret; exact ⟨rfl, (Ext.refl _).alloc _⟩
 | succ m ih =>
   intro z w h0 hm hz
   by_cases h10 : z < 10
   · obtain ⟨d, hd⟩ : ∃ d, d = strOf (Lib.decDigits z.toNat) := ⟨_, rfl⟩
     have hb := byte_string (w := w.alloc (.cells #[.int .u8 ((48 + z.toNat : Nat) : Int)] 5)) (48 + z.toNat) (by omega) (Blk.new _ _ _); rw [show ((48 + z.toNat : Nat) : Int) = 48 + z from by omega, ← dec_small h0 h10, ← hd] at hb; have hw : IntKind.u8.wrap (48 + z) = 48 + z := u8_wrap (by omega) (by omega); rw [← hd]; clear hd ih
     go_enter Tryz.func75, Tryz.ntmps75
     go_wp2; go_ret; exact ⟨rfl, (Ext.refl _).alloc _⟩
   have hb9 := dec_big h10
   obtain ⟨d, hd⟩ : ∃ d, d = strOf (Lib.decDigits (z / 10).toNat) := ⟨_, rfl⟩
   obtain ⟨c, hc⟩ : ∃ c : ByteArray, c = ⟨#[UInt8.ofNat (48 + (z % 10).toNat)]⟩ := ⟨_, rfl⟩
   have hds : d.size ≤ 10 := by rw [hd, strOf_size]; exact dec_len _ (by omega)
   have hcs : c.size ≤ 10 := by rw [hc]; simp [ByteArray.size]
   have HI := Lib.hid (show ∀ W, Calls Tryz.prog 75 #[.int .i64 (z / 10)] W fun e w' => e = .returned (.string d) ∧ Ext W w' from fun W => hd ▸ ih (z / 10) W (by omega) (by omega) (by omega))
   have HC := Lib.hid (show ∀ W g, Blk W g 5 #[.int .u8 (48 + z % 10)] → (convert 22 9 (.slice (some ⟨g, 0, none⟩) 1 1)).run Tryz.prog W = .ok (.string c) W from fun W g hb => by
    have h := byte_string (w := W) (g := g) (t := 5) (48 + (z % 10).toNat) (by omega) (by rw [show ((48 + (z % 10).toNat : Nat) : Int) = 48 + z % 10 from by omega]; exact hb); rw [← hc] at h
    exact h)
   have hw : IntKind.u8.wrap (48 + z % 10) = 48 + z % 10 := u8_wrap (by omega) (by omega)
   have hq0 : 0 ≤ z % 10 := by omega
   have hq1 : z % 10 < 10 := by omega
   have ht1 : z.tdiv 10 = z / 10 := Int.tdiv_eq_ediv_of_nonneg h0; have ht2 : z.tmod 10 = z % 10 := Int.tmod_eq_emod_of_nonneg h0; have hw1 : IntKind.i64.wrap (z / 10) = z / 10 := IntWalk.i64_in _ ⟨by omega, by omega⟩; have hw2 : IntKind.i64.wrap (48 + z % 10) = 48 + z % 10 := IntWalk.i64_in _ ⟨by omega, by omega⟩; rw [hb9, ← hd, ← hc]; have HB := Lib.hid (Blk.new w 5 #[.int .u8 (48 + z % 10)]); have hr0 := HC.out _ _ HB.out.drew; clear hb9 hd hc ih
   go_enter Tryz.func75, Tryz.ntmps75
   go_wp2_with (fail)
   go_region_with ((go_at_call 75; refine (HI.out _).mono ?_; rintro e w1 ⟨rfl, hx1⟩; have hr1 := HC.out _ _ (Blk.new w1 5 #[.int .u8 (48 + z % 10)]); (first | have hr2 := HC.out _ _ (HB.out.drew.ext hx1) | skip)))
   all_goals go_wp2
   all_goals
    go_ret
    first
     | exact ⟨rfl, (Ext.trans' (Ext.refl w).drew hx1).alloc _⟩
     | exact ⟨rfl, ((Ext.refl w).alloc _).drew.trans' hx1⟩
theorem l1Dec_any (z : Int) (w : World) (h0 : 0 ≤ z) (h : z ≤ 1000000000) :
 Calls Tryz.prog 75 #[.int .i64 z] w fun e w' => e = .returned (.string (strOf (Lib.decDigits z.toNat))) ∧ Ext w w' :=
 l1Dec_up 1000000000 z w h0 (by omega) h
set_option maxRecDepth 100000 in
set_option maxHeartbeats 2000000 in
theorem l10ChangeK_any (rb m : Nat) (w : World) (hr : Rd w rb m) (hp : m + 72 ≤ 1000000) :
 Calls Tryz.prog 87 #[.pointer (some ⟨rb, 0, none⟩)] w fun e w' =>
  (∃ (g : GC) (v u : Value) (N : Nat), e = .returned (.agg #[v, u]) ∧ AtomsR (fun b => w.heap.size ≤ b ∧ b < N) w' v g.comes ∧ OwnK kAtom N 54 (From w.heap.size) w' u g.goes ∧ w.heap.size < N ∧ N ≤ w'.heap.size ∧ g.comes.length ≤ 5 ∧ g.goes.length ≤ 5 ∧ smalls g.comes ∧ smalls g.goes) ∧ Rd w' rb (m + 72) ∧ Else rb w w' := by
 have hrl := hr.lt; have HR := Lib.hid hr; have HB := Lib.hid (Blk.new w 32 #[.slice none 0 0, .slice none 0 0]); have tok : True := trivial; have tok2 : True := trivial; clear hr
 go_enter Tryz.func87, Tryz.ntmps87
 go_wp2_with (first
  | (go_at_call 134; have _t := tok; refine (l10Facts_any rb m 5 _ (HR.out.ext ((Ext.refl _).alloc _)) (by omega) (by omega)).mono ?_; clear tok _t; rintro e w1 ⟨⟨v1, xs, rfl, hv1, hl1, hs1⟩, hr1, he1⟩; obtain ⟨A, c, rfl, hc1, hc2⟩ := SliceR.form hv1; have HV1 := Lib.hid hv1; have HR1 := Lib.hid hr1; have HB1 := Lib.hid (HB.out.else_ he1 (by omega)); have HE1 := Lib.hid ((Else.of_ext (rb := rb) ((Ext.refl w).alloc (.cells #[.slice none 0 0, .slice none 0 0] 32))).trans' he1); have HS1 := Lib.hid hs1; have hz1 := he1.size; clear hv1 hr1 he1 hs1)
  | (go_at_call 134; have _t := tok2; refine (l10Facts_any rb (m + 36) 5 _ (HR1.out.le (by omega)) (by omega) (by omega)).mono ?_; clear tok2 _t; rintro e w2 ⟨⟨v2, ys, rfl, hv2, hl2, hs2⟩, hr2, he2⟩; obtain ⟨B, d, rfl, hd1, hd2⟩ := SliceR.form hv2; have HV2 := Lib.hid hv2; have HR2 := Lib.hid hr2; have HB2 := Lib.hid (HB1.out.else_ he2 (by omega)); have HE2 := Lib.hid he2; have HS2 := Lib.hid hs2; have hz2 := he2.size; clear hv2 hr2 he2 hs2)
  | (go_at_call 151; refine (l3Less_any _ _ ys xs _ HV2.out (HV1.out.imp (fun _ h => h) (HE2.out.from_ (by simp; omega)) hz2) (by have := smalls_w HS2.out; omega)).mono ?_; rintro e w3 ⟨⟨v3, rfl, hv3, ho3⟩, hx3⟩; obtain ⟨C, d3, rfl, hd3, hd4⟩ := SliceR.form hv3; have HV3 := Lib.hid ho3; have HX3 := Lib.hid hx3; have HB3 := Lib.hid (HB2.out.ext hx3); have q0 := HB3.out.cell 0; have q1 := HB3.out.cell 1; have f0 := HB3.out.frozen 0; have f1 := HB3.out.frozen 1; have hl3 := HB3.out.lt; have hz3 := hx3.size; clear hv3 ho3 hx3))
 have hlt1 := HB1.out.lt; refine bodyPost_ret (v := .agg #[.slice A xs.length c, .slice C (lessA ys xs).length d3]) (by simp [results, Tryz.results87, go_sem, q0, q1]) rfl ?_
 have hA : ∀ S : Nat → Prop, (¬ S w.heap.size) → Agree S w3 ((w3.setCell ⟨w.heap.size, 0, none⟩ (.slice A xs.length c)).setCell ⟨w.heap.size, 1, none⟩ (.slice C (lessA ys xs).length d3)) := fun S hS => ((Agree.refl _ _).setCell hS _).setCell hS _
 have hlen := lessA_len ys xs; simp only [World.size_alloc] at hz1; refine ⟨⟨⟨xs, lessA ys xs⟩, _, _, w2.heap.size, rfl, ?_, ?_, by omega, by go_size, hl1, by show (lessA ys xs).length ≤ 5; omega, HS1.out, smalls_less HS2.out⟩, (HR2.out.ext HX3.out).keep (hA _ (by simp; omega)) (by go_size) |>.le (by omega), ?_⟩
 · have h1 : AtomsR (From (w.heap.size + 1)) w1 (.slice A xs.length c) xs := AtomsR.sub HV1.out (fromLe (by simp))
   have h2 := (AtomsR.impL (S' := fun b => w.heap.size + 1 ≤ b ∧ b < w1.heap.size) h1 (fun b hb hlt => ⟨hb, hlt⟩) (HE2.out.from_ (by omega)) hz2).ext HX3.out; exact AtomsR.imp h2 (fun b hb => ⟨by have := hb.1; omega, by have := hb.2; omega⟩) (hA _ (fun h => by have := h.1; omega)) (by go_size)
 · exact ((HV3.out.set (p := ⟨w.heap.size, 0, none⟩) (by simp only; omega) (fun h => absurd (show w2.heap.size ≤ w.heap.size from h) (by omega)) _).set (p := ⟨w.heap.size, 1, none⟩) (by simp only; omega) (fun h => absurd (show w2.heap.size ≤ w.heap.size from h) (by omega)) _).sub (Nat.le_refl _) (fromLe (by omega))
 have hE := (HE1.out.trans' HE2.out).trans' (Else.of_ext HX3.out); refine ⟨hE.os, hE.tape, hE.output, by have := hE.size; go_size, fun k hk hne => ?_⟩; exact (hA (fun b => b < w.heap.size) (by simp) k hk (Nat.lt_of_lt_of_le hk hE.size)).trans (hE.block k hk hne)
theorem l10Change_any (rb m : Nat) (w : World) (hr : Rd w rb m) (hp : m + 72 ≤ 1000000) :
 Calls Tryz.prog 87 #[.pointer (some ⟨rb, 0, none⟩)] w fun e w' =>
  (∃ (g : GC) (v u : Value), e = .returned (.agg #[v, u]) ∧ AtomsR (From w.heap.size) w' v g.comes ∧ AtomsR (From w.heap.size) w' u g.goes ∧ g.comes.length ≤ 5 ∧ g.goes.length ≤ 5 ∧ smalls g.comes ∧ smalls g.goes) ∧ Rd w' rb (m + 72) ∧ Else rb w w' :=
 (l10ChangeK_any rb m w hr hp).mono fun e w' ⟨⟨g, v, u, N, h1, h2, h3, h4, _, h5⟩, h6⟩ => ⟨⟨g, v, u, h1, AtomsR.sub h2 (fun b hb => hb.1), h3.list (S' := From w.heap.size) (fun _ h => h) (fun b hb => Nat.le_trans (Nat.le_of_lt h4) hb), h5⟩, h6⟩
theorem signedL_small {l : List GA} (c : UInt8) (h : smalls l) : (signedL c l).length ≤ l.length * 39 := by
 induction l with
 | nil => simp [signedL]
 | cons a l ih =>
   have h1 := ih (fun t ht => h t (List.mem_cons_of_mem _ ht)); have h2 := atomL_len a; have h3 := small_w (h a (by simp)); unfold signedL at h1 ⊢; simp only [List.map_cons, List.flatten_cons, List.length_append, List.length_cons, List.length_nil] at h1 ⊢; omega
theorem Else.below {rb n : Nat} {a b c : World} (h : Else rb a b) (k : Below n b c) (hn : a.heap.size ≤ n) : Else rb a c :=
 ⟨k.os.trans h.os, k.tape.trans h.tape, k.output.trans h.output, Nat.le_trans h.size k.size, fun i hi hne => (k.block i (Nat.lt_of_lt_of_le hi hn)).trans (h.block i hi hne)⟩
theorem Rd.below {rb n m : Nat} {b c : World} (h : Rd b rb m) (k : Below n b c) (hn : rb < n) : Rd c rb m := h.keep (fun i hi hlt => k.block i (by have : i ≤ rb := hi; omega)) k.size
theorem OwnK.low {α : Type} {k : Kind α} {S : Nat → Prop} {w : World} {v : Value} {xs : List α} {base : Nat} {e : TypeId} (h : OwnK k base e S w v xs) : OwnK k base e (fun b => S b ∧ b < w.heap.size) w v xs := by
 obtain ⟨rows, T, h1, h2, h3, h4⟩ := h; exact ⟨rows, T, h1, h2, fun b hb => ⟨h3 b hb, (h3 b hb).2⟩, h4⟩
set_option maxRecDepth 100000 in
set_option maxHeartbeats 4000000 in
theorem l10Cut_any (rb m : Nat) (s : ByteArray) (w : World) (hs : s.size ≤ 900000) (hr : Rd w rb m) (hp : m + 3 ≤ 1000000) :
 Calls Tryz.prog 30 #[.pointer (some ⟨rb, 0, none⟩), .string s] w fun e w' => (∃ t : ByteArray, e = .returned (.string t) ∧ t.size ≤ s.size + 5) ∧ Rd w' rb (m + 3) ∧ Else rb w w' := by
 have hrl := hr.lt; have HR := Lib.hid hr; have HP1 := Lib.hid (fun W (hW : Rd W rb m) => show Calls Tryz.prog 73 #[.pointer (some ⟨rb, 0, none⟩), .int .i64 ((s.size : Int) + 1)] W fun e w' => (∃ z : Nat, z < s.size + 1 ∧ e = .returned (.int .i64 z)) ∧ Rd w' rb (m + 1) ∧ Else rb W w' from rdPick_any rb m (s.size + 1) W (by omega) hW (by omega)); have tok : True := trivial; clear hr
 go_enter Tryz.func30, Tryz.ntmps30
 go_wp2_with (first
  | (go_at_call 73; have _t := tok; refine (HP1.out _ HR.out).mono ?_; clear tok _t; rintro e w1 ⟨⟨k, hk, rfl⟩, hr1, he1⟩
     have HR1 := Lib.hid hr1; have HE1 := Lib.hid he1
     have hk0 : (0 : Int) ≤ (k : Int) := (by omega)
     have hk1 : (k : Int) ≤ (s.size : Int) := (by omega)
     clear hr1 he1)
  | (go_at_call 73; refine (rdPick_any rb (m + 1) 5 _ (by omega) HR1.out (by omega)).mono ?_; rintro e w2 ⟨⟨z, hz, rfl⟩, hr2, he2⟩
     have HR2 := Lib.hid hr2; have HE2 := Lib.hid (HE1.out.trans' he2)
     clear hr2 he2))
 · have hle1 : (s.extract 0 k).size ≤ 900000 := by rw [ByteArray.size_extract]; omega
   have hle2 : (s.extract k s.size).size ≤ 900000 := by rw [ByteArray.size_extract]; omega
   clear HR HP1 HR1 HE1
   go_region_law (go_simp; go_at_call 60; refine (of_any rb (m + 2) _ cuts12 _ (strs_at (w := w2.drew) (g := w2.heap.size) (t := 9) _ cuts12 rfl rfl (HR2.out.ext (Ext.refl w2).drew) (fun s hs => Nat.le_trans (cuts12_small s hs) (by omega)) (by simp [cuts12]) 12 rfl) (by simp [cuts12]) (HR2.out.ext ((Ext.refl w2).drew.alloc (.cells #[.string ⟨#[40]⟩, .string ⟨#[41]⟩, .string ⟨#[44]⟩, .string ⟨#[32]⟩, .string ⟨#[120]⟩, .string ⟨#[88]⟩, .string ⟨#[110, 111, 116, 32]⟩, .string ⟨#[32, 97, 110, 100, 32]⟩, .string ⟨#[10]⟩, .string ⟨#[49]⟩, .string ⟨#[43]⟩, .string ⟨#[45]⟩] 9))) (by omega)).mono ?_; rintro e w3 ⟨⟨x, hx, _, rfl⟩, hr3, he3⟩; have hxs := cuts12_small x hx; have hm1 : (9223372036854775807 < min k s.size + x.size) = False := (eq_false (by omega)); have hm2 : (9223372036854775807 < min k s.size + x.size + (s.size - k)) = False := (eq_false (by omega)); have HR3 := Lib.hid hr3; have HE3 := Lib.hid (HE2.out.trans' ((Else.of_ext (rb := rb) ((Ext.refl w2).drew.alloc (.cells #[.string ⟨#[40]⟩, .string ⟨#[41]⟩, .string ⟨#[44]⟩, .string ⟨#[32]⟩, .string ⟨#[120]⟩, .string ⟨#[88]⟩, .string ⟨#[110, 111, 116, 32]⟩, .string ⟨#[32, 97, 110, 100, 32]⟩, .string ⟨#[10]⟩, .string ⟨#[49]⟩, .string ⟨#[43]⟩, .string ⟨#[45]⟩] 9))).trans' he3)); clear hr3 he3 hx)
   all_goals
    go_wp2; go_ret; exact ⟨⟨_, rfl, by simp only [ByteArray.size_append, ByteArray.size_extract]; omega⟩, HR3.out, HE3.out⟩
 · go_ret
   exact ⟨⟨_, rfl, by simp only [ByteArray.size_extract]; omega⟩, HR2.out.le (by omega), HE2.out⟩
 go_ret; exact ⟨⟨_, rfl, by omega⟩, HR2.out.le (by omega), HE2.out⟩
end Go.Proofs.YtmihponoillihaaGreatDoor
