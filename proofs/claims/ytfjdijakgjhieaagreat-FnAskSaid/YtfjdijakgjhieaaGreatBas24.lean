/- Part of the texts of a proof: own texts joined in the order of their building; what they say stands at each theorem. -/
import Derived.Test.YtfjdijakgjhieaaGreatBas23
import Derived.Test.YtfjdijakgjhieaaGreatBas01
import Derived.Test.YtfjdijakgjhieaaGreatBas05
import Derived.Deep.RegionLaw
import Derived.Deep.LoopGhost
set_option linter.unusedSimpArgs false
set_option linter.unusedVariables false
namespace Go.Proofs.YtfjdijakgjhieaaGreat
open Go.RowKit

theorem own_form {w : World} {base : Nat} {e : TypeId} {size : Nat} {v : Value} {n : Nat} {rows : List Value} (h : w.ownsRow base e size v n rows) : ∃ A c, v = .slice A n c := by
 rcases h.2 with ⟨rfl, rfl⟩ | ⟨g, cap, cur, rfl, _⟩
 · exact ⟨_, _, rfl⟩
 · exact ⟨_, _, rfl⟩
theorem own_else {w w' : World} {base rb : Nat} {e : TypeId} {size : Nat} {v : Value} {n : Nat} {rows : List Value} (h : w.ownsRow base e size v n rows) (he : Else rb w w') (hb : rb < base) : w'.ownsRow base e size v n rows :=
 h.kept he (by
  cases hv : v.ownBlock with
  | none => exact .inl rfl
  | some g => right; intro e; injection e with e; have := (h.lt g hv).1; omega)
theorem own_ext {w w' : World} {base : Nat} {e : TypeId} {size : Nat} {v : Value} {n : Nat} {rows : List Value} (h : w.ownsRow base e size v n rows) (he : Ext w w') : w'.ownsRow base e size v n rows :=
 h.kept (row := none) ⟨he.os, he.tape, he.output, he.size, fun k hk _ => he.block k hk⟩ (by
  cases hv : v.ownBlock with
  | none => exact .inl rfl
  | some g => right; simp)

theorem own_far {w w' : World} {base : Nat} {e : TypeId} {size : Nat} {v : Value} {n : Nat} {rows : List Value} (h : w.ownsRow base e size v n rows) (hg : w.grownBy w' v.ownBlock) (a : Addr) (ha : a.block < base) (hlt : a.block < w.heap.size) : w'.cell? a = w.cell? a :=
 hg.cell_far a hlt (by
  cases hv : v.ownBlock with
  | none => simp
  | some g => intro e; injection e with e; have := (h.lt g hv).1; omega)
/-- What an append to an own row leaves of a block below it. -/
theorem own_blk {w w' : World} {base : Nat} {e : TypeId} {size : Nat} {v : Value} {n : Nat} {rows : List Value} (h : w.ownsRow base e size v n rows) (hg : w.grownBy w' v.ownBlock) {g : Nat} {t : TypeId} {cs : Array Value} (hb : Blk w g t cs) (ha : g < base) : Blk w' g t cs :=
 (hg.block g hb.lt (by
  cases hv : v.ownBlock with
  | none => simp
  | some g => intro e; injection e with e; have := (h.lt g hv).1; omega)).trans hb
theorem Blk.else_ {w w' : World} {rb g : Nat} {t : TypeId} {cs : Array Value} (h : Blk w g t cs) (he : Else rb w w') (hne : g ≠ rb) : Blk w' g t cs := (he.agree g hne h.lt).trans h

def tiny (ts : List GT) : Prop := ts.length ≤ 3 ∧ ∀ t ∈ ts, t.n.size ≤ 8

theorem own_agree {w w' : World} {base : Nat} {e : TypeId} {size : Nat} {v : Value} {n : Nat} {rows : List Value} {S : Nat → Prop} (h : w.ownsRow base e size v n rows) (hg : w.grownBy w' v.ownBlock) (hS : ∀ b, S b → b < base) : Agree S w w' := fun b hb hlt =>
 hg.block b hlt (by
  cases hv : v.ownBlock with
  | none => simp
  | some g => intro e; injection e with e; have := (h.lt g hv).1; have := hS b hb; omega)

/-- An atom that is being drawn: its row, its block, the reader. -/
def AtomInv (w wr : World) (rb M : Nat) (name : ByteArray) (ts : List GT) (rows : List Value) (v : Value) (c0 : Array Value) : Prop :=
 c0.size = 2 ∧ Blk wr w.heap.size 26 c0 ∧ Blk wr (w.heap.size + 1) 26 #[.string name, v] ∧ wr.ownsRow (w.heap.size + 2) 33 2 v ts.length rows ∧ RowsE 2 TermE wr rows ts ∧ tiny ts ∧ Rd wr rb M ∧ Else rb w wr

theorem AtomInv.le {w wr : World} {rb M N : Nat} {name : ByteArray} {ts : List GT} {rows : List Value} {v : Value} {c0 : Array Value} (h : AtomInv w wr rb M name ts rows v c0) (hM : M ≤ N) : AtomInv w wr rb N name ts rows v c0 :=
 ⟨h.1, h.2.1, h.2.2.1, h.2.2.2.1, h.2.2.2.2.1, h.2.2.2.2.2.1, h.2.2.2.2.2.2.1.le hM, h.2.2.2.2.2.2.2⟩
/-- What is left when the atom has been drawn. -/
theorem atom_end {w wr : World} {rb M : Nat} {name : ByteArray} {ts : List GT} {rows : List Value} {v : Value} {c0 : Array Value} (h : AtomInv w wr rb M name ts rows v c0) (hrl : rb < w.heap.size) (x y : Value) :
 TermsR (From w.heap.size) ((wr.setCell ⟨w.heap.size, 0, none⟩ x).setCell ⟨w.heap.size, 1, none⟩ y) v ts ∧ Rd ((wr.setCell ⟨w.heap.size, 0, none⟩ x).setCell ⟨w.heap.size, 1, none⟩ y) rb M ∧ Else rb w ((wr.setCell ⟨w.heap.size, 0, none⟩ x).setCell ⟨w.heap.size, 1, none⟩ y) := by
 obtain ⟨h1, h2, h3, h4, h5, h6, h7, h8⟩ := h
 have hA : ∀ S : Nat → Prop, (¬ S w.heap.size) → Agree S wr ((wr.setCell ⟨w.heap.size, 0, none⟩ x).setCell ⟨w.heap.size, 1, none⟩ y) := fun S hS => ((Agree.refl _ _).setCell hS _).setCell hS _
 refine ⟨?_, h7.keep (hA _ (by simp; omega)) (by go_size), ?_⟩
 · have := own_slice h4 h5 rfl
   exact TermsR.imp (S := From (w.heap.size + 2)) (w := wr) this (fromLe (by omega)) (hA _ (by simp)) (by go_size)
 · refine ⟨h8.os, h8.tape, h8.output, by have := h8.size; go_size, fun k hk hne => ?_⟩
   exact (hA (fun b => b < w.heap.size) (by simp) k hk (Nat.lt_of_lt_of_le hk h8.size)).trans (h8.block k hk hne)

theorem atom_step {w wr w2 w3 : World} {rb M M' g cap : Nat} {name s : ByteArray} {ts : List GT} {rows : List Value} {v : Value} {c0 : Array Value} {b : Bool} {o : Obj}
 (h : AtomInv w wr rb M name ts rows v c0) (hrl : rb < w.heap.size) (hq2 : Else rb wr w2) (hr2 : Rd w2 rb M') (hs : s.size ≤ 8) (hl : ts.length + 1 ≤ 3)
 (hown3 : w3.ownsRow (w.heap.size + 2) 33 2 (.slice (some ⟨g, 0, none⟩) (ts.length + 1) cap) (ts.length + 1) (rows ++ [.bool b, .string s])) (hgrow3 : (w2.alloc o).grownBy w3 v.ownBlock) :
 AtomInv w (w3.setCell ⟨w.heap.size + 1, 1, none⟩ (.slice (some ⟨g, 0, none⟩) (ts.length + 1) cap)) rb M' name (ts ++ [⟨b, s⟩]) (rows ++ [.bool b, .string s]) (.slice (some ⟨g, 0, none⟩) (ts.length + 1) cap) c0 := by
 obtain ⟨h1, h2, h3, h4, h5, h6, h7, h8⟩ := h
 have ho := own_ext (own_else h4 hq2 (by omega)) ((Ext.refl w2).alloc o)
 have hA : ∀ S : Nat → Prop, (∀ b, S b → b < w.heap.size) → Agree S w2 (w3.setCell ⟨w.heap.size + 1, 1, none⟩ (.slice (some ⟨g, 0, none⟩) (ts.length + 1) cap)) := fun S hS =>
  (((Agree.of_ext ((Ext.refl w2).alloc o)).trans' (own_agree ho hgrow3 (fun b hb => by have := hS b hb; omega)) (by go_size)).setCell (fun hb => by have := hS _ hb; simp at this; omega) _)
 have hz2 := hq2.size
 have hz3 := hgrow3.size
 have hz : w2.heap.size ≤ w3.heap.size := by have : w2.heap.size ≤ (w2.alloc o).heap.size := by go_size
                                             omega
 have hw := h8.size
 refine ⟨h1, ?_, ?_, ?_, ?_, ?_, ?_, ?_⟩
 · exact (own_blk ho hgrow3 ((h2.else_ hq2 (by omega)).alloc o) (by omega)).far (by simp) _
 · have := (own_blk ho hgrow3 ((h3.else_ hq2 (by omega)).alloc o) (by omega)).set_ 1 (.slice (some ⟨g, 0, none⟩) (ts.length + 1) cap)
   simpa using this
 · have := ownsRow_setCell_below hown3 (a := ⟨w.heap.size + 1, 1, none⟩) (by simp) (.slice (some ⟨g, 0, none⟩) (ts.length + 1) cap)
   simpa using this
 · exact (RowsE.mono (E' := TermE) (w' := w3.setCell ⟨w.heap.size + 1, 1, none⟩ (.slice (some ⟨g, 0, none⟩) (ts.length + 1) cap)) h5 (fun _ _ _ h => h)).append (RowsE.one rfl ⟨rfl, show s.size ≤ maxLen from by unfold maxLen; omega⟩)
 · refine ⟨by simp; omega, fun t ht => ?_⟩
   rcases List.mem_append.1 ht with ht | ht
   · exact h6.2 t ht
   · simp at ht; subst ht; exact hs
 · exact hr2.keep (hA _ (fun b hb => by omega)) (by go_size)
 · have hE := h8.trans' hq2
   refine ⟨hgrow3.os.trans hE.os, hgrow3.tape.trans hE.tape, hgrow3.output.trans hE.output, by go_size, fun k hk hne => ?_⟩
   exact (hA (fun b => b < w.heap.size) (fun _ h => h) k hk (by omega)).trans (hE.block k hk hne)

set_option maxRecDepth 100000 in
set_option maxHeartbeats 4000000 in
theorem l10AtomNo_any (rb m : Nat) (name : ByteArray) (w : World) (hs : name.size ≤ 1000) (hr : Rd w rb m) (hp : m + 6 ≤ 1000000) :
 Calls Tryz.prog 99 #[.pointer (some ⟨rb, 0, none⟩), .string name, .bool false] w fun e w' =>
  (∃ v ts, e = .returned (.agg #[.string name, v]) ∧ TermsR (From w.heap.size) w' v ts ∧ tiny ts) ∧ Rd w' rb (m + 6) ∧ Else rb w w' := by
 have hrl := hr.lt
 have HR := Lib.hid hr
 obtain ⟨i0, hi0, hz0, hz1, hz2⟩ := info_parts term_info
 clear hr
 go_enter Tryz.func99, Tryz.ntmps99
 go_wp2_with (go_at_call 129; refine (l10Args_any name _).mono ?_; rintro e w1 ⟨⟨z, hz, rfl⟩, rfl⟩)
 go_loopw [8] (fun i wr => ∃ (k : Nat) (ts : List GT) (rows : List Value) (v : Value) (c0 : Array Value), i = .int .i64 k ∧ k + ts.length ≤ 3 ∧ Hid (AtomInv w wr rb (m + 2 * ts.length) name ts rows v c0)) (fun i _ => (intOf i).toNat)
 case atStart =>
  refine ⟨z, [], [], .slice none 0 0, #[.string ByteArray.empty, .slice none 0 0], rfl, by simpa using hz, rfl, ?_, ?_, ?_, RowsE.nil, ⟨by simp, by simp⟩, ?_, ?_⟩
  · exact (Blk.new w _ _).alloc _
  · simpa using Blk.new (w.alloc (.cells #[.string ⟨#[]⟩, .slice none 0 0] 26)) 26 #[.string name, .slice none 0 0]
  · exact World.ownsRow_nil _ _ _ _
  · exact (HR.out.ext (((Ext.refl _).alloc _).alloc _)).le (by omega)
  · exact Else.of_ext (((Ext.refl _).alloc _).alloc _)
 case round =>
  obtain ⟨k, ts, rows, v, c0, rfl, hk, hh⟩ := hrel
  obtain ⟨A, c, rfl⟩ := own_form hh.out.2.2.2.1
  by_cases hk0 : 0 < k
  · have q0 := hh.out.2.1.cell 0
    have q1 := hh.out.2.2.1.cell 1
    have hb1 := hh.out.2.2.1.lt
    go_wp2
    go_region_law (first
     | (go_simp; go_at_call 131; refine (l10Word_any rb (m + 2 * ts.length) _ (hh.out.2.2.2.2.2.2.1.ext (Ext.refl _).drew) (by omega)).mono ?_; rintro e w2 ⟨⟨s, hs, rfl⟩, hr2, he2⟩; have hq2 := (Else.of_ext (rb := rb) (Ext.refl wr).drew).trans' he2; have q2 := (hq2.cell (o := 1) (show w.heap.size + 1 ≠ rb from by omega) hb1).trans q1; have hb2 := cell_lt q2; have q3 := (((Ext.refl w2).alloc (.cells #[.bool false, .string s] 33)).cells.1 _ 1 hb2).trans q2)
     | (refine step_append_lies _ (by rfl) (.tmp 32) (.tmp 36) 24 (by rfl) (w.heap.size + 2) 33 i0 _ 2 24 Tryz.underlying24 hi0 hz0 hz1 hz2 rfl (by decide) (.slice A ts.length c) ts.length rows (by rfl) (own_ext (own_else hh.out.2.2.2.1 hq2 (by omega)) ((Ext.refl _).alloc _)) ⟨w2.heap.size, 0, none⟩ 1 1 [.bool false, .string s] (by rfl) rfl (World.news_of_block (heap_alloc_new _ _)) (by simp; exact ⟨rfl, rfl⟩) (by omega) (by unfold maxLen; omega) (by omega) (by go_size) (w2.heap.size + 1) (by simp) ?_; intro g cap w3 hown3 hgrow3 hat3 hlt3; have hown2 := own_ext (own_else hh.out.2.2.2.1 hq2 (by omega)) ((Ext.refl _).alloc (.cells #[.bool false, .string s] 33)); have q4 := (own_far hown2 hgrow3 ⟨w.heap.size + 1, 1, none⟩ (by simp) (by simp; omega)).trans q3; have hb4 := own_blk hown2 hgrow3 (((hh.out.2.2.1.else_ hq2 (by omega)).alloc (.cells #[.bool false, .string s] 33))) (by omega); have f4 := hb4.frozen 1))
    all_goals (go_wp2; go_roundw)
    all_goals try (simp [intOf]; omega)
    all_goals refine ⟨k - 1, ts ++ [⟨false, s⟩], rows ++ [.bool false, .string s], _, c0, by congr 1; omega, by simp; omega, Lib.hid ((atom_step (b := false) hh.out hrl hq2 hr2 hs (by omega) ?_ hgrow3).le (by rw [List.length_append]; simp; omega))⟩
    all_goals exact hown3
  · have q0 := hh.out.2.2.1.cell 0
    have q1 := hh.out.2.2.1.cell 1
    have hc0 := hh.out.1
    obtain ⟨⟨u0, p0⟩, f0⟩ := hh.out.2.1.ready (i := 0) (by omega)
    obtain ⟨⟨u1, p1⟩, f1⟩ := hh.out.2.1.ready (i := 1) (by omega)
    go_wp2
    refine bodyPost_ret (v := .agg #[.string name, .slice A ts.length c]) (by simp [results, Tryz.results99, go_sem, p0, p1]) rfl ?_
    obtain ⟨e1, e2, e3⟩ := atom_end hh.out hrl (.string name) (.slice A ts.length c)
    exact ⟨⟨_, ts, rfl, e1, hh.out.2.2.2.2.2.1⟩, e2.le (by have := hh.out.2.2.2.2.2.1.1; omega), e3⟩

end Go.Proofs.YtfjdijakgjhieaaGreat

namespace Go.Proofs.YtfjdijakgjhieaaGreat
open Go.RowKit

theorem atom_own {w wr : World} {rb M : Nat} {name : ByteArray} {ts : List GT} {rows : List Value} {v : Value} {c0 : Array Value} (h : AtomInv w wr rb M name ts rows v c0) (x y : Value) :
 OwnK kTerm (w.heap.size + 2) 33 None ((wr.setCell ⟨w.heap.size, 0, none⟩ x).setCell ⟨w.heap.size, 1, none⟩ y) v ts := by
 obtain ⟨h1, h2, h3, h4, h5, h6, h7, h8⟩ := h
 exact ⟨rows, fun _ => False, ownsRow_setCell_below (ownsRow_setCell_below h4 (a := ⟨w.heap.size, 0, none⟩) (by simp) x) (a := ⟨w.heap.size, 1, none⟩) (by simp) y, RowsE.mono (E' := TermE) h5 (fun _ _ _ h => h), fun _ h => h.elim, fun _ _ h => h⟩

set_option maxRecDepth 100000 in
set_option maxHeartbeats 4000000 in
theorem l10AtomVars_any (rb m : Nat) (name : ByteArray) (w : World) (hs : name.size ≤ 1000) (hr : Rd w rb m) (hp : m + 6 ≤ 1000000) :
 Calls Tryz.prog 99 #[.pointer (some ⟨rb, 0, none⟩), .string name, .bool true] w fun e w' =>
  (∃ v ts, e = .returned (.agg #[.string name, v]) ∧ OwnK kTerm (w.heap.size + 2) 33 None w' v ts ∧ tiny ts) ∧ Rd w' rb (m + 6) ∧ Else rb w w' := by
 have hrl := hr.lt
 have HR := Lib.hid hr
 obtain ⟨i0, hi0, hz0, hz1, hz2⟩ := info_parts term_info
 clear hr
 go_enter Tryz.func99, Tryz.ntmps99
 go_wp2_with (go_at_call 129; refine (l10Args_any name _).mono ?_; rintro e w1 ⟨⟨z, hz, rfl⟩, rfl⟩)
 go_loopw [8] (fun i wr => ∃ (k : Nat) (ts : List GT) (rows : List Value) (v : Value) (c0 : Array Value), i = .int .i64 k ∧ k + ts.length ≤ 3 ∧ Hid (AtomInv w wr rb (m + 2 * ts.length) name ts rows v c0)) (fun i _ => (intOf i).toNat)
 case atStart =>
  refine ⟨z, [], [], .slice none 0 0, #[.string ByteArray.empty, .slice none 0 0], rfl, by simpa using hz, rfl, ?_, ?_, ?_, RowsE.nil, ⟨by simp, by simp⟩, ?_, ?_⟩
  · exact (Blk.new w _ _).alloc _
  · simpa using Blk.new (w.alloc (.cells #[.string ⟨#[]⟩, .slice none 0 0] 26)) 26 #[.string name, .slice none 0 0]
  · exact World.ownsRow_nil _ _ _ _
  · exact (HR.out.ext (((Ext.refl _).alloc _).alloc _)).le (by omega)
  · exact Else.of_ext (((Ext.refl _).alloc _).alloc _)
 case round =>
  obtain ⟨k, ts, rows, v, c0, rfl, hk, hh⟩ := hrel
  obtain ⟨A, c, rfl⟩ := own_form hh.out.2.2.2.1
  by_cases hk0 : 0 < k
  · have q0 := hh.out.2.1.cell 0
    have q1 := hh.out.2.2.1.cell 1
    have hb1 := hh.out.2.2.1.lt
    have HP := Lib.hid (rdPick_any rb (m + 2 * ts.length) 6 wr (by omega) hh.out.2.2.2.2.2.2.1 (by omega))
    have hsplit : ∀ z : Nat, decide (0 < (z : Int)) = true ∨ decide (0 < (z : Int)) = false := fun z => by cases decide (0 < (z : Int)) <;> simp
    go_wp2_with (go_at_call 60; refine HP.out.mono ?_; rintro e w1 ⟨⟨z, hz, rfl⟩, hr1, he1⟩; have q10 := (he1.cell (o := 1) (show w.heap.size + 1 ≠ rb from by omega) hb1).trans q1; have hz1' := he1.size; have HR1 := Lib.hid hr1; have HE1 := Lib.hid he1; clear hr1 he1)
    · go_region_law (first
        | (go_simp; go_at_call 130; refine (l10Var_any rb (m + 2 * ts.length + 1) _ (HR1.out.ext (Ext.refl _).drew) (by omega)).mono ?_; rintro e w2 ⟨⟨s, hs, rfl⟩, hr2, he2⟩; have hq2 := HE1.out.trans' ((Else.of_ext (rb := rb) (Ext.refl w1).drew).trans' he2); have q2 := (hq2.cell (o := 1) (show w.heap.size + 1 ≠ rb from by omega) hb1).trans q1; have hb2 := cell_lt q2; have q3 := (((Ext.refl w2).alloc (.cells #[.bool true, .string s] 33)).cells.1 _ 1 hb2).trans q2)
        | (refine step_append_lies _ (by rfl) (.tmp 24) (.tmp 28) 24 (by rfl) (w.heap.size + 2) 33 i0 _ 2 24 Tryz.underlying24 hi0 hz0 hz1 hz2 rfl (by decide) (.slice A ts.length c) ts.length rows (by rfl) (own_ext (own_else hh.out.2.2.2.1 hq2 (by omega)) ((Ext.refl _).alloc _)) ⟨w2.heap.size, 0, none⟩ 1 1 [.bool true, .string s] (by rfl) rfl (World.news_of_block (heap_alloc_new _ _)) (by simp; exact ⟨rfl, rfl⟩) (by omega) (by unfold maxLen; omega) (by omega) (by go_size) (w2.heap.size + 1) (by simp) ?_; intro g cap w3 hown3 hgrow3 hat3 hlt3; have hown2 := own_ext (own_else hh.out.2.2.2.1 hq2 (by omega)) ((Ext.refl _).alloc (.cells #[.bool true, .string s] 33)); have q4 := (own_far hown2 hgrow3 ⟨w.heap.size + 1, 1, none⟩ (by simp) (by simp; omega)).trans q3; have hb4 := own_blk hown2 hgrow3 (((hh.out.2.2.1.else_ hq2 (by omega)).alloc (.cells #[.bool true, .string s] 33))) (by omega); have f4 := hb4.frozen 1))
      all_goals (go_wp2; go_roundw)
      all_goals try (simp [intOf]; omega)
      all_goals refine ⟨k - 1, ts ++ [⟨true, s⟩], rows ++ [.bool true, .string s], _, c0, by congr 1; omega, by simp; omega, Lib.hid ((atom_step (b := true) hh.out hrl hq2 hr2 hs (by omega) ?_ hgrow3).le (by rw [List.length_append]; simp; omega))⟩
      all_goals exact hown3
    · go_region_law (first
        | (go_simp; go_at_call 131; refine (l10Word_any rb (m + 2 * ts.length + 1) _ (HR1.out.ext (Ext.refl _).drew) (by omega)).mono ?_; rintro e w2 ⟨⟨s, hs, rfl⟩, hr2, he2⟩; have hq2 := HE1.out.trans' ((Else.of_ext (rb := rb) (Ext.refl w1).drew).trans' he2); have q2 := (hq2.cell (o := 1) (show w.heap.size + 1 ≠ rb from by omega) hb1).trans q1; have hb2 := cell_lt q2; have q3 := (((Ext.refl w2).alloc (.cells #[.bool false, .string s] 33)).cells.1 _ 1 hb2).trans q2)
        | (refine step_append_lies _ (by rfl) (.tmp 32) (.tmp 36) 24 (by rfl) (w.heap.size + 2) 33 i0 _ 2 24 Tryz.underlying24 hi0 hz0 hz1 hz2 rfl (by decide) (.slice A ts.length c) ts.length rows (by rfl) (own_ext (own_else hh.out.2.2.2.1 hq2 (by omega)) ((Ext.refl _).alloc _)) ⟨w2.heap.size, 0, none⟩ 1 1 [.bool false, .string s] (by rfl) rfl (World.news_of_block (heap_alloc_new _ _)) (by simp; exact ⟨rfl, rfl⟩) (by omega) (by unfold maxLen; omega) (by omega) (by go_size) (w2.heap.size + 1) (by simp) ?_; intro g cap w3 hown3 hgrow3 hat3 hlt3; have hown2 := own_ext (own_else hh.out.2.2.2.1 hq2 (by omega)) ((Ext.refl _).alloc (.cells #[.bool false, .string s] 33)); have q4 := (own_far hown2 hgrow3 ⟨w.heap.size + 1, 1, none⟩ (by simp) (by simp; omega)).trans q3; have hb4 := own_blk hown2 hgrow3 (((hh.out.2.2.1.else_ hq2 (by omega)).alloc (.cells #[.bool false, .string s] 33))) (by omega); have f4 := hb4.frozen 1))
      all_goals (go_wp2; go_roundw)
      all_goals try (simp [intOf]; omega)
      all_goals refine ⟨k - 1, ts ++ [⟨false, s⟩], rows ++ [.bool false, .string s], _, c0, by congr 1; omega, by simp; omega, Lib.hid ((atom_step (b := false) hh.out hrl hq2 hr2 hs (by omega) ?_ hgrow3).le (by rw [List.length_append]; simp; omega))⟩
      all_goals exact hown3
  · have q0 := hh.out.2.2.1.cell 0
    have q1 := hh.out.2.2.1.cell 1
    have hc0 := hh.out.1
    obtain ⟨⟨u0, p0⟩, f0⟩ := hh.out.2.1.ready (i := 0) (by omega)
    obtain ⟨⟨u1, p1⟩, f1⟩ := hh.out.2.1.ready (i := 1) (by omega)
    go_wp2
    refine bodyPost_ret (v := .agg #[.string name, .slice A ts.length c]) (by simp [results, Tryz.results99, go_sem, p0, p1]) rfl ?_
    obtain ⟨e1, e2, e3⟩ := atom_end hh.out hrl (.string name) (.slice A ts.length c)
    exact ⟨⟨_, ts, rfl, atom_own hh.out _ _, hh.out.2.2.2.2.2.1⟩, e2.le (by have := hh.out.2.2.2.2.2.1.1; omega), e3⟩

end Go.Proofs.YtfjdijakgjhieaaGreat

namespace Go.Proofs.YtfjdijakgjhieaaGreat
open Go.RowKit

def names8 : List ByteArray := [⟨#[101]⟩, ⟨#[101]⟩, ⟨#[101]⟩, ⟨#[112]⟩, ⟨#[112]⟩, ⟨#[113]⟩, ⟨#[122]⟩, ⟨#[104]⟩]
theorem names8_small : ∀ s ∈ names8, s.size ≤ 8 := by decide

theorem strs_at {w : World} {rb m g : Nat} {t : TypeId} (cs : Array Value) (ss : List ByteArray) (hcs : cs = (ss.map Value.string).toArray) (hg : g = w.heap.size) (hr : Rd w rb m) (hs : ∀ s ∈ ss, s.size ≤ 1000) (hl : ss.length ≤ 1000) (n : Nat) (hn : n = ss.length) :
 StrsR (fun b => b ≠ rb) (w.alloc (.cells cs t)) (.slice (some ⟨g, 0, none⟩) n n) ss := by
 subst hg
 exact strs_new cs ss hcs hr hs hl n hn

set_option maxRecDepth 100000 in
set_option maxHeartbeats 2000000 in
theorem l10Fact_any (rb m : Nat) (w : World) (hr : Rd w rb m) (hp : m + 7 ≤ 1000000) :
 Calls Tryz.prog 73 #[.pointer (some ⟨rb, 0, none⟩)] w fun e w' =>
  (∃ (a : GA) (v : Value), e = .returned (.agg #[.string a.n, v]) ∧ TermsR (From w.heap.size) w' v a.args ∧ a.n.size ≤ 8 ∧ tiny a.args) ∧ Rd w' rb (m + 7) ∧ Else rb w w' := by
 have hrl := hr.lt
 have HR := Lib.hid hr
 have HR1 := Lib.hid (hr.ext ((Ext.refl w).alloc (.cells #[.string ⟨#[]⟩, .slice none 0 0] 26)))
 have HB := Lib.hid (Blk.new w 26 #[.string ⟨#[]⟩, .slice none 0 0])
 clear hr
 go_enter Tryz.func73, Tryz.ntmps73
 go_wp2_with (fail)
 refine (of_any rb m _ names8 _ (strs_at _ names8 rfl (by simp) HR1.out (fun s hs => Nat.le_trans (names8_small s hs) (by omega)) (by simp [names8]) _ rfl) (by simp [names8]) (HR1.out.ext ((Ext.refl _).alloc _)) (by omega)).mono ?_
 rintro e w1 ⟨⟨s, hs, hs2, rfl⟩, hr1, he1⟩
 have hs8 := names8_small s hs
 have hb1 := ((HB.out.alloc _).else_ he1 (by omega))
 have HE1 := Lib.hid ((Else.of_ext (rb := rb) (((Ext.refl w).alloc _).alloc _)).trans' he1)
 have HR2 := Lib.hid hr1
 have HB1 := Lib.hid hb1
 clear hr1 he1 hb1 hs
 go_wp2_with (fail)
 refine (l10AtomNo_any rb (m + 1) s _ (by omega) HR2.out (by omega)).mono ?_
 rintro e w2 ⟨⟨v, ts, rfl, ht, hti⟩, hr2, he2⟩
 obtain ⟨A, c, rfl, hc1, hc2⟩ := SliceR.form ht
 have hb2 := HB1.out.else_ he2 (by omega)
 have q0 := hb2.cell 0
 have q1 := hb2.cell 1
 have f0 := hb2.frozen 0
 have f1 := hb2.frozen 1
 have hw2 := hb2.lt
 have hsz := HE1.out.size
 have hlt1 := HB1.out.lt
 have HT := Lib.hid ht
 have HR3 := Lib.hid hr2
 have HE2 := Lib.hid (HE1.out.trans' he2)
 clear ht hr2 he2 hb2
 go_wp2
 refine bodyPost_ret (v := .agg #[.string s, .slice A ts.length c]) (by simp [results, Tryz.results73, go_sem, q0, q1]) rfl ?_
 have hA : ∀ S : Nat → Prop, (¬ S w.heap.size) → Agree S w2 ((w2.setCell ⟨w.heap.size, 0, none⟩ (.string s)).setCell ⟨w.heap.size, 1, none⟩ (.slice A ts.length c)) := fun S hS => ((Agree.refl _ _).setCell hS _).setCell hS _
 refine ⟨⟨⟨s, ts⟩, _, rfl, ?_, hs8, hti⟩, HR3.out.keep (hA _ (by simp; omega)) (by go_size), ?_⟩
 · exact TermsR.imp (S := From w1.heap.size) (w := w2) HT.out (fromLe (by omega)) (hA _ (by simp; omega)) (by go_size)
 · refine ⟨HE2.out.os, HE2.out.tape, HE2.out.output, by have := HE2.out.size; go_size, fun k hk hne => ?_⟩
   exact (hA (fun b => b < w.heap.size) (by simp) k hk (Nat.lt_of_lt_of_le hk HE2.out.size)).trans (HE2.out.block k hk hne)

end Go.Proofs.YtfjdijakgjhieaaGreat

namespace Go.Proofs.YtfjdijakgjhieaaGreat
open Go.RowKit

def mid (a : GA) : Prop := a.n.size ≤ 9 ∧ a.args.length ≤ 6 ∧ ∀ t ∈ a.args, t.n.size ≤ 9
theorem mid_app {s : ByteArray} {ts : List GT} {t : GT} (h : mid ⟨s, ts⟩) (hl : ts.length ≤ 5) (ht : t.n.size ≤ 9) : mid ⟨s, ts ++ [t]⟩ := by
 refine ⟨h.1, by simp; omega, fun u hu => ?_⟩
 rcases List.mem_append.1 hu with hu | hu
 · exact h.2.2 u hu
 · simp at hu; subst hu; exact ht
def names6 : List ByteArray := [⟨#[101]⟩, ⟨#[112]⟩, ⟨#[116]⟩, ⟨#[113]⟩, ⟨#[122]⟩, ⟨#[104]⟩]
def names4 : List ByteArray := [⟨#[]⟩, ⟨#[110, 111, 116]⟩, ⟨#[65]⟩, ⟨#[97, 98, 99, 100, 101, 102, 103, 104, 105]⟩]
def names7 : List ByteArray := [⟨#[]⟩, ⟨#[120]⟩, ⟨#[88]⟩, ⟨#[88, 121, 49]⟩, ⟨#[88, 89]⟩, ⟨#[65, 98, 99, 100, 101, 102, 103, 104]⟩, ⟨#[65, 98, 99, 100, 101, 102, 103, 104, 105]⟩]
theorem names6_small : ∀ s ∈ names6, s.size ≤ 8 := by decide
theorem names4_small : ∀ s ∈ names4, s.size ≤ 9 := by decide
theorem names7_small : ∀ s ∈ names7, s.size ≤ 9 := by decide
/-- An atom that has been drawn, before it is turned: where it lies. -/
structure Drawn (w wr : World) (rb M ab : Nat) (a : GA) (v : Value) : Prop where
 res : ∃ c0 : Array Value, c0.size = 2 ∧ Blk wr w.heap.size 26 c0
 blk : Blk wr ab 26 #[.string a.n, v]
 lo : w.heap.size < ab
 own : OwnK kTerm (w.heap.size + 2) 33 None wr v a.args
 far : ∀ g, v.ownBlock = some g → g ≠ ab
 md : mid a
 rd : Rd wr rb M
 els : Else rb w wr

theorem Drawn.le {w wr : World} {rb M N ab : Nat} {a : GA} {v : Value} (h : Drawn w wr rb M ab a v) (hM : M ≤ N) : Drawn w wr rb N ab a v := ⟨h.res, h.blk, h.lo, h.own, h.far, h.md, h.rd.le hM, h.els⟩
theorem Drawn.else_ {w wr w' : World} {rb M N ab : Nat} {a : GA} {v : Value} (h : Drawn w wr rb M ab a v) (hrl : rb < w.heap.size) (he : Else rb wr w') (hr : Rd w' rb N) : Drawn w w' rb N ab a v := by
 obtain ⟨c0, hc, hb⟩ := h.res
 exact ⟨⟨c0, hc, hb.else_ he (by omega)⟩, h.blk.else_ he (by have := h.lo; omega), h.lo, h.own.agree (fun b hb => hb.elim) (fun g hg => he.agree g (by have := (h.own.at_ g hg).1; omega) (h.own.at_ g hg).2) he.size, h.far, h.md, hr, h.els.trans' he⟩
theorem Drawn.ext {w wr w' : World} {rb M ab : Nat} {a : GA} {v : Value} (h : Drawn w wr rb M ab a v) (hrl : rb < w.heap.size) (he : Ext wr w') : Drawn w w' rb M ab a v := h.else_ hrl (Else.of_ext he) (h.rd.ext he)
/-- The name is set anew. -/
theorem Drawn.name {w wr : World} {rb M ab : Nat} {a : GA} {v : Value} {s : ByteArray} (h : Drawn w wr rb M ab a v) (hrl : rb < w.heap.size) (hs : s.size ≤ 9) : Drawn w (wr.setCell ⟨ab, 0, none⟩ (.string s)) rb M ab ⟨s, a.args⟩ v := by
 obtain ⟨c0, hc, hb⟩ := h.res
 have hA : ∀ S : Nat → Prop, (¬ S ab) → Agree S wr (wr.setCell ⟨ab, 0, none⟩ (.string s)) := fun S hS => (Agree.refl _ _).setCell hS _
 refine ⟨⟨c0, hc, hb.far (by have := h.lo; simp only; omega) _⟩, by simpa using h.blk.set_ 0 (.string s), h.lo, h.own.agree (fun b hb => hb.elim) (fun g hg => Below.heap_setCell _ _ _ _ (h.far g hg)) (by go_size), h.far, ⟨hs, h.md.2⟩, h.rd.keep (hA _ (by have := h.lo; omega)) (by go_size), ?_⟩
 exact ⟨h.els.os, h.els.tape, h.els.output, by have := h.els.size; go_size, fun k hk hne => (hA (fun b => b < w.heap.size) (by have := h.lo; omega) k hk (Nat.lt_of_lt_of_le hk h.els.size)).trans (h.els.block k hk hne)⟩
/-- One more term. -/
theorem Drawn.more {w wr w2 w3 : World} {rb M ab : Nat} {a : GA} {v v' : Value} {t : GT} (h : Drawn w wr rb M ab a v) (hrl : rb < w.heap.size) (he : Ext wr w2) (hap : Apped kTerm (w.heap.size + 2) 33 None w2 v (a.args ++ [t]) v' w3) (hl : a.args.length ≤ 5) (ht : t.n.size ≤ 9) :
 Drawn w (w3.setCell ⟨ab, 1, none⟩ v') rb M ab ⟨a.n, a.args ++ [t]⟩ v' := by
 have h2 := h.ext hrl he
 obtain ⟨c0, hc, hb⟩ := h2.res
 have hlo := h.lo
 have hlt := h2.blk.lt
 have hfar' : ∀ g, v'.ownBlock = some g → g ≠ ab := fun g hg => by
  rcases hap.at_ with e | e
  · exact h.far g (e ▸ hg)
  · rw [e] at hg; injection hg with hg; omega
 have hkeep : ∀ b, b < w2.heap.size → v.ownBlock ≠ some b → w3.heap[b]? = w2.heap[b]? := fun b hb hn => hap.grown.block b hb (fun e => hn e.symm)
 have hown : ∀ b, b < w.heap.size + 2 → v.ownBlock ≠ some b := fun b hb e => by have := (h.own.at_ b e).1; omega
 have hA : ∀ S : Nat → Prop, (∀ b, S b → b < w.heap.size) → Agree S w2 (w3.setCell ⟨ab, 1, none⟩ v') := fun S hS b hb hlt' =>
  (Below.heap_setCell _ _ _ _ (by have := hS b hb; simp only; omega)).trans (hkeep b hlt' (hown b (by have := hS b hb; omega)))
 have hz := hap.grown.size
 refine ⟨⟨c0, hc, ?_⟩, ?_, hlo, hap.own.agree (fun b hb => hb.elim) (fun g hg => Below.heap_setCell _ _ _ _ (hfar' g hg)) (by go_size), hfar', mid_app h.md hl ht, h2.rd.keep (hA _ (fun b hb => by omega)) (by go_size), ?_⟩
 · exact (Below.heap_setCell _ _ _ _ (by simp only; omega)).trans ((hkeep _ hb.lt (hown _ (by omega))).trans hb)
 · have hb3 : Blk w3 ab 26 #[.string a.n, v] := (hkeep ab hlt (fun e => h.far ab e rfl)).trans h2.blk
   simpa using hb3.set_ 1 v'
 · exact ⟨hap.grown.os.trans h2.els.os, hap.grown.tape.trans h2.els.tape, hap.grown.output.trans h2.els.output, by have := h2.els.size; go_size, fun k hk hne => (hA (fun b => b < w.heap.size) (fun _ h => h) k hk (Nat.lt_of_lt_of_le hk h2.els.size)).trans (h2.els.block k hk hne)⟩
theorem Drawn.kept {w wr w2 w3 : World} {rb M ab : Nat} {a : GA} {v v' : Value} {zs : List GT} (h : Drawn w wr rb M ab a v) (he : Ext wr w2) (hap : Apped kTerm (w.heap.size + 2) 33 None w2 v zs v' w3) : Blk w3 ab 26 #[.string a.n, v] :=
 (hap.grown.block ab (h.blk.ext he).lt (fun e => h.far ab e.symm rfl)).trans (h.blk.ext he)
/-- What is handed back. -/
theorem Drawn.out {w wr : World} {rb M ab : Nat} {a : GA} {v : Value} (h : Drawn w wr rb M ab a v) (hrl : rb < w.heap.size) (x y : Value) :
 TermsR (From w.heap.size) ((wr.setCell ⟨w.heap.size, 0, none⟩ x).setCell ⟨w.heap.size, 1, none⟩ y) v a.args ∧ mid a ∧ Rd ((wr.setCell ⟨w.heap.size, 0, none⟩ x).setCell ⟨w.heap.size, 1, none⟩ y) rb M ∧ Else rb w ((wr.setCell ⟨w.heap.size, 0, none⟩ x).setCell ⟨w.heap.size, 1, none⟩ y) := by
 have hA : ∀ S : Nat → Prop, (¬ S w.heap.size) → Agree S wr ((wr.setCell ⟨w.heap.size, 0, none⟩ x).setCell ⟨w.heap.size, 1, none⟩ y) := fun S hS => ((Agree.refl _ _).setCell hS _).setCell hS _
 refine ⟨?_, h.md, h.rd.keep (hA _ (by omega)) (by go_size), ?_⟩
 · have h1 := ListK.imp (h.own.list (S' := From (w.heap.size + 2)) (fun b hb => hb.elim) (fun b hb => hb)) (w' := (wr.setCell ⟨w.heap.size, 0, none⟩ x).setCell ⟨w.heap.size, 1, none⟩ y) (S' := From w.heap.size) (fun b hb _ => fromLe (by omega) b hb) (hA _ (by simp)) (by go_size)
   exact h1
 · exact ⟨h.els.os, h.els.tape, h.els.output, by have := h.els.size; go_size, fun k hk hne => (hA (fun b => b < w.heap.size) (by simp) k hk (Nat.lt_of_lt_of_le hk h.els.size)).trans (h.els.block k hk hne)⟩

set_option maxRecDepth 100000 in
set_option maxHeartbeats 20000000 in
theorem l10AnyAtom_any (rb m : Nat) (w : World) (hr : Rd w rb m) (hp : m + 40 ≤ 1000000) :
 Calls Tryz.prog 72 #[.pointer (some ⟨rb, 0, none⟩)] w fun e w' =>
  (∃ (a : GA) (v : Value), e = .returned (.agg #[.string a.n, v]) ∧ TermsR (From w.heap.size) w' v a.args ∧ mid a) ∧ Rd w' rb (m + 40) ∧ Else rb w w' := by
 have hrl := hr.lt
 obtain ⟨i0, hi0, hz0, hz1, hz2⟩ := info_parts term_info
 have HR1 := Lib.hid (hr.ext ((Ext.refl w).alloc (.cells #[.string ⟨#[]⟩, .slice none 0 0] 26)))
 have HB := Lib.hid (Blk.new w 26 #[.string ⟨#[]⟩, .slice none 0 0])
 clear hr
 go_enter Tryz.func72, Tryz.ntmps72
 go_wp2_with (fail)
 refine (of_any rb m _ names6 _ (strs_at _ names6 rfl (by simp) HR1.out (fun s hs => Nat.le_trans (names6_small s hs) (by omega)) (by simp [names6]) _ rfl) (by simp [names6]) (HR1.out.ext ((Ext.refl _).alloc _)) (by omega)).mono ?_
 rintro e w1 ⟨⟨s, hs, hs2, rfl⟩, hr1, he1⟩
 have hs8 := names6_small s hs
 have hb1 := ((HB.out.alloc _).else_ he1 (by omega))
 have HE1 := Lib.hid ((Else.of_ext (rb := rb) (((Ext.refl w).alloc _).alloc _)).trans' he1)
 have HR2 := Lib.hid hr1
 have HB1 := Lib.hid hb1
 clear hr1 he1 hb1 hs
 go_wp2_with (fail)
 refine (l10AtomVars_any rb (m + 1) s _ (by omega) HR2.out (by omega)).mono ?_
 rintro e w2 ⟨⟨v, ts, rfl, ht, hti⟩, hr2, he2⟩
 obtain ⟨A, n, c, rfl, hn, hc1, hc2⟩ := ht.form2
 have hlt1 := HB1.out.lt
 have hz2' := he2.size
 have hD : Drawn w (w2.alloc (.cells #[.string s, .slice A n c] 26)) rb (m + 7) w2.heap.size ⟨s, ts⟩ (.slice A n c) :=
  ⟨⟨_, by rfl, (HB1.out.else_ he2 (by omega)).alloc _⟩, Blk.new _ _ _, by omega, (ht.sub (by omega) (fun b hb => hb.elim)).ext ((Ext.refl _).alloc _), fun g hg e => by have := (ht.at_ g hg).2; omega, ⟨by show s.size ≤ 9; omega, by have := hti.1; show ts.length ≤ 6; omega, fun t ht => Nat.le_trans (hti.2 t ht) (by omega)⟩, hr2.ext ((Ext.refl _).alloc _), (HE1.out.trans' he2).trans' (Else.of_ext ((Ext.refl _).alloc _))⟩
 have HD := Lib.hid hD
 have HN := Lib.hid (show n = ts.length ∧ ts.length ≤ 3 from ⟨hn.out, hti.1⟩)
 clear ht hr2 he2 hD hti hn
 go_wp2_with (fail)
 refine (rdPick_any rb (m + 7) 16 _ (by omega) HD.out.rd (by omega)).mono ?_
 rintro e w3 ⟨⟨z, hz, rfl⟩, hr3, he3⟩
 have HD3 := Lib.hid (HD.out.else_ hrl he3 hr3)
 have hlo := HD.out.lo
 have hz3 := he3.size


 have hlt3 := HD3.out.blk.lt
 have p0 := HD3.out.blk.cell 0
 have p1 := HD3.out.blk.cell 1
 have f0 := HD3.out.blk.frozen 0
 have f1 := HD3.out.blk.frozen 1
 obtain ⟨c0, hc0, hb0⟩ := HD3.out.res
 have hb0l := hb0.lt
 obtain ⟨⟨u0, r0⟩, g0⟩ := hb0.ready (i := 0) (by omega)
 obtain ⟨⟨u1, r1⟩, g1⟩ := hb0.ready (i := 1) (by omega)
 have tok : True := trivial
 have hn3 : n ≤ 3 := by have := HN.out; omega
 clear hr3 he3
 go_wp2_with (fail)
 · -- another name
   refine (of_any rb (m + 8) _ names4 _ (strs_at _ names4 rfl (by rfl) HD3.out.rd (fun s hs => Nat.le_trans (names4_small s hs) (by omega)) (by simp [names4]) _ rfl) (by simp [names4]) (HD3.out.rd.ext ((Ext.refl _).alloc _)) (by omega)).mono ?_
   rintro e w4 ⟨⟨s4, hs4, _, rfl⟩, hr4, he4⟩
   have HD4 := Lib.hid (HD3.out.else_ hrl ((Else.of_ext (rb := rb) ((Ext.refl w3).alloc _)).trans' he4) hr4)
   have HD5 := Lib.hid (HD4.out.name hrl (names4_small s4 hs4))
   clear p0 p1 f0 f1 r0 r1 g0 g1 hb0 hb0l hr4 he4
   have p0 := HD5.out.blk.cell 0
   have p1 := HD5.out.blk.cell 1
   have q0 := HD4.out.blk.cell 0
   have f0 := HD4.out.blk.frozen 0
   have hlt4 := HD4.out.blk.lt
   obtain ⟨c0, hc0, hb0⟩ := HD5.out.res
   obtain ⟨⟨u0, r0⟩, g0⟩ := hb0.ready (i := 0) (by omega)
   obtain ⟨⟨u1, r1⟩, g1⟩ := hb0.ready (i := 1) (by omega)
   go_wp2
   refine bodyPost_ret (v := .agg #[.string s4, .slice A n c]) (by simp [results, Tryz.results72, go_sem, r0, r1]) rfl ?_
   obtain ⟨e1, e2, e3, e4⟩ := HD5.out.out hrl (.string s4) (.slice A n c)
   exact ⟨⟨⟨s4, ts⟩, _, rfl, e1, e2⟩, e3.le (by omega), e4⟩
 · -- one more term
   clear p0 f0 f1 r0 r1 g0 g1 hb0 hb0l hc0 HR1 HB HE1 HR2 HB1 HD hs2 hlt1 hz2' hz3 hc1 hc2
   go_region_law (first
    | (go_simp; go_at_call 60; have _t := tok; refine (rdPick_any rb (m + 8) 2 _ (by omega) (HD3.out.rd.ext (Ext.refl w3).drew) (by omega)).mono ?_; clear tok _t; rintro e w4 ⟨⟨z4, hz4, rfl⟩, hr4, he4⟩; have HD4 := Lib.hid (HD3.out.else_ hrl ((Else.of_ext (rb := rb) (Ext.refl w3).drew).trans' he4) hr4); have q4 := HD4.out.blk.cell 1; have hlt4 := HD4.out.blk.lt; clear hr4 he4)
    | (go_simp; go_at_call 60; have _t := tok; refine (rdPick_any rb (m + 8) 2 _ (by omega) (HD3.out.rd.ext ((Ext.refl w3).drew.alloc (.cells #[.string ⟨#[]⟩, .string ⟨#[120]⟩, .string ⟨#[88]⟩, .string ⟨#[88, 121, 49]⟩, .string ⟨#[88, 89]⟩, .string ⟨#[65, 98, 99, 100, 101, 102, 103, 104]⟩, .string ⟨#[65, 98, 99, 100, 101, 102, 103, 104, 105]⟩] 9))) (by omega)).mono ?_; clear tok _t; rintro e w4 ⟨⟨z4, hz4, rfl⟩, hr4, he4⟩; have HD4 := Lib.hid (HD3.out.else_ hrl ((Else.of_ext (rb := rb) ((Ext.refl w3).drew.alloc (.cells #[.string ⟨#[]⟩, .string ⟨#[120]⟩, .string ⟨#[88]⟩, .string ⟨#[88, 121, 49]⟩, .string ⟨#[88, 89]⟩, .string ⟨#[65, 98, 99, 100, 101, 102, 103, 104]⟩, .string ⟨#[65, 98, 99, 100, 101, 102, 103, 104, 105]⟩] 9))).trans' he4) hr4); have q4 := HD4.out.blk.cell 1; have hlt4 := HD4.out.blk.lt; have HS4 := Lib.hid (StrsR.imp (strs_at (w := w3.drew) (g := w3.heap.size) (t := 9) _ names7 rfl (by rfl) (HD3.out.rd.ext (Ext.refl _).drew) (fun s hs => Nat.le_trans (names7_small s hs) (by omega)) (by simp [names7]) 7 rfl) (fun _ h => h) he4.agree he4.size); clear hr4 he4)
    | (go_simp; go_at_call 98; refine (of_any rb (m + 9) _ names7 _ HS4.out (by simp [names7]) HD4.out.rd (by omega)).mono ?_; rintro e w5 ⟨⟨s5, hs5, _, rfl⟩, hr5, he5⟩; have HD5 := Lib.hid (HD4.out.else_ hrl he5 hr5); have q5 := HD5.out.blk.cell 1; have hlt5 := HD5.out.blk.lt; have HS5 := Lib.hid (names7_small s5 hs5); have q55 := (((Ext.refl w5).alloc (.cells #[.bool ((z4 : Int) == 0), .string s5] 33)).cells.1 _ 1 hlt5).trans q5; clear hr5 he5)
    | (go_simp; go_at_call 98; refine (of_any rb (m + 9) _ names7 _ (strs_at (w := w4) (g := w4.heap.size) (t := 9) _ names7 rfl rfl HD4.out.rd (fun s hs => Nat.le_trans (names7_small s hs) (by omega)) (by simp [names7]) 7 rfl) (by simp [names7]) (HD4.out.rd.ext ((Ext.refl w4).alloc (.cells #[.string ⟨#[]⟩, .string ⟨#[120]⟩, .string ⟨#[88]⟩, .string ⟨#[88, 121, 49]⟩, .string ⟨#[88, 89]⟩, .string ⟨#[65, 98, 99, 100, 101, 102, 103, 104]⟩, .string ⟨#[65, 98, 99, 100, 101, 102, 103, 104, 105]⟩] 9))) (by omega)).mono ?_; rintro e w5 ⟨⟨s5, hs5, _, rfl⟩, hr5, he5⟩; have HD5 := Lib.hid (HD4.out.else_ hrl ((Else.of_ext (rb := rb) ((Ext.refl w4).alloc (.cells #[.string ⟨#[]⟩, .string ⟨#[120]⟩, .string ⟨#[88]⟩, .string ⟨#[88, 121, 49]⟩, .string ⟨#[88, 89]⟩, .string ⟨#[65, 98, 99, 100, 101, 102, 103, 104]⟩, .string ⟨#[65, 98, 99, 100, 101, 102, 103, 104, 105]⟩] 9))).trans' he5) hr5); have q5 := HD5.out.blk.cell 1; have hlt5 := HD5.out.blk.lt; have HS5 := Lib.hid (names7_small s5 hs5); have q55 := (((Ext.refl w5).alloc (.cells #[.bool ((z4 : Int) == 0), .string s5] 33)).cells.1 _ 1 hlt5).trans q5; clear hr5 he5)
    | (refine step_appK (o := ⟨some 29, _, _, _, _, _⟩) (k := kTerm) (S := None) (T := None) (base := w.heap.size + 2) (xs := ts) (ys := [⟨((z4 : Int) == 0), s5⟩]) (by rfl) (.tmp 20) (.tmp 28) 24 (by rfl) i0 _ 24 Tryz.underlying24 hi0 hz0 hz1 hz2 (by rfl) (by rfl) (HD5.out.own.ext ((Ext.refl _).alloc _)) _ 1 1 (by rfl) (ElemsK.one (k := kTerm) (x := ⟨((z4 : Int) == 0), s5⟩) (Blk.new w5 33 #[.bool ((z4 : Int) == 0), .string s5]) ⟨rfl, by have := HS5.out; show s5.size ≤ maxLen; unfold maxLen; omega⟩) (fun _ h _ => h) (fun _ _ h => h) (maxOf (by have := HN.out; omega)) (by have := HN.out; omega) (by have := HD5.out.lo; go_size) ?_; intro v6 w6 hap; obtain ⟨A6, n6, c6, rfl, hn6, ha6, hc6⟩ := hap.own.form2; have HAP := Lib.hid hap; have hb6 := HD5.out.kept ((Ext.refl _).alloc _) hap; have q6 := hb6.cell 1; have f6 := hb6.frozen 1; have hlt6 := hb6.lt; clear hap hb6))
   all_goals
    have HD7 := Lib.hid (HD5.out.more hrl ((Ext.refl _).alloc _) HAP.out (by have := HN.out; show ts.length ≤ 5; omega) HS5.out)
    clear p1 q4 q5 q55
    have p0 := HD7.out.blk.cell 0
    have p1 := HD7.out.blk.cell 1
    obtain ⟨c7, hc7, hb7⟩ := HD7.out.res
    obtain ⟨⟨u0, r0⟩, g0⟩ := hb7.ready (i := 0) (by omega)
    obtain ⟨⟨u1, r1⟩, g1⟩ := hb7.ready (i := 1) (by omega)
    go_wp2
    refine bodyPost_ret (v := .agg #[.string s, .slice A6 n6 c6]) (by simp [results, Tryz.results72, go_sem, r0, r1]) rfl ?_
    obtain ⟨e1, e2, e3, e4⟩ := HD7.out.out hrl (.string s) (.slice A6 n6 c6)
    exact ⟨⟨⟨s, ts ++ [⟨((z4 : Int) == 0), s5⟩]⟩, _, rfl, e1, e2⟩, e3.le (by omega), e4⟩
 · -- many terms
   clear p0 p1 f0 f1 r0 r1 g0 g1 hb0 hb0l
   simp only [show ((z : Int) == 0) = false from by assumption, show ((z : Int) == 1) = false from by assumption, show ((z : Int) == 2) = true from by assumption]
   go_loopg [] (6 - ts.length) (fun gk wr => ∃ (l : List GT) (A : Option Addr) (n c : Nat), gk = 6 - l.length ∧ l.length ≤ 5 ∧ Hid (n = l.length) ∧ Hid (Drawn w wr rb (m + 8 + l.length) w2.heap.size ⟨s, l⟩ (.slice A n c)) ∧ n ≤ c ∧ c ≤ 9223372036854775807)
   case atStart => exact ⟨ts, A, n, c, rfl, by have := HN.out; omega, Lib.hid HN.out.1, Lib.hid (HD3.out.le (by omega)), hc1, hc2⟩
   case round =>
    obtain ⟨l, A, n, c, rfl, hl5, hn, hd, hc1, hc2⟩ := hrel
    have p0 := hd.out.blk.cell 0
    have p1 := hd.out.blk.cell 1
    have hltr := hd.out.blk.lt
    have hn0 : (0 : Int) ≤ (n : Int) := by omega
    go_wp2_with (fail)
    go_region_law (go_simp; go_at_call 60; refine (rdPick_any rb (m + 8 + l.length) 2 _ (by omega) (hd.out.rd.ext (Ext.refl _).drew) (by omega)).mono ?_; rintro e w4 ⟨⟨z4, hz4, rfl⟩, hr4, he4⟩; have HD4 := Lib.hid (hd.out.else_ hrl ((Else.of_ext (rb := rb) (Ext.refl wr).drew).trans' he4) hr4); have q4 := HD4.out.blk.cell 1; have hlt4 := HD4.out.blk.lt; have hz40 : (0 : Int) ≤ (z4 : Int) := (by omega); have hz41 : (z4 : Int) ≤ 1 := (by omega); have hw4 : IntKind.i64.wrap (3 + (z4 : Int)) = 3 + (z4 : Int) := (by rw [IntKind.wrap_i64]; omega); clear hr4 he4)
    all_goals
     by_cases hlt : (n : Int) < 3 + (z4 : Int)
     · have hgt : decide ((n : Int) < 3 + (z4 : Int)) = true := decide_eq_true hlt
       have hn4 : n ≤ 3 := by omega
       have q41 := ((Ext.refl w4).alloc (.cells #[.bool false, .string ⟨#[97]⟩] 33)).cells.1 _ 1 hlt4 |>.trans q4
       go_wp2_with (first
        | (at_builtin; refine wpList_appK (k := kTerm) (S := None) (T := None) (base := w.heap.size + 2) (xs := l) (ys := [⟨false, ⟨#[97]⟩⟩]) rfl (.tmp 41) (.tmp 43) 24 (by rfl) i0 _ 24 Tryz.underlying24 hi0 hz0 hz1 hz2 (by rfl) (by rfl) (HD4.out.own.ext ((Ext.refl _).alloc _)) _ 1 1 (by rfl) (ElemsK.one (k := kTerm) (x := ⟨false, ⟨#[97]⟩⟩) (Blk.new w4 33 #[.bool false, .string ⟨#[97]⟩]) ⟨rfl, by show 1 ≤ maxLen; unfold maxLen; omega⟩) (fun _ h _ => h) (fun _ _ h => h) (maxOf (by omega)) (by omega) (by have := HD4.out.lo; go_size) ?_
           intro v6 w6 hap
           obtain ⟨A6, n6, c6, rfl, hn6, ha6, hc6⟩ := hap.own.form2
           have HAP := Lib.hid hap
           have HN6 := Lib.hid hn6.out
           have hb6 := HD4.out.kept ((Ext.refl _).alloc _) hap
           have q6 := hb6.cell 1
           have f6 := hb6.frozen 1
           have hlt6 := hb6.lt
           clear hap hb6 hn6))
       go_roundg (6 - (l.length + 1))
       case rel =>
        have hll : l.length ≤ 3 := by have := hn.out; omega
        exact ⟨l ++ [⟨false, ⟨#[97]⟩⟩], A6, n6, c6, by simp, by simp; omega, HN6, Lib.hid ((HD4.out.more hrl ((Ext.refl _).alloc _) HAP.out (by show l.length ≤ 5; omega) (by show 1 ≤ 9; omega)).le (by simp; omega)), ha6, hc6⟩
       case measure => have := hn.out; omega
     · have hgt : decide ((n : Int) < 3 + (z4 : Int)) = false := decide_eq_false hlt
       have p0' := HD4.out.blk.cell 0
       obtain ⟨c0, hc0, hb0⟩ := HD4.out.res
       obtain ⟨⟨u0, r0⟩, g0⟩ := hb0.ready (i := 0) (by omega)
       obtain ⟨⟨u1, r1⟩, g1⟩ := hb0.ready (i := 1) (by omega)
       go_wp2
       refine bodyPost_ret (v := .agg #[.string s, .slice A n c]) (by simp [results, Tryz.results72, go_sem, r0, r1]) rfl ?_
       obtain ⟨e1, e2, e3, e4⟩ := HD4.out.out hrl (.string s) (.slice A n c)
       exact ⟨⟨⟨s, l⟩, _, rfl, e1, e2⟩, e3.le (by omega), e4⟩
 · -- as it is
   refine bodyPost_ret (v := .agg #[.string s, .slice A n c]) (by simp [results, Tryz.results72, go_sem, r0, r1]) rfl ?_
   obtain ⟨e1, e2, e3, e4⟩ := HD3.out.out hrl (.string s) (.slice A n c)
   exact ⟨⟨⟨s, ts⟩, _, rfl, e1, e2⟩, e3.le (by omega), e4⟩

end Go.Proofs.YtfjdijakgjhieaaGreat

namespace Go.Proofs.YtfjdijakgjhieaaGreat
open Go.RowKit

/-- Drawn atoms are small. -/
def small (a : GA) : Prop := a.n.size ≤ 8 ∧ tiny a.args
def smalls (xs : List GA) : Prop := ∀ x ∈ xs, small x
theorem putA_mem {xs : List GA} {a x : GA} (h : x ∈ putA xs a) : x ∈ xs ∨ x = a := by
 unfold putA at h
 split at h
 · exact .inl h
 · simp only [List.mem_append, List.mem_singleton] at h
   rcases h with (h | h) | h
   · exact .inl (List.mem_of_mem_take h)
   · exact .inr h
   · exact .inl (List.mem_of_mem_drop h)
theorem putA_len (xs : List GA) (a : GA) : (putA xs a).length ≤ xs.length + 1 := by
 unfold putA
 split
 · omega
 · simp only [List.length_append, List.length_take, List.length_drop, List.length_cons, List.length_nil]; omega
theorem smalls_put {xs : List GA} {a : GA} (h : smalls xs) (ha : small a) : smalls (putA xs a) := fun x hx => by
 rcases putA_mem hx with h1 | rfl
 · exact h x h1
 · exact ha
theorem Else.from_ {a b : World} {rb N : Nat} (h : Else rb a b) (hr : rb < N) : Agree (From N) a b := fun i hi hlt => h.agree i (fun e => by subst e; exact absurd hr (Nat.not_lt.2 hi)) hlt

theorem OwnK.else_ {α : Type} {k : Kind α} {S : Nat → Prop} {w w' : World} {v : Value} {xs : List α} {base rb : Nat} {e : TypeId} (h : OwnK k base e S w v xs) (he : Else rb w w') (hb : rb < base) (hS : ¬ S rb) : OwnK k base e S w' v xs :=
 h.agree (fun b hb' hlt => he.agree b (fun e => hS (e ▸ hb')) hlt) (fun g hg => he.agree g (fun e => by have := (h.at_ g hg).1; omega) (h.at_ g hg).2) he.size

set_option maxRecDepth 100000 in
set_option maxHeartbeats 2000000 in
theorem l10FactsK_any (rb m most : Nat) (w : World) (hr : Rd w rb m) (hm : 1 ≤ most ∧ most ≤ 100) (hp : m + 1 + 7 * most ≤ 1000000) :
 Calls Tryz.prog 63 #[.pointer (some ⟨rb, 0, none⟩), .int .i64 most] w fun e w' =>
  (∃ (v : Value) (xs : List GA), e = .returned v ∧ OwnK kAtom w.heap.size 26 (From w.heap.size) w' v xs ∧ xs.length ≤ most ∧ smalls xs) ∧ Rd w' rb (m + 1 + 7 * most) ∧ Else rb w w' := by
 have hrl := hr.lt
 have HR := Lib.hid hr
 obtain ⟨hm1, hm2⟩ := hm
 clear hr
 go_enter Tryz.func63, Tryz.ntmps63
 go_wp2_with (go_at_call 60; refine (rdPick_any rb m most _ ⟨hm1, by omega⟩ (HR.out.ext ((Ext.refl _).alloc _)) (by omega)).mono ?_; rintro e w1 ⟨⟨z, hz, rfl⟩, hr1, he1⟩; have HO1 := Lib.hid ((OwnK.empty (k := kAtom) (S := From w.heap.size) (base := w.heap.size) (e := 26) (w := w) rfl (Nat.le_refl _)).else_ he1 (by omega) (fun h => absurd (show w.heap.size ≤ rb from h) (by omega))); have HR1 := Lib.hid hr1; have HE1 := Lib.hid ((Else.of_ext (rb := rb) ((Ext.refl w).alloc (.cells #[] 26))).trans' he1); clear hr1 he1)
 go_loopw [5, 6] (fun v i wr => ∃ (k M : Nat) (xs : List GA), i = .int .i64 k ∧ k ≤ most ∧ xs.length + k ≤ most ∧ M + 7 * k ≤ m + 1 + 7 * most ∧ Hid (OwnK kAtom w.heap.size 26 (From w.heap.size) wr v xs) ∧ Hid (smalls xs) ∧ Hid (Rd wr rb M) ∧ Hid (Else rb w wr)) (fun _ i _ => (intOf i).toNat)
 case atStart =>
  refine ⟨z, m + 1, [], rfl, by omega, by simp; omega, by omega, HO1, fun x hx => by simp at hx, HR1, HE1⟩
 case round =>
  obtain ⟨k, M, xs, rfl, hk, hxs, hM, hv, hsm, hrd, hel⟩ := hrel
  obtain ⟨A, c, rfl, hc1, hc2⟩ := hv.out.form
  have hsz := hel.out.size
  have HL := Lib.hid (hv.out.list (S' := From w.heap.size) (fun _ h => h) (fun _ h => h))
  by_cases hk0 : 0 < k
  · go_wp2_with (first
      | (go_at_call 73; refine (l10Fact_any rb M _ hrd.out (by omega)).mono ?_; rintro e w2 ⟨⟨a, u, rfl, hu, ha1, ha2⟩, hr2, he2⟩; obtain ⟨B, d, rfl, hd1, hd2⟩ := SliceR.form hu; have HU := Lib.hid hu; have HR2 := Lib.hid hr2; have HE2 := Lib.hid he2; have HS := Lib.hid (show small a from ⟨ha1, ha2⟩); clear hu hr2 he2 ha2)
      | (go_at_call 93; refine (l3Put_own (S := From w.heap.size) (T := From w.heap.size) _ _ xs a _ (AtomsR.imp HL.out (fun _ h => h) (HE2.out.from_ hrl) HE2.out.size) (TermsR.sub HU.out (fromLe (by omega))) (maxOf (by omega)) (by omega)).mono ?_; rintro e w3 ⟨⟨v3, rfl, hv3⟩, hx3⟩; have HV3 := Lib.hid (show OwnK kAtom w.heap.size 26 (From w.heap.size) w3 v3 (putA xs a) from by
          rcases hv3 with hv3 | ⟨rfl, h3⟩
          · exact hv3.sub (Nat.le_trans hsz HE2.out.size) (fun b hb => hb.elim id id)
          · rw [h3]; exact (hv.out.else_ HE2.out hrl (fun h => absurd (show w.heap.size ≤ rb from h) (by omega))).ext hx3); have HX3 := Lib.hid hx3; clear hv3 hx3))
    go_roundw
    case rel =>
     have := putA_len xs a
     exact ⟨k - 1, M + 7, putA xs a, by congr 1; omega, by omega, by omega, by omega, HV3, Lib.hid (smalls_put hsm.out HS.out), Lib.hid (HR2.out.ext HX3.out), Lib.hid ((hel.out.trans' HE2.out).trans' (Else.of_ext HX3.out))⟩
    case measure => simp [intOf]; omega
  · go_wp2
    go_ret
    exact ⟨⟨_, xs, rfl, hv.out, by omega, hsm.out⟩, hrd.out.le (by omega), hel.out⟩

end Go.Proofs.YtfjdijakgjhieaaGreat
