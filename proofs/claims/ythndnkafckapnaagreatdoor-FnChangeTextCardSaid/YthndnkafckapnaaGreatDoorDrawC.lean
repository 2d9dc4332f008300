/- The walk of the draws: l10Atom. -/
import Derived.Test.YthndnkafckapnaaGreatDoorDrawB
import Derived.Test.YthndnkafckapnaaGreatDoorOwn
import Derived.Test.YthndnkafckapnaaGreatDoorTo
import Derived.Deep.RegionLaw
namespace Go.Proofs.YthndnkafckapnaaGreatDoor
open Go.RowKit

theorem own_form {w : World} {base : Nat} {e : TypeId} {size : Nat} {v : Value} {n : Nat} {rows : List Value} (h : w.ownsRow base e size v n rows) : ∃ A c, v = .slice A n c := by
  rcases h.2 with ⟨rfl, rfl⟩ | ⟨g, cap, cur, rfl, _⟩
  · exact ⟨_, _, rfl⟩
  · exact ⟨_, _, rfl⟩
theorem own_else {w w' : World} {base rb : Nat} {e : TypeId} {size : Nat} {v : Value} {n : Nat} {rows : List Value} (h : w.ownsRow base e size v n rows) (he : Else rb w w') (hb : rb < base) : w'.ownsRow base e size v n rows :=
  h.kept he (by
    cases hv : v.ownBlock with
    | none => exact .inl rfl
    | some g => right; intro e; injection e with e; have := (h.lt g hv).1; omega)
theorem own_ext {w w' : World} {base : Nat} {e : TypeId} {size : Nat} {v : Value} {n : Nat} {rows : List Value} (h : w.ownsRow base e size v n rows) (he : Ext w w') : w'.ownsRow base e size v n rows :=
  h.kept (row := none) ⟨he.os, he.tape, he.output, he.size, fun k hk _ => he.block k hk⟩ (by
    cases hv : v.ownBlock with
    | none => exact .inl rfl
    | some g => right; simp)

theorem own_far {w w' : World} {base : Nat} {e : TypeId} {size : Nat} {v : Value} {n : Nat} {rows : List Value} (h : w.ownsRow base e size v n rows) (hg : w.grownBy w' v.ownBlock) (a : Addr) (ha : a.block < base) (hlt : a.block < w.heap.size) : w'.cell? a = w.cell? a :=
  hg.cell_far a hlt (by
    cases hv : v.ownBlock with
    | none => simp
    | some g => intro e; injection e with e; have := (h.lt g hv).1; omega)
/-- What an append to an own row leaves of a block below it. -/
theorem own_blk {w w' : World} {base : Nat} {e : TypeId} {size : Nat} {v : Value} {n : Nat} {rows : List Value} (h : w.ownsRow base e size v n rows) (hg : w.grownBy w' v.ownBlock) {g : Nat} {t : TypeId} {cs : Array Value} (hb : Blk w g t cs) (ha : g < base) : Blk w' g t cs :=
  (hg.block g hb.lt (by
    cases hv : v.ownBlock with
    | none => simp
    | some g => intro e; injection e with e; have := (h.lt g hv).1; omega)).trans hb
/-- An append to an own row leaves what lies below it. -/
theorem own_below {w0 w w' : World} {base : Nat} {e : TypeId} {size : Nat} {v : Value} {n : Nat} {rows : List Value} (h : w.ownsRow base e size v n rows) (hg : w.grownBy w' v.ownBlock) (hb : w0.heap.size ≤ base) (hx : Ext w0 w) : Ext w0 w' :=
  ⟨hg.os.trans hx.os, hg.tape.trans hx.tape, hg.output.trans hx.output, Nat.le_trans hx.size hg.size, fun k hk => (hg.block k (Nat.lt_of_lt_of_le hk hx.size) (by
    cases hv : v.ownBlock with
    | none => simp
    | some g => intro e; injection e with e; have := (h.lt g hv).1; omega)).trans (hx.block k hk)⟩

theorem Blk.else_ {w w' : World} {rb g : Nat} {t : TypeId} {cs : Array Value} (h : Blk w g t cs) (he : Else rb w w') (hne : g ≠ rb) : Blk w' g t cs := (he.agree g hne h.lt).trans h

def tiny (ts : List GT) : Prop := ts.length ≤ 3 ∧ ∀ t ∈ ts, t.n.size ≤ 8

theorem own_agree {w w' : World} {base : Nat} {e : TypeId} {size : Nat} {v : Value} {n : Nat} {rows : List Value} {S : Nat → Prop} (h : w.ownsRow base e size v n rows) (hg : w.grownBy w' v.ownBlock) (hS : ∀ b, S b → b < base) : Agree S w w' := fun b hb hlt =>
  hg.block b hlt (by
    cases hv : v.ownBlock with
    | none => simp
    | some g => intro e; injection e with e; have := (h.lt g hv).1; have := hS b hb; omega)

/-- An atom that is being drawn: its row, its block, the reader. -/
def AtomInv (w wr : World) (rb M : Nat) (name : ByteArray) (ts : List GT) (rows : List Value) (v : Value) (c0 : Array Value) : Prop :=
  c0.size = 2 ∧ Blk wr w.heap.size 67 c0 ∧ Blk wr (w.heap.size + 1) 67 #[.string name, v] ∧ wr.ownsRow (w.heap.size + 2) 125 2 v ts.length rows ∧ RowsE 2 TermE wr rows ts ∧ tiny ts ∧ Rd wr rb M ∧ Else rb w wr

theorem AtomInv.le {w wr : World} {rb M N : Nat} {name : ByteArray} {ts : List GT} {rows : List Value} {v : Value} {c0 : Array Value} (h : AtomInv w wr rb M name ts rows v c0) (hM : M ≤ N) : AtomInv w wr rb N name ts rows v c0 :=
  ⟨h.1, h.2.1, h.2.2.1, h.2.2.2.1, h.2.2.2.2.1, h.2.2.2.2.2.1, h.2.2.2.2.2.2.1.le hM, h.2.2.2.2.2.2.2⟩
/-- What is left when the atom has been drawn. -/
theorem atom_end {w wr : World} {rb M : Nat} {name : ByteArray} {ts : List GT} {rows : List Value} {v : Value} {c0 : Array Value} (h : AtomInv w wr rb M name ts rows v c0) (hrl : rb < w.heap.size) (x y : Value) :
    TermsR (From w.heap.size) ((wr.setCell ⟨w.heap.size, 0, none⟩ x).setCell ⟨w.heap.size, 1, none⟩ y) v ts ∧ Rd ((wr.setCell ⟨w.heap.size, 0, none⟩ x).setCell ⟨w.heap.size, 1, none⟩ y) rb M ∧ Else rb w ((wr.setCell ⟨w.heap.size, 0, none⟩ x).setCell ⟨w.heap.size, 1, none⟩ y) := by
  obtain ⟨h1, h2, h3, h4, h5, h6, h7, h8⟩ := h
  have hA : ∀ S : Nat → Prop, (¬ S w.heap.size) → Agree S wr ((wr.setCell ⟨w.heap.size, 0, none⟩ x).setCell ⟨w.heap.size, 1, none⟩ y) := fun S hS => ((Agree.refl _ _).setCell hS _).setCell hS _
  refine ⟨?_, h7.keep (hA _ (by simp; omega)) (by go_size), ?_⟩
  · have := own_slice h4 h5 rfl
    exact TermsR.imp (S := From (w.heap.size + 2)) (w := wr) this (fromLe (by omega)) (hA _ (by simp)) (by go_size)
  · refine ⟨h8.os, h8.tape, h8.output, by have := h8.size; go_size, fun k hk hne => ?_⟩
    exact (hA (fun b => b < w.heap.size) (by simp) k hk (Nat.lt_of_lt_of_le hk h8.size)).trans (h8.block k hk hne)

theorem atom_step {w wr w2 w3 : World} {rb M M' g cap : Nat} {name s : ByteArray} {ts : List GT} {rows : List Value} {v : Value} {c0 : Array Value} {b : Bool} {o : Obj}
    (h : AtomInv w wr rb M name ts rows v c0) (hrl : rb < w.heap.size) (hq2 : Else rb wr w2) (hr2 : Rd w2 rb M') (hs : s.size ≤ 8) (hl : ts.length + 1 ≤ 3)
    (hown3 : w3.ownsRow (w.heap.size + 2) 125 2 (.slice (some ⟨g, 0, none⟩) (ts.length + 1) cap) (ts.length + 1) (rows ++ [.bool b, .string s])) (hgrow3 : (w2.alloc o).grownBy w3 v.ownBlock) :
    AtomInv w (w3.setCell ⟨w.heap.size + 1, 1, none⟩ (.slice (some ⟨g, 0, none⟩) (ts.length + 1) cap)) rb M' name (ts ++ [⟨b, s⟩]) (rows ++ [.bool b, .string s]) (.slice (some ⟨g, 0, none⟩) (ts.length + 1) cap) c0 := by
  obtain ⟨h1, h2, h3, h4, h5, h6, h7, h8⟩ := h
  have ho := own_ext (own_else h4 hq2 (by omega)) ((Ext.refl w2).alloc o)
  have hA : ∀ S : Nat → Prop, (∀ b, S b → b < w.heap.size) → Agree S w2 (w3.setCell ⟨w.heap.size + 1, 1, none⟩ (.slice (some ⟨g, 0, none⟩) (ts.length + 1) cap)) := fun S hS =>
    (((Agree.of_ext ((Ext.refl w2).alloc o)).trans' (own_agree ho hgrow3 (fun b hb => by have := hS b hb; omega)) (by go_size)).setCell (fun hb => by have := hS _ hb; simp at this; omega) _)
  have hz2 := hq2.size
  have hz3 := hgrow3.size
  have hz : w2.heap.size ≤ w3.heap.size := by have : w2.heap.size ≤ (w2.alloc o).heap.size := by go_size
                                              omega
  have hw := h8.size
  refine ⟨h1, ?_, ?_, ?_, ?_, ?_, ?_, ?_⟩
  · exact (own_blk ho hgrow3 ((h2.else_ hq2 (by omega)).alloc o) (by omega)).far (by simp) _
  · have := (own_blk ho hgrow3 ((h3.else_ hq2 (by omega)).alloc o) (by omega)).set_ 1 (.slice (some ⟨g, 0, none⟩) (ts.length + 1) cap)
    simpa using this
  · have := ownsRow_setCell_below hown3 (a := ⟨w.heap.size + 1, 1, none⟩) (by simp) (.slice (some ⟨g, 0, none⟩) (ts.length + 1) cap)
    simpa using this
  · exact (RowsE.mono (E' := TermE) (w' := w3.setCell ⟨w.heap.size + 1, 1, none⟩ (.slice (some ⟨g, 0, none⟩) (ts.length + 1) cap)) h5 (fun _ _ _ h => h)).append (RowsE.one rfl ⟨rfl, show s.size ≤ maxLen from by unfold maxLen; omega⟩)
  · refine ⟨by simp; omega, fun t ht => ?_⟩
    rcases List.mem_append.1 ht with ht | ht
    · exact h6.2 t ht
    · simp at ht; subst ht; exact hs
  · exact hr2.keep (hA _ (fun b hb => by omega)) (by go_size)
  · have hE := h8.trans' hq2
    refine ⟨hgrow3.os.trans hE.os, hgrow3.tape.trans hE.tape, hgrow3.output.trans hE.output, by go_size, fun k hk hne => ?_⟩
    exact (hA (fun b => b < w.heap.size) (fun _ h => h) k hk (by omega)).trans (hE.block k hk hne)

set_option maxRecDepth 100000 in
set_option maxHeartbeats 4000000 in
theorem l10AtomNo_any (rb m : Nat) (name : ByteArray) (w : World) (hs : name.size ≤ 1000) (hr : Rd w rb m) (hp : m + 6 ≤ 1000000) :
    Calls Tryz.prog 118 #[.pointer (some ⟨rb, 0, none⟩), .string name, .bool false] w fun e w' =>
      (∃ v ts, e = .returned (.agg #[.string name, v]) ∧ TermsR (From w.heap.size) w' v ts ∧ tiny ts) ∧ Rd w' rb (m + 6) ∧ Else rb w w' := by
  have hrl := hr.lt
  have HR := Lib.hid hr
  obtain ⟨i0, hi0, hz0, hz1, hz2⟩ := info_parts term_info
  clear hr
  go_enter Tryz.func118, Tryz.ntmps118
  go_wp2_with (go_at_call 154; refine (l10Args_any name _).mono ?_; rintro e w1 ⟨⟨z, hz, rfl⟩, rfl⟩)
  go_loopw [8] (fun i wr => ∃ (k : Nat) (ts : List GT) (rows : List Value) (v : Value) (c0 : Array Value), i = .int .i64 k ∧ k + ts.length ≤ 3 ∧ Hid (AtomInv w wr rb (m + 2 * ts.length) name ts rows v c0)) (fun i _ => (intOf i).toNat)
  case atStart =>
    refine ⟨z, [], [], .slice none 0 0, #[.string ByteArray.empty, .slice none 0 0], rfl, by simpa using hz, rfl, ?_, ?_, ?_, RowsE.nil, ⟨by simp, by simp⟩, ?_, ?_⟩
    · exact (Blk.new w _ _).alloc _
    · simpa using Blk.new (w.alloc (.cells #[.string ⟨#[]⟩, .slice none 0 0] 67)) 67 #[.string name, .slice none 0 0]
    · exact World.ownsRow_nil _ _ _ _
    · exact (HR.out.ext (((Ext.refl _).alloc _).alloc _)).le (by omega)
    · exact Else.of_ext (((Ext.refl _).alloc _).alloc _)
  case round =>
    obtain ⟨k, ts, rows, v, c0, rfl, hk, hh⟩ := hrel
    obtain ⟨A, c, rfl⟩ := own_form hh.out.2.2.2.1
    by_cases hk0 : 0 < k
    · have q0 := hh.out.2.1.cell 0
      have q1 := hh.out.2.2.1.cell 1
      have hb1 := hh.out.2.2.1.lt
      go_wp2
      go_region_law (first
          | (go_simp; go_at_call 156; refine (l10Word_any rb (m + 2 * ts.length) _ (hh.out.2.2.2.2.2.2.1.ext (Ext.refl _).drew) (by omega)).mono ?_; rintro e w2 ⟨⟨s, hs, rfl⟩, hr2, he2⟩; have hq2 := (Else.of_ext (rb := rb) (Ext.refl wr).drew).trans' he2; have q2 := (hq2.cell (o := 1) (show w.heap.size + 1 ≠ rb from by omega) hb1).trans q1; have hb2 := cell_lt q2; have q3 := (((Ext.refl w2).alloc (.cells #[.bool false, .string s] 125)).cells.1 _ 1 hb2).trans q2)
          | (refine step_append_lies _ (by rfl) (.tmp 32) (.tmp 36) 65 (by rfl) (w.heap.size + 2) 125 i0 _ 2 24 Tryz.underlying65 hi0 hz0 hz1 hz2 rfl (by decide) (.slice A ts.length c) ts.length rows (by rfl) (own_ext (own_else hh.out.2.2.2.1 hq2 (by omega)) ((Ext.refl _).alloc _)) ⟨w2.heap.size, 0, none⟩ 1 1 [.bool false, .string s] (by rfl) rfl (World.news_of_block (heap_alloc_new _ _)) (by simp; exact ⟨rfl, rfl⟩) (by omega) (by unfold maxLen; omega) (by omega) (by go_size) (w2.heap.size + 1) (by simp) ?_; intro g cap w3 hown3 hgrow3 hat3 hlt3; have hown2 := own_ext (own_else hh.out.2.2.2.1 hq2 (by omega)) ((Ext.refl _).alloc (.cells #[.bool false, .string s] 125)); have q4 := (own_far hown2 hgrow3 ⟨w.heap.size + 1, 1, none⟩ (by simp) (by simp; omega)).trans q3; have hb4 := own_blk hown2 hgrow3 (((hh.out.2.2.1.else_ hq2 (by omega)).alloc (.cells #[.bool false, .string s] 125))) (by omega); have f4 := hb4.frozen 1))
      all_goals (go_wp2; go_roundw)
      all_goals try (simp [intOf]; omega)
      all_goals refine ⟨k - 1, ts ++ [⟨false, s⟩], rows ++ [.bool false, .string s], _, c0, by congr 1; omega, by simp; omega, Lib.hid ((atom_step (b := false) hh.out hrl hq2 hr2 hs (by omega) ?_ hgrow3).le (by rw [List.length_append]; simp; omega))⟩
      all_goals exact hown3
    · have q0 := hh.out.2.2.1.cell 0
      have q1 := hh.out.2.2.1.cell 1
      have hc0 := hh.out.1
      obtain ⟨⟨u0, p0⟩, f0⟩ := hh.out.2.1.ready (i := 0) (by omega)
      obtain ⟨⟨u1, p1⟩, f1⟩ := hh.out.2.1.ready (i := 1) (by omega)
      go_wp2
      refine bodyPost_ret (v := .agg #[.string name, .slice A ts.length c]) (by simp [results, Tryz.results118, go_sem, p0, p1]) rfl ?_
      obtain ⟨e1, e2, e3⟩ := atom_end hh.out hrl (.string name) (.slice A ts.length c)
      exact ⟨⟨_, ts, rfl, e1, hh.out.2.2.2.2.2.1⟩, e2.le (by have := hh.out.2.2.2.2.2.1.1; omega), e3⟩

end Go.Proofs.YthndnkafckapnaaGreatDoor
