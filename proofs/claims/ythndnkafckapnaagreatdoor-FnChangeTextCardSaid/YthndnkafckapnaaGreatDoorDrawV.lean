/- The walk of the draws: l10Atom with variables. -/
import Derived.Test.YthndnkafckapnaaGreatDoorDrawC
namespace Go.Proofs.YthndnkafckapnaaGreatDoor
open Go.RowKit

theorem atom_own {w wr : World} {rb M : Nat} {name : ByteArray} {ts : List GT} {rows : List Value} {v : Value} {c0 : Array Value} (h : AtomInv w wr rb M name ts rows v c0) (x y : Value) :
    OwnK kTerm (w.heap.size + 2) 125 None ((wr.setCell ⟨w.heap.size, 0, none⟩ x).setCell ⟨w.heap.size, 1, none⟩ y) v ts := by
  obtain ⟨h1, h2, h3, h4, h5, h6, h7, h8⟩ := h
  exact ⟨rows, fun _ => False, ownsRow_setCell_below (ownsRow_setCell_below h4 (a := ⟨w.heap.size, 0, none⟩) (by simp) x) (a := ⟨w.heap.size, 1, none⟩) (by simp) y, RowsE.mono (E' := TermE) h5 (fun _ _ _ h => h), fun _ h => h.elim, fun _ _ h => h⟩

set_option maxRecDepth 100000 in
set_option maxHeartbeats 4000000 in
theorem l10AtomVars_any (rb m : Nat) (name : ByteArray) (w : World) (hs : name.size ≤ 1000) (hr : Rd w rb m) (hp : m + 6 ≤ 1000000) :
    Calls Tryz.prog 118 #[.pointer (some ⟨rb, 0, none⟩), .string name, .bool true] w fun e w' =>
      (∃ v ts, e = .returned (.agg #[.string name, v]) ∧ OwnK kTerm (w.heap.size + 2) 125 None w' v ts ∧ tiny ts) ∧ Rd w' rb (m + 6) ∧ Else rb w w' := by
  have hrl := hr.lt
  have HR := Lib.hid hr
  obtain ⟨i0, hi0, hz0, hz1, hz2⟩ := info_parts term_info
  clear hr
  go_enter Tryz.func118, Tryz.ntmps118
  go_wp2_with (go_at_call 154; refine (l10Args_any name _).mono ?_; rintro e w1 ⟨⟨z, hz, rfl⟩, rfl⟩)
  go_loopw [8] (fun i wr => ∃ (k : Nat) (ts : List GT) (rows : List Value) (v : Value) (c0 : Array Value), i = .int .i64 k ∧ k + ts.length ≤ 3 ∧ Hid (AtomInv w wr rb (m + 2 * ts.length) name ts rows v c0)) (fun i _ => (intOf i).toNat)
  case atStart =>
    refine ⟨z, [], [], .slice none 0 0, #[.string ByteArray.empty, .slice none 0 0], rfl, by simpa using hz, rfl, ?_, ?_, ?_, RowsE.nil, ⟨by simp, by simp⟩, ?_, ?_⟩
    · exact (Blk.new w _ _).alloc _
    · simpa using Blk.new (w.alloc (.cells #[.string ⟨#[]⟩, .slice none 0 0] 67)) 67 #[.string name, .slice none 0 0]
    · exact World.ownsRow_nil _ _ _ _
    · exact (HR.out.ext (((Ext.refl _).alloc _).alloc _)).le (by omega)
    · exact Else.of_ext (((Ext.refl _).alloc _).alloc _)
  case round =>
    obtain ⟨k, ts, rows, v, c0, rfl, hk, hh⟩ := hrel
    obtain ⟨A, c, rfl⟩ := own_form hh.out.2.2.2.1
    by_cases hk0 : 0 < k
    · have q0 := hh.out.2.1.cell 0
      have q1 := hh.out.2.2.1.cell 1
      have hb1 := hh.out.2.2.1.lt
      have HP := Lib.hid (rdPick_any rb (m + 2 * ts.length) 6 wr (by omega) hh.out.2.2.2.2.2.2.1 (by omega))
      have hsplit : ∀ z : Nat, decide (0 < (z : Int)) = true ∨ decide (0 < (z : Int)) = false := fun z => by cases decide (0 < (z : Int)) <;> simp
      go_wp2_with (go_at_call 74; refine HP.out.mono ?_; rintro e w1 ⟨⟨z, hz, rfl⟩, hr1, he1⟩; have q10 := (he1.cell (o := 1) (show w.heap.size + 1 ≠ rb from by omega) hb1).trans q1; have hz1' := he1.size; have HR1 := Lib.hid hr1; have HE1 := Lib.hid he1; clear hr1 he1)
      · go_region_law (first
          | (go_simp; go_at_call 155; refine (l10Var_any rb (m + 2 * ts.length + 1) _ (HR1.out.ext (Ext.refl _).drew) (by omega)).mono ?_; rintro e w2 ⟨⟨s, hs, rfl⟩, hr2, he2⟩; have hq2 := HE1.out.trans' ((Else.of_ext (rb := rb) (Ext.refl w1).drew).trans' he2); have q2 := (hq2.cell (o := 1) (show w.heap.size + 1 ≠ rb from by omega) hb1).trans q1; have hb2 := cell_lt q2; have q3 := (((Ext.refl w2).alloc (.cells #[.bool true, .string s] 125)).cells.1 _ 1 hb2).trans q2)
          | (refine step_append_lies _ (by rfl) (.tmp 24) (.tmp 28) 65 (by rfl) (w.heap.size + 2) 125 i0 _ 2 24 Tryz.underlying65 hi0 hz0 hz1 hz2 rfl (by decide) (.slice A ts.length c) ts.length rows (by rfl) (own_ext (own_else hh.out.2.2.2.1 hq2 (by omega)) ((Ext.refl _).alloc _)) ⟨w2.heap.size, 0, none⟩ 1 1 [.bool true, .string s] (by rfl) rfl (World.news_of_block (heap_alloc_new _ _)) (by simp; exact ⟨rfl, rfl⟩) (by omega) (by unfold maxLen; omega) (by omega) (by go_size) (w2.heap.size + 1) (by simp) ?_; intro g cap w3 hown3 hgrow3 hat3 hlt3; have hown2 := own_ext (own_else hh.out.2.2.2.1 hq2 (by omega)) ((Ext.refl _).alloc (.cells #[.bool true, .string s] 125)); have q4 := (own_far hown2 hgrow3 ⟨w.heap.size + 1, 1, none⟩ (by simp) (by simp; omega)).trans q3; have hb4 := own_blk hown2 hgrow3 (((hh.out.2.2.1.else_ hq2 (by omega)).alloc (.cells #[.bool true, .string s] 125))) (by omega); have f4 := hb4.frozen 1))
        all_goals (go_wp2; go_roundw)
        all_goals try (simp [intOf]; omega)
        all_goals refine ⟨k - 1, ts ++ [⟨true, s⟩], rows ++ [.bool true, .string s], _, c0, by congr 1; omega, by simp; omega, Lib.hid ((atom_step (b := true) hh.out hrl hq2 hr2 hs (by omega) ?_ hgrow3).le (by rw [List.length_append]; simp; omega))⟩
        all_goals exact hown3
      · go_region_law (first
          | (go_simp; go_at_call 156; refine (l10Word_any rb (m + 2 * ts.length + 1) _ (HR1.out.ext (Ext.refl _).drew) (by omega)).mono ?_; rintro e w2 ⟨⟨s, hs, rfl⟩, hr2, he2⟩; have hq2 := HE1.out.trans' ((Else.of_ext (rb := rb) (Ext.refl w1).drew).trans' he2); have q2 := (hq2.cell (o := 1) (show w.heap.size + 1 ≠ rb from by omega) hb1).trans q1; have hb2 := cell_lt q2; have q3 := (((Ext.refl w2).alloc (.cells #[.bool false, .string s] 125)).cells.1 _ 1 hb2).trans q2)
          | (refine step_append_lies _ (by rfl) (.tmp 32) (.tmp 36) 65 (by rfl) (w.heap.size + 2) 125 i0 _ 2 24 Tryz.underlying65 hi0 hz0 hz1 hz2 rfl (by decide) (.slice A ts.length c) ts.length rows (by rfl) (own_ext (own_else hh.out.2.2.2.1 hq2 (by omega)) ((Ext.refl _).alloc _)) ⟨w2.heap.size, 0, none⟩ 1 1 [.bool false, .string s] (by rfl) rfl (World.news_of_block (heap_alloc_new _ _)) (by simp; exact ⟨rfl, rfl⟩) (by omega) (by unfold maxLen; omega) (by omega) (by go_size) (w2.heap.size + 1) (by simp) ?_; intro g cap w3 hown3 hgrow3 hat3 hlt3; have hown2 := own_ext (own_else hh.out.2.2.2.1 hq2 (by omega)) ((Ext.refl _).alloc (.cells #[.bool false, .string s] 125)); have q4 := (own_far hown2 hgrow3 ⟨w.heap.size + 1, 1, none⟩ (by simp) (by simp; omega)).trans q3; have hb4 := own_blk hown2 hgrow3 (((hh.out.2.2.1.else_ hq2 (by omega)).alloc (.cells #[.bool false, .string s] 125))) (by omega); have f4 := hb4.frozen 1))
        all_goals (go_wp2; go_roundw)
        all_goals try (simp [intOf]; omega)
        all_goals refine ⟨k - 1, ts ++ [⟨false, s⟩], rows ++ [.bool false, .string s], _, c0, by congr 1; omega, by simp; omega, Lib.hid ((atom_step (b := false) hh.out hrl hq2 hr2 hs (by omega) ?_ hgrow3).le (by rw [List.length_append]; simp; omega))⟩
        all_goals exact hown3
    · have q0 := hh.out.2.2.1.cell 0
      have q1 := hh.out.2.2.1.cell 1
      have hc0 := hh.out.1
      obtain ⟨⟨u0, p0⟩, f0⟩ := hh.out.2.1.ready (i := 0) (by omega)
      obtain ⟨⟨u1, p1⟩, f1⟩ := hh.out.2.1.ready (i := 1) (by omega)
      go_wp2
      refine bodyPost_ret (v := .agg #[.string name, .slice A ts.length c]) (by simp [results, Tryz.results118, go_sem, p0, p1]) rfl ?_
      obtain ⟨e1, e2, e3⟩ := atom_end hh.out hrl (.string name) (.slice A ts.length c)
      exact ⟨⟨_, ts, rfl, atom_own hh.out _ _, hh.out.2.2.2.2.2.1⟩, e2.le (by have := hh.out.2.2.2.2.2.1.1; omega), e3⟩

end Go.Proofs.YthndnkafckapnaaGreatDoor
