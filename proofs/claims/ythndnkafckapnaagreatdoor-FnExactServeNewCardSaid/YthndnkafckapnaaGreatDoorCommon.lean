/- The walk of the program's common: whether two sorted lists share a fact. -/
import Derived.Test.YthndnkafckapnaaGreatDoorMerge
namespace Go.Proofs.YthndnkafckapnaaGreatDoor
open Go.RowKit Go.Shelf

attribute [local go_sem] Oper.semAt_some

set_option maxHeartbeats 400000 in
theorem merge_any (A B : Option Addr) (n c m d : Nat) (w : World) :
    Calls Tryz.prog 124 #[.agg #[.slice A n c, .func (.func 159) #[] #[]], .agg #[.slice B m d, .func (.func 159) #[] #[]]] w fun e w' =>
      e = .returned (.func (.func 160) #[] #[.pointer (some ⟨w.heap.size, 0, none⟩), .pointer (some ⟨w.heap.size + 1, 0, none⟩)]) ∧
      w' = (w.alloc (.cells #[.slice A n c, .func (.func 159) #[] #[]] 165)).alloc (.cells #[.slice B m d, .func (.func 159) #[] #[]] 165) := by
  go_enter Tryz.func124, Tryz.ntmps124
  go_wp2
  go_ret
  exact ⟨rfl, rfl⟩

theorem TermsR.low {S : Nat → Prop} {w : World} {v : Value} {xs : List GT} (h : TermsR S w v xs) : TermsR (fun b => b < w.heap.size) w v xs := by
  obtain ⟨A, c, hv, h1, h2, h3⟩ := h
  exact ⟨A, c, hv, h1, h2, fun h0 => let ⟨b, off, ha, hb, _, hc⟩ := h3 h0; ⟨b, off, ha, hb, hb, hc⟩⟩
theorem AtomsR.low {S : Nat → Prop} {w : World} {v : Value} {xs : List GA} (h : AtomsR S w v xs) : AtomsR (fun b => b < w.heap.size) w v xs := by
  obtain ⟨A, c, hv, h1, h2, h3⟩ := h
  exact ⟨A, c, hv, h1, h2, fun h0 => let ⟨b, off, ha, hb, _, hc⟩ := h3 h0; ⟨b, off, ha, hb, hb, fun i x hx => let ⟨cs, hl, hcs, u, e1, e2, e3⟩ := hc i x hx; ⟨cs, hl, hcs, u, e1, e2, e3.low⟩⟩⟩

def noBoth (L : List ME) : Bool := L.all fun e => !(e.s == 2)

set_option maxRecDepth 100000 in
set_option maxHeartbeats 4000000 in
theorem common_merge (v u : Value) (xs ys : List GA) (w : World) {S T : Nat → Prop} (hv : AtomsR S w v xs) (hu : AtomsR T w u ys) :
    ∃ ps qs : List P2, ps.map (·.1) = xs ∧ qs.map (·.1) = ys ∧
    Calls Tryz.prog 78 #[v, u] w fun e w' => e = .returned (.bool (!noBoth (mergeP ps qs))) ∧ Ext w w' := by
  obtain ⟨ps, hps, hp⟩ := hv.low.pairs
  obtain ⟨qs, hqs, hq⟩ := hu.low.pairs
  refine ⟨ps, qs, hps, hqs, ?_⟩
  clear hps hqs hv hu
  obtain ⟨A, c, rfl, hc1, hc2⟩ := SliceR.form hp
  obtain ⟨B, d, rfl, hd1, hd2⟩ := SliceR.form hq
  have HP := Lib.hid hp
  have HQ := Lib.hid hq
  clear hp hq
  refine (callsIn_wide (n := 5)).1 ?_
  refine callsIn_of_wp_marks Tryz.func78 rfl trivial ?_ rfl
  simp only [Tryz.ntmps78, List.size_toArray, List.length_cons, List.length_nil, Nat.reduceAdd, Nat.reduceSub, Array.replicate_succ, Array.replicate_zero, List.push_toArray, List.append_toArray, List.nil_append, List.cons_append]
  have tok : True := trivial
  gi_wp2_with (first
    | (refine ⟨trivial, ?_⟩; gi_at_call 122; have _t := tok; refine (callsIn_wide.2 (sorted_any _ _ _ _)).mono ?_; clear tok _t; rintro e w1 ⟨rfl, hx1⟩)
    | (refine ⟨trivial, ?_⟩; gi_at_call 122; refine (callsIn_wide.2 (sorted_any _ _ _ _)).mono ?_; rintro e w2 ⟨rfl, hx2⟩)
    | (refine ⟨trivial, ?_⟩; gi_at_call 124; refine (callsIn_wide.2 (merge_any _ _ _ _ _ _ _)).mono ?_; rintro e w3 ⟨rfl, rfl⟩))
  have hs1 := hx1.size
  have hs2 := hx2.size
  simp only [World.size_alloc] at hs1
  have hB0 : Ext w ((w2.alloc (.cells #[.slice A ps.length c, .func (.func 159) #[] #[]] 165)).alloc (.cells #[.slice B qs.length d, .func (.func 159) #[] #[]] 165)) :=
    (((((Ext.refl w).alloc _).trans' hx1).trans' hx2).alloc _).alloc _
  have hB1 : Ext (w.alloc (.cells #[.bool false] 4)) ((w2.alloc (.cells #[.slice A ps.length c, .func (.func 159) #[] #[]] 165)).alloc (.cells #[.slice B qs.length d, .func (.func 159) #[] #[]] 165)) :=
    ((hx1.trans' hx2).alloc _).alloc _
  have hr0 : Blk (w.alloc (.cells #[.bool false] 4)) w.heap.size 4 #[.bool false] := Blk.new _ _ _
  have hr1 := hr0.ext hB1
  have hb1 : Blk ((w2.alloc (.cells #[.slice A ps.length c, .func (.func 159) #[] #[]] 165)).alloc (.cells #[.slice B qs.length d, .func (.func 159) #[] #[]] 165)) w2.heap.size 165 #[.slice A ps.length c, .func (.func 159) #[] #[]] := (Blk.new _ _ _).alloc _
  have hb2 : Blk ((w2.alloc (.cells #[.slice A ps.length c, .func (.func 159) #[] #[]] 165)).alloc (.cells #[.slice B qs.length d, .func (.func 159) #[] #[]] 165)) (w2.heap.size + 1) 165 #[.slice B qs.length d, .func (.func 159) #[] #[]] := by
    have := Blk.new (w2.alloc (.cells #[.slice A ps.length c, .func (.func 159) #[] #[]] 165)) 165 #[.slice B qs.length d, .func (.func 159) #[] #[]]
    rwa [World.size_alloc] at this
  refine wpIn_rangeFunc_ownF (F := Fence.wide) rfl (by omega) (gf := 160) (lb := #[.pointer (some ⟨w2.heap.size, 0, none⟩), .pointer (some ⟨w2.heap.size + 1, 0, none⟩)]) rfl trivial (enters_of Tryz.func160 (by kernel_rfl) rfl)
    (merge1_stops 4 (by omega) w2.heap.size (w2.heap.size + 1) (fun b => b ≠ w.heap.size ∧ b < w2.heap.size + 2) _ _ _ ps qs ⟨by omega, by omega⟩ ⟨by omega, by omega⟩
      (hb1.cell 0) (hb1.cell 1) (hb2.cell 0) (HP.out.imp (fun b hb => ⟨by omega, by omega⟩) (.of_ext hB0) hB0.size) (HQ.out.imp (fun b hb => ⟨by omega, by omega⟩) (.of_ext hB0) hB0.size))
    KeepR.trans (fun W l o o' hl ho _ _ => ⟨by simp [World.putObj], fun b hb hlt => (grownBy_putObj' W l o').block b hlt (fun e => by injection e with e; simp only [World.size_alloc] at hl; omega)⟩) (Below.refl _ _) (fun _ => rfl)
    (fun pre W => (noBoth pre = true ∧ W.cell? ⟨w.heap.size, 0, none⟩ = some (.bool false) ∧ W.frozen? ⟨w.heap.size, 0, none⟩ = false) ∧ Below w.heap.size w W)
    (fun c pre W => (c = .ret ∧ noBoth pre = false ∧ W.cell? ⟨w.heap.size, 0, none⟩ = some (.bool true)) ∧ Below w.heap.size w W)
    (OwnFrom.and (Own.from (fun s A B row hs hg hr => ⟨hs.1, cell_kept hs.2.1 hg hr, (frozen_kept hs.2.1 hg hr).trans hs.2.2⟩) _) (ownFrom_below (Nat.le_refl _) hB0.size))
    (fun c => OwnFrom.and (Own.from (fun s A B row hs hg hr => ⟨hs.1, hs.2.1, cell_kept hs.2.2 hg hr⟩) _) (ownFrom_below (Nat.le_refl _) hB0.size))
    ⟨⟨rfl, hr1.cell 0, hr1.frozen 0⟩, hB0⟩
    (fun e => { tmps := #[.slice A ps.length c, .slice B qs.length d, undef, undef, .pointer (some ⟨w.heap.size, 0, none⟩), undef, .int .i64 e.s, .slice A ps.length c,
          .agg #[.slice A ps.length c, .func (.func 159) #[] #[]], .slice B qs.length d, .agg #[.slice B qs.length d, .func (.func 159) #[] #[]],
          .func (.func 160) #[] #[.pointer (some ⟨w2.heap.size, 0, none⟩), .pointer (some ⟨w2.heap.size + 1, 0, none⟩)], .agg #[.string e.x.n, e.v], .int .i64 e.s, undef, undef], defers := [] }) ?assign ?body ?done ?stop
  case assign =>
    intro l x W K hK
    simp only [encME]
    gi_wp2
    exact hK
  case body =>
    rintro l pre x W ⟨⟨hp, hcr, hfr⟩, hB⟩ _
    have HX := Lib.hid hp
    clear hp
    by_cases hs : x.s = 2
    · have h1 : ((x.s : Int) == 2) = true := by simp [hs]
      have HN := Lib.hid (show noBoth (pre ++ [x]) = false from by unfold noBoth; rw [List.all_append]; simp [hs])
      clear hs
      gi_wp2
      exact ⟨KeepsOthers.setCell _ _ _, ⟨rfl, HN.out, World.cell?_setCell_same' _ _ _ (by rw [hcr]; rfl)⟩, hB.setCell (p := ⟨w.heap.size, 0, none⟩) (Nat.le_refl _) _⟩
    · have h1 : ((x.s : Int) == 2) = false := by simp [hs]
      have HN := Lib.hid (show noBoth (pre ++ [x]) = true from by have := HX.out; unfold noBoth at this ⊢; rw [List.all_append, this]; simp [hs])
      clear hs
      gi_wp2
      exact ⟨KeepsOthers.refl _, ⟨Nat.le_refl _, .refl _ _⟩, ⟨HN.out, hcr, hfr⟩, hB⟩
  case done =>
    rintro D L W hD rfl ⟨⟨hne, hcr, hfr⟩, hB⟩ hK
    have HN := Lib.hid hne
    clear hne
    gi_wp2
    have hK' := (KeepsOthers.setCell W ⟨w.heap.size, 0, none⟩ (.bool false)).same D _ hK rfl
    refine ⟨by simp, .inl ⟨_, _, rfl, run_takeDeferred hK', ?_⟩⟩
    have hc5 := cell_kept (World.cell?_setCell_same' W ⟨w.heap.size, 0, none⟩ (.bool false) (by rw [hcr]; rfl)) (grownBy_putObj' _ D (.deferred none)) (fun r e => by cases e; exact ⟨_, hK', rfl⟩)
    refine ⟨.bool false, ?_, by rw [HN.out]; rfl, (hB.setCell (p := ⟨w.heap.size, 0, none⟩) (Nat.le_refl _) _).trans (belowK_b (w := w) (Nat.le_refl _) _ D _ _ (by simp only [World.size_alloc] at hD; omega) hK' rfl rfl)⟩
    simp [results, Tryz.f78, go_sem, hc5]
  case stop =>
    rintro D c pre W hD hpre ⟨⟨rfl, hin, hcr⟩, hB⟩ hK
    have HN := Lib.hid (show noBoth (mergeP ps qs) = false from by
      obtain ⟨r, hr⟩ := hpre
      rw [← hr]; unfold noBoth at hin ⊢; rw [List.all_append, hin]; rfl)
    clear hpre hin
    gi_wp2
    refine ⟨by simp, .inl ⟨_, _, rfl, run_takeDeferred hK, ?_⟩⟩
    have hc5 := cell_kept hcr (grownBy_putObj' _ D (.deferred none)) (fun r e => by cases e; exact ⟨_, hK, rfl⟩)
    refine ⟨.bool true, ?_, by rw [HN.out]; rfl, hB.trans (belowK_b (w := w) (Nat.le_refl _) W D _ _ (by simp only [World.size_alloc] at hD; omega) hK rfl rfl)⟩
    simp [results, Tryz.f78, go_sem, hc5]

end Go.Proofs.YthndnkafckapnaaGreatDoor
