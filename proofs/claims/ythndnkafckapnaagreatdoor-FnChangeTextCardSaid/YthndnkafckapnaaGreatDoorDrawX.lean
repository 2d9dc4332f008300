/- The walks of the draws: l10AnyAtom, l10Cut. -/
import Derived.Test.YthndnkafckapnaaGreatDoorDrawV
import Derived.Test.YthndnkafckapnaaGreatDoorDrawD
import Derived.Deep.LoopGhost
import Derived.Deep.RegionLaw
namespace Go.Proofs.YthndnkafckapnaaGreatDoor
open Go.RowKit

def mid (a : GA) : Prop := a.n.size ≤ 9 ∧ a.args.length ≤ 6 ∧ ∀ t ∈ a.args, t.n.size ≤ 9
theorem mid_app {s : ByteArray} {ts : List GT} {t : GT} (h : mid ⟨s, ts⟩) (hl : ts.length ≤ 5) (ht : t.n.size ≤ 9) : mid ⟨s, ts ++ [t]⟩ := by
  refine ⟨h.1, by simp; omega, fun u hu => ?_⟩
  rcases List.mem_append.1 hu with hu | hu
  · exact h.2.2 u hu
  · simp at hu; subst hu; exact ht
def names6 : List ByteArray := [⟨#[101]⟩, ⟨#[112]⟩, ⟨#[116]⟩, ⟨#[113]⟩, ⟨#[122]⟩, ⟨#[104]⟩]
def names4 : List ByteArray := [⟨#[]⟩, ⟨#[110, 111, 116]⟩, ⟨#[65]⟩, ⟨#[97, 98, 99, 100, 101, 102, 103, 104, 105]⟩]
def names7 : List ByteArray := [⟨#[]⟩, ⟨#[120]⟩, ⟨#[88]⟩, ⟨#[88, 121, 49]⟩, ⟨#[88, 89]⟩, ⟨#[65, 98, 99, 100, 101, 102, 103, 104]⟩, ⟨#[65, 98, 99, 100, 101, 102, 103, 104, 105]⟩]
def cuts12 : List ByteArray := [⟨#[40]⟩, ⟨#[41]⟩, ⟨#[44]⟩, ⟨#[32]⟩, ⟨#[120]⟩, ⟨#[88]⟩, ⟨#[110, 111, 116, 32]⟩, ⟨#[32, 97, 110, 100, 32]⟩, ⟨#[10]⟩, ⟨#[49]⟩, ⟨#[43]⟩, ⟨#[45]⟩]
theorem names6_small : ∀ s ∈ names6, s.size ≤ 8 := by decide
theorem names4_small : ∀ s ∈ names4, s.size ≤ 9 := by decide
theorem names7_small : ∀ s ∈ names7, s.size ≤ 9 := by decide
theorem cuts12_small : ∀ s ∈ cuts12, s.size ≤ 5 := by decide

/-- An atom that has been drawn, before it is turned: where it lies. -/
structure Drawn (w wr : World) (rb M ab : Nat) (a : GA) (v : Value) : Prop where
  res : ∃ c0 : Array Value, c0.size = 2 ∧ Blk wr w.heap.size 67 c0
  blk : Blk wr ab 67 #[.string a.n, v]
  lo : w.heap.size < ab
  own : OwnK kTerm (w.heap.size + 2) 125 None wr v a.args
  far : ∀ g, v.ownBlock = some g → g ≠ ab
  md : mid a
  rd : Rd wr rb M
  els : Else rb w wr

theorem Drawn.le {w wr : World} {rb M N ab : Nat} {a : GA} {v : Value} (h : Drawn w wr rb M ab a v) (hM : M ≤ N) : Drawn w wr rb N ab a v := ⟨h.res, h.blk, h.lo, h.own, h.far, h.md, h.rd.le hM, h.els⟩
theorem Drawn.else_ {w wr w' : World} {rb M N ab : Nat} {a : GA} {v : Value} (h : Drawn w wr rb M ab a v) (hrl : rb < w.heap.size) (he : Else rb wr w') (hr : Rd w' rb N) : Drawn w w' rb N ab a v := by
  obtain ⟨c0, hc, hb⟩ := h.res
  exact ⟨⟨c0, hc, hb.else_ he (by omega)⟩, h.blk.else_ he (by have := h.lo; omega), h.lo, h.own.agree (fun b hb => hb.elim) (fun g hg => he.agree g (by have := (h.own.at_ g hg).1; omega) (h.own.at_ g hg).2) he.size, h.far, h.md, hr, h.els.trans' he⟩
theorem Drawn.ext {w wr w' : World} {rb M ab : Nat} {a : GA} {v : Value} (h : Drawn w wr rb M ab a v) (hrl : rb < w.heap.size) (he : Ext wr w') : Drawn w w' rb M ab a v := h.else_ hrl (Else.of_ext he) (h.rd.ext he)
/-- The name is set anew. -/
theorem Drawn.name {w wr : World} {rb M ab : Nat} {a : GA} {v : Value} {s : ByteArray} (h : Drawn w wr rb M ab a v) (hrl : rb < w.heap.size) (hs : s.size ≤ 9) : Drawn w (wr.setCell ⟨ab, 0, none⟩ (.string s)) rb M ab ⟨s, a.args⟩ v := by
  obtain ⟨c0, hc, hb⟩ := h.res
  have hA : ∀ S : Nat → Prop, (¬ S ab) → Agree S wr (wr.setCell ⟨ab, 0, none⟩ (.string s)) := fun S hS => (Agree.refl _ _).setCell hS _
  refine ⟨⟨c0, hc, hb.far (by have := h.lo; simp only; omega) _⟩, by simpa using h.blk.set_ 0 (.string s), h.lo, h.own.agree (fun b hb => hb.elim) (fun g hg => Below.heap_setCell _ _ _ _ (h.far g hg)) (by go_size), h.far, ⟨hs, h.md.2⟩, h.rd.keep (hA _ (by have := h.lo; omega)) (by go_size), ?_⟩
  exact ⟨h.els.os, h.els.tape, h.els.output, by have := h.els.size; go_size, fun k hk hne => (hA (fun b => b < w.heap.size) (by have := h.lo; omega) k hk (Nat.lt_of_lt_of_le hk h.els.size)).trans (h.els.block k hk hne)⟩
/-- One more term. -/
theorem Drawn.more {w wr w2 w3 : World} {rb M ab : Nat} {a : GA} {v v' : Value} {t : GT} (h : Drawn w wr rb M ab a v) (hrl : rb < w.heap.size) (he : Ext wr w2) (hap : Apped kTerm (w.heap.size + 2) 125 None w2 v (a.args ++ [t]) v' w3) (hl : a.args.length ≤ 5) (ht : t.n.size ≤ 9) :
    Drawn w (w3.setCell ⟨ab, 1, none⟩ v') rb M ab ⟨a.n, a.args ++ [t]⟩ v' := by
  have h2 := h.ext hrl he
  obtain ⟨c0, hc, hb⟩ := h2.res
  have hlo := h.lo
  have hlt := h2.blk.lt
  have hfar' : ∀ g, v'.ownBlock = some g → g ≠ ab := fun g hg => by
    rcases hap.at_ with e | e
    · exact h.far g (e ▸ hg)
    · rw [e] at hg; injection hg with hg; omega
  have hkeep : ∀ b, b < w2.heap.size → v.ownBlock ≠ some b → w3.heap[b]? = w2.heap[b]? := fun b hb hn => hap.grown.block b hb (fun e => hn e.symm)
  have hown : ∀ b, b < w.heap.size + 2 → v.ownBlock ≠ some b := fun b hb e => by have := (h.own.at_ b e).1; omega
  have hA : ∀ S : Nat → Prop, (∀ b, S b → b < w.heap.size) → Agree S w2 (w3.setCell ⟨ab, 1, none⟩ v') := fun S hS b hb hlt' =>
    (Below.heap_setCell _ _ _ _ (by have := hS b hb; simp only; omega)).trans (hkeep b hlt' (hown b (by have := hS b hb; omega)))
  have hz := hap.grown.size
  refine ⟨⟨c0, hc, ?_⟩, ?_, hlo, hap.own.agree (fun b hb => hb.elim) (fun g hg => Below.heap_setCell _ _ _ _ (hfar' g hg)) (by go_size), hfar', mid_app h.md hl ht, h2.rd.keep (hA _ (fun b hb => by omega)) (by go_size), ?_⟩
  · exact (Below.heap_setCell _ _ _ _ (by simp only; omega)).trans ((hkeep _ hb.lt (hown _ (by omega))).trans hb)
  · have hb3 : Blk w3 ab 67 #[.string a.n, v] := (hkeep ab hlt (fun e => h.far ab e rfl)).trans h2.blk
    simpa using hb3.set_ 1 v'
  · exact ⟨hap.grown.os.trans h2.els.os, hap.grown.tape.trans h2.els.tape, hap.grown.output.trans h2.els.output, by have := h2.els.size; go_size, fun k hk hne => (hA (fun b => b < w.heap.size) (fun _ h => h) k hk (Nat.lt_of_lt_of_le hk h2.els.size)).trans (h2.els.block k hk hne)⟩
theorem Drawn.kept {w wr w2 w3 : World} {rb M ab : Nat} {a : GA} {v v' : Value} {zs : List GT} (h : Drawn w wr rb M ab a v) (he : Ext wr w2) (hap : Apped kTerm (w.heap.size + 2) 125 None w2 v zs v' w3) : Blk w3 ab 67 #[.string a.n, v] :=
  (hap.grown.block ab (h.blk.ext he).lt (fun e => h.far ab e.symm rfl)).trans (h.blk.ext he)
/-- What is handed back. -/
theorem Drawn.out {w wr : World} {rb M ab : Nat} {a : GA} {v : Value} (h : Drawn w wr rb M ab a v) (hrl : rb < w.heap.size) (x y : Value) :
    TermsR (From w.heap.size) ((wr.setCell ⟨w.heap.size, 0, none⟩ x).setCell ⟨w.heap.size, 1, none⟩ y) v a.args ∧ mid a ∧ Rd ((wr.setCell ⟨w.heap.size, 0, none⟩ x).setCell ⟨w.heap.size, 1, none⟩ y) rb M ∧ Else rb w ((wr.setCell ⟨w.heap.size, 0, none⟩ x).setCell ⟨w.heap.size, 1, none⟩ y) := by
  have hA : ∀ S : Nat → Prop, (¬ S w.heap.size) → Agree S wr ((wr.setCell ⟨w.heap.size, 0, none⟩ x).setCell ⟨w.heap.size, 1, none⟩ y) := fun S hS => ((Agree.refl _ _).setCell hS _).setCell hS _
  refine ⟨?_, h.md, h.rd.keep (hA _ (by omega)) (by go_size), ?_⟩
  · have h1 := ListK.imp (h.own.list (S' := From (w.heap.size + 2)) (fun b hb => hb.elim) (fun b hb => hb)) (w' := (wr.setCell ⟨w.heap.size, 0, none⟩ x).setCell ⟨w.heap.size, 1, none⟩ y) (S' := From w.heap.size) (fun b hb _ => fromLe (by omega) b hb) (hA _ (by simp)) (by go_size)
    exact h1
  · exact ⟨h.els.os, h.els.tape, h.els.output, by have := h.els.size; go_size, fun k hk hne => (hA (fun b => b < w.heap.size) (by simp) k hk (Nat.lt_of_lt_of_le hk h.els.size)).trans (h.els.block k hk hne)⟩

set_option maxRecDepth 100000 in
set_option maxHeartbeats 20000000 in
theorem l10AnyAtom_any (rb m : Nat) (w : World) (hr : Rd w rb m) (hp : m + 40 ≤ 1000000) :
    Calls Tryz.prog 75 #[.pointer (some ⟨rb, 0, none⟩)] w fun e w' =>
      (∃ (a : GA) (v : Value), e = .returned (.agg #[.string a.n, v]) ∧ TermsR (From w.heap.size) w' v a.args ∧ mid a) ∧ Rd w' rb (m + 40) ∧ Else rb w w' := by
  have hrl := hr.lt
  obtain ⟨i0, hi0, hz0, hz1, hz2⟩ := info_parts term_info
  have HR1 := Lib.hid (hr.ext ((Ext.refl w).alloc (.cells #[.string ⟨#[]⟩, .slice none 0 0] 67)))
  have HB := Lib.hid (Blk.new w 67 #[.string ⟨#[]⟩, .slice none 0 0])
  clear hr
  go_enter Tryz.func75, Tryz.ntmps75
  go_wp2_with (fail)
  refine (of_any rb m _ names6 _ (strs_at _ names6 rfl (by simp) HR1.out (fun s hs => Nat.le_trans (names6_small s hs) (by omega)) (by simp [names6]) _ rfl) (by simp [names6]) (HR1.out.ext ((Ext.refl _).alloc _)) (by omega)).mono ?_
  rintro e w1 ⟨⟨s, hs, hs2, rfl⟩, hr1, he1⟩
  have hs8 := names6_small s hs
  have hb1 := ((HB.out.alloc _).else_ he1 (by omega))
  have HE1 := Lib.hid ((Else.of_ext (rb := rb) (((Ext.refl w).alloc _).alloc _)).trans' he1)
  have HR2 := Lib.hid hr1
  have HB1 := Lib.hid hb1
  clear hr1 he1 hb1 hs
  go_wp2_with (fail)
  refine (l10AtomVars_any rb (m + 1) s _ (by omega) HR2.out (by omega)).mono ?_
  rintro e w2 ⟨⟨v, ts, rfl, ht, hti⟩, hr2, he2⟩
  obtain ⟨A, n, c, rfl, hn, hc1, hc2⟩ := ht.form2
  have hlt1 := HB1.out.lt
  have hz2' := he2.size
  have hD : Drawn w (w2.alloc (.cells #[.string s, .slice A n c] 67)) rb (m + 7) w2.heap.size ⟨s, ts⟩ (.slice A n c) :=
    ⟨⟨_, by rfl, (HB1.out.else_ he2 (by omega)).alloc _⟩, Blk.new _ _ _, by omega, (ht.sub (by omega) (fun b hb => hb.elim)).ext ((Ext.refl _).alloc _), fun g hg e => by have := (ht.at_ g hg).2; omega, ⟨by show s.size ≤ 9; omega, by have := hti.1; show ts.length ≤ 6; omega, fun t ht => Nat.le_trans (hti.2 t ht) (by omega)⟩, hr2.ext ((Ext.refl _).alloc _), (HE1.out.trans' he2).trans' (Else.of_ext ((Ext.refl _).alloc _))⟩
  have HD := Lib.hid hD
  have HN := Lib.hid (show n = ts.length ∧ ts.length ≤ 3 from ⟨hn.out, hti.1⟩)
  clear ht hr2 he2 hD hti hn
  go_wp2_with (fail)
  refine (rdPick_any rb (m + 7) 16 _ (by omega) HD.out.rd (by omega)).mono ?_
  rintro e w3 ⟨⟨z, hz, rfl⟩, hr3, he3⟩
  have HD3 := Lib.hid (HD.out.else_ hrl he3 hr3)
  have hlo := HD.out.lo
  have hz3 := he3.size


  have hlt3 := HD3.out.blk.lt
  have p0 := HD3.out.blk.cell 0
  have p1 := HD3.out.blk.cell 1
  have f0 := HD3.out.blk.frozen 0
  have f1 := HD3.out.blk.frozen 1
  obtain ⟨c0, hc0, hb0⟩ := HD3.out.res
  have hb0l := hb0.lt
  obtain ⟨⟨u0, r0⟩, g0⟩ := hb0.ready (i := 0) (by omega)
  obtain ⟨⟨u1, r1⟩, g1⟩ := hb0.ready (i := 1) (by omega)
  have tok : True := trivial
  have hn3 : n ≤ 3 := by have := HN.out; omega
  clear hr3 he3
  go_wp2_with (fail)
  · -- another name
    refine (of_any rb (m + 8) _ names4 _ (strs_at _ names4 rfl (by rfl) HD3.out.rd (fun s hs => Nat.le_trans (names4_small s hs) (by omega)) (by simp [names4]) _ rfl) (by simp [names4]) (HD3.out.rd.ext ((Ext.refl _).alloc _)) (by omega)).mono ?_
    rintro e w4 ⟨⟨s4, hs4, _, rfl⟩, hr4, he4⟩
    have HD4 := Lib.hid (HD3.out.else_ hrl ((Else.of_ext (rb := rb) ((Ext.refl w3).alloc _)).trans' he4) hr4)
    have HD5 := Lib.hid (HD4.out.name hrl (names4_small s4 hs4))
    clear p0 p1 f0 f1 r0 r1 g0 g1 hb0 hb0l hr4 he4
    have p0 := HD5.out.blk.cell 0
    have p1 := HD5.out.blk.cell 1
    have q0 := HD4.out.blk.cell 0
    have f0 := HD4.out.blk.frozen 0
    have hlt4 := HD4.out.blk.lt
    obtain ⟨c0, hc0, hb0⟩ := HD5.out.res
    obtain ⟨⟨u0, r0⟩, g0⟩ := hb0.ready (i := 0) (by omega)
    obtain ⟨⟨u1, r1⟩, g1⟩ := hb0.ready (i := 1) (by omega)
    go_wp2
    refine bodyPost_ret (v := .agg #[.string s4, .slice A n c]) (by simp [results, Tryz.results75, go_sem, r0, r1]) rfl ?_
    obtain ⟨e1, e2, e3, e4⟩ := HD5.out.out hrl (.string s4) (.slice A n c)
    exact ⟨⟨⟨s4, ts⟩, _, rfl, e1, e2⟩, e3.le (by omega), e4⟩
  · -- one more term
    clear p0 f0 f1 r0 r1 g0 g1 hb0 hb0l hc0 HR1 HB HE1 HR2 HB1 HD hs2 hlt1 hz2' hz3 hc1 hc2
    go_region_law (first
      | (go_simp; go_at_call 74; have _t := tok; refine (rdPick_any rb (m + 8) 2 _ (by omega) (HD3.out.rd.ext (Ext.refl w3).drew) (by omega)).mono ?_; clear tok _t; rintro e w4 ⟨⟨z4, hz4, rfl⟩, hr4, he4⟩; have HD4 := Lib.hid (HD3.out.else_ hrl ((Else.of_ext (rb := rb) (Ext.refl w3).drew).trans' he4) hr4); have q4 := HD4.out.blk.cell 1; have hlt4 := HD4.out.blk.lt; clear hr4 he4)
      | (go_simp; go_at_call 74; have _t := tok; refine (rdPick_any rb (m + 8) 2 _ (by omega) (HD3.out.rd.ext ((Ext.refl w3).drew.alloc (.cells #[.string ⟨#[]⟩, .string ⟨#[120]⟩, .string ⟨#[88]⟩, .string ⟨#[88, 121, 49]⟩, .string ⟨#[88, 89]⟩, .string ⟨#[65, 98, 99, 100, 101, 102, 103, 104]⟩, .string ⟨#[65, 98, 99, 100, 101, 102, 103, 104, 105]⟩] 9))) (by omega)).mono ?_; clear tok _t; rintro e w4 ⟨⟨z4, hz4, rfl⟩, hr4, he4⟩; have HD4 := Lib.hid (HD3.out.else_ hrl ((Else.of_ext (rb := rb) ((Ext.refl w3).drew.alloc (.cells #[.string ⟨#[]⟩, .string ⟨#[120]⟩, .string ⟨#[88]⟩, .string ⟨#[88, 121, 49]⟩, .string ⟨#[88, 89]⟩, .string ⟨#[65, 98, 99, 100, 101, 102, 103, 104]⟩, .string ⟨#[65, 98, 99, 100, 101, 102, 103, 104, 105]⟩] 9))).trans' he4) hr4); have q4 := HD4.out.blk.cell 1; have hlt4 := HD4.out.blk.lt; have HS4 := Lib.hid (StrsR.imp (strs_at (w := w3.drew) (g := w3.heap.size) (t := 9) _ names7 rfl (by rfl) (HD3.out.rd.ext (Ext.refl _).drew) (fun s hs => Nat.le_trans (names7_small s hs) (by omega)) (by simp [names7]) 7 rfl) (fun _ h => h) he4.agree he4.size); clear hr4 he4)
      | (go_simp; go_at_call 90; refine (of_any rb (m + 9) _ names7 _ HS4.out (by simp [names7]) HD4.out.rd (by omega)).mono ?_; rintro e w5 ⟨⟨s5, hs5, _, rfl⟩, hr5, he5⟩; have HD5 := Lib.hid (HD4.out.else_ hrl he5 hr5); have q5 := HD5.out.blk.cell 1; have hlt5 := HD5.out.blk.lt; have HS5 := Lib.hid (names7_small s5 hs5); have q55 := (((Ext.refl w5).alloc (.cells #[.bool ((z4 : Int) == 0), .string s5] 125)).cells.1 _ 1 hlt5).trans q5; clear hr5 he5)
      | (go_simp; go_at_call 90; refine (of_any rb (m + 9) _ names7 _ (strs_at (w := w4) (g := w4.heap.size) (t := 9) _ names7 rfl rfl HD4.out.rd (fun s hs => Nat.le_trans (names7_small s hs) (by omega)) (by simp [names7]) 7 rfl) (by simp [names7]) (HD4.out.rd.ext ((Ext.refl w4).alloc (.cells #[.string ⟨#[]⟩, .string ⟨#[120]⟩, .string ⟨#[88]⟩, .string ⟨#[88, 121, 49]⟩, .string ⟨#[88, 89]⟩, .string ⟨#[65, 98, 99, 100, 101, 102, 103, 104]⟩, .string ⟨#[65, 98, 99, 100, 101, 102, 103, 104, 105]⟩] 9))) (by omega)).mono ?_; rintro e w5 ⟨⟨s5, hs5, _, rfl⟩, hr5, he5⟩; have HD5 := Lib.hid (HD4.out.else_ hrl ((Else.of_ext (rb := rb) ((Ext.refl w4).alloc (.cells #[.string ⟨#[]⟩, .string ⟨#[120]⟩, .string ⟨#[88]⟩, .string ⟨#[88, 121, 49]⟩, .string ⟨#[88, 89]⟩, .string ⟨#[65, 98, 99, 100, 101, 102, 103, 104]⟩, .string ⟨#[65, 98, 99, 100, 101, 102, 103, 104, 105]⟩] 9))).trans' he5) hr5); have q5 := HD5.out.blk.cell 1; have hlt5 := HD5.out.blk.lt; have HS5 := Lib.hid (names7_small s5 hs5); have q55 := (((Ext.refl w5).alloc (.cells #[.bool ((z4 : Int) == 0), .string s5] 125)).cells.1 _ 1 hlt5).trans q5; clear hr5 he5)
      | (refine step_appK (o := ⟨some 29, _, _, _, _, _⟩) (k := kTerm) (S := None) (T := None) (base := w.heap.size + 2) (xs := ts) (ys := [⟨((z4 : Int) == 0), s5⟩]) (by rfl) (.tmp 20) (.tmp 28) 65 (by rfl) i0 _ 24 Tryz.underlying65 hi0 hz0 hz1 hz2 (by rfl) (by rfl) (HD5.out.own.ext ((Ext.refl _).alloc _)) _ 1 1 (by rfl) (ElemsK.one (k := kTerm) (x := ⟨((z4 : Int) == 0), s5⟩) (Blk.new w5 125 #[.bool ((z4 : Int) == 0), .string s5]) ⟨rfl, by have := HS5.out; show s5.size ≤ maxLen; unfold maxLen; omega⟩) (fun _ h _ => h) (fun _ _ h => h) (maxOf (by have := HN.out; omega)) (by have := HN.out; omega) (by have := HD5.out.lo; go_size) ?_; intro v6 w6 hap; obtain ⟨A6, n6, c6, rfl, hn6, ha6, hc6⟩ := hap.own.form2; have HAP := Lib.hid hap; have hb6 := HD5.out.kept ((Ext.refl _).alloc _) hap; have q6 := hb6.cell 1; have f6 := hb6.frozen 1; have hlt6 := hb6.lt; clear hap hb6))
    all_goals
      have HD7 := Lib.hid (HD5.out.more hrl ((Ext.refl _).alloc _) HAP.out (by have := HN.out; show ts.length ≤ 5; omega) HS5.out)
      clear p1 q4 q5 q55
      have p0 := HD7.out.blk.cell 0
      have p1 := HD7.out.blk.cell 1
      obtain ⟨c7, hc7, hb7⟩ := HD7.out.res
      obtain ⟨⟨u0, r0⟩, g0⟩ := hb7.ready (i := 0) (by omega)
      obtain ⟨⟨u1, r1⟩, g1⟩ := hb7.ready (i := 1) (by omega)
      go_wp2
      refine bodyPost_ret (v := .agg #[.string s, .slice A6 n6 c6]) (by simp [results, Tryz.results75, go_sem, r0, r1]) rfl ?_
      obtain ⟨e1, e2, e3, e4⟩ := HD7.out.out hrl (.string s) (.slice A6 n6 c6)
      exact ⟨⟨⟨s, ts ++ [⟨((z4 : Int) == 0), s5⟩]⟩, _, rfl, e1, e2⟩, e3.le (by omega), e4⟩
  · -- many terms
    clear p0 p1 f0 f1 r0 r1 g0 g1 hb0 hb0l
    simp only [show ((z : Int) == 0) = false from by assumption, show ((z : Int) == 1) = false from by assumption, show ((z : Int) == 2) = true from by assumption]
    go_loopg [] (6 - ts.length) (fun gk wr => ∃ (l : List GT) (A : Option Addr) (n c : Nat), gk = 6 - l.length ∧ l.length ≤ 5 ∧ Hid (n = l.length) ∧ Hid (Drawn w wr rb (m + 8 + l.length) w2.heap.size ⟨s, l⟩ (.slice A n c)) ∧ n ≤ c ∧ c ≤ 9223372036854775807)
    case atStart => exact ⟨ts, A, n, c, rfl, by have := HN.out; omega, Lib.hid HN.out.1, Lib.hid (HD3.out.le (by omega)), hc1, hc2⟩
    case round =>
      obtain ⟨l, A, n, c, rfl, hl5, hn, hd, hc1, hc2⟩ := hrel
      have p0 := hd.out.blk.cell 0
      have p1 := hd.out.blk.cell 1
      have hltr := hd.out.blk.lt
      have hn0 : (0 : Int) ≤ (n : Int) := by omega
      go_wp2_with (fail)
      go_region_law (go_simp; go_at_call 74; refine (rdPick_any rb (m + 8 + l.length) 2 _ (by omega) (hd.out.rd.ext (Ext.refl _).drew) (by omega)).mono ?_; rintro e w4 ⟨⟨z4, hz4, rfl⟩, hr4, he4⟩; have HD4 := Lib.hid (hd.out.else_ hrl ((Else.of_ext (rb := rb) (Ext.refl wr).drew).trans' he4) hr4); have q4 := HD4.out.blk.cell 1; have hlt4 := HD4.out.blk.lt; have hz40 : (0 : Int) ≤ (z4 : Int) := (by omega); have hz41 : (z4 : Int) ≤ 1 := (by omega); have hw4 : IntKind.i64.wrap (3 + (z4 : Int)) = 3 + (z4 : Int) := (by rw [IntKind.wrap_i64]; omega); clear hr4 he4)
      all_goals
        by_cases hlt : (n : Int) < 3 + (z4 : Int)
        · have hgt : decide ((n : Int) < 3 + (z4 : Int)) = true := decide_eq_true hlt
          have hn4 : n ≤ 3 := by omega
          have q41 := ((Ext.refl w4).alloc (.cells #[.bool false, .string ⟨#[97]⟩] 125)).cells.1 _ 1 hlt4 |>.trans q4
          go_wp2_with (first
            | (at_builtin; refine wpList_appK (k := kTerm) (S := None) (T := None) (base := w.heap.size + 2) (xs := l) (ys := [⟨false, ⟨#[97]⟩⟩]) rfl (.tmp 41) (.tmp 43) 65 (by rfl) i0 _ 24 Tryz.underlying65 hi0 hz0 hz1 hz2 (by rfl) (by rfl) (HD4.out.own.ext ((Ext.refl _).alloc _)) _ 1 1 (by rfl) (ElemsK.one (k := kTerm) (x := ⟨false, ⟨#[97]⟩⟩) (Blk.new w4 125 #[.bool false, .string ⟨#[97]⟩]) ⟨rfl, by show 1 ≤ maxLen; unfold maxLen; omega⟩) (fun _ h _ => h) (fun _ _ h => h) (maxOf (by omega)) (by omega) (by have := HD4.out.lo; go_size) ?_
               intro v6 w6 hap
               obtain ⟨A6, n6, c6, rfl, hn6, ha6, hc6⟩ := hap.own.form2
               have HAP := Lib.hid hap
               have HN6 := Lib.hid hn6.out
               have hb6 := HD4.out.kept ((Ext.refl _).alloc _) hap
               have q6 := hb6.cell 1
               have f6 := hb6.frozen 1
               have hlt6 := hb6.lt
               clear hap hb6 hn6))
          go_roundg (6 - (l.length + 1))
          case rel =>
            have hll : l.length ≤ 3 := by have := hn.out; omega
            exact ⟨l ++ [⟨false, ⟨#[97]⟩⟩], A6, n6, c6, by simp, by simp; omega, HN6, Lib.hid ((HD4.out.more hrl ((Ext.refl _).alloc _) HAP.out (by show l.length ≤ 5; omega) (by show 1 ≤ 9; omega)).le (by simp; omega)), ha6, hc6⟩
          case measure => have := hn.out; omega
        · have hgt : decide ((n : Int) < 3 + (z4 : Int)) = false := decide_eq_false hlt
          have p0' := HD4.out.blk.cell 0
          obtain ⟨c0, hc0, hb0⟩ := HD4.out.res
          obtain ⟨⟨u0, r0⟩, g0⟩ := hb0.ready (i := 0) (by omega)
          obtain ⟨⟨u1, r1⟩, g1⟩ := hb0.ready (i := 1) (by omega)
          go_wp2
          refine bodyPost_ret (v := .agg #[.string s, .slice A n c]) (by simp [results, Tryz.results75, go_sem, r0, r1]) rfl ?_
          obtain ⟨e1, e2, e3, e4⟩ := HD4.out.out hrl (.string s) (.slice A n c)
          exact ⟨⟨⟨s, l⟩, _, rfl, e1, e2⟩, e3.le (by omega), e4⟩
  · -- as it is
    refine bodyPost_ret (v := .agg #[.string s, .slice A n c]) (by simp [results, Tryz.results75, go_sem, r0, r1]) rfl ?_
    obtain ⟨e1, e2, e3, e4⟩ := HD3.out.out hrl (.string s) (.slice A n c)
    exact ⟨⟨⟨s, ts⟩, _, rfl, e1, e2⟩, e3.le (by omega), e4⟩

end Go.Proofs.YthndnkafckapnaaGreatDoor
