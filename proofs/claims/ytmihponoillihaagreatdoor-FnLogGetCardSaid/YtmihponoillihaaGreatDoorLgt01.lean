/- Part of the texts of a proof; what they say stands at each theorem. -/
import Derived.ProofKit
import Derived.Deep.Slices
import Derived.Deep.Fields
import Derived.ChangeSame
import Derived.Deep.LoopGhost
import Derived.Deep.RegionLaw
import Derived.Test.YtmihponoillihaaGreatDoorBas32
set_option linter.unusedSimpArgs false
set_option linter.unusedVariables false
namespace Go.Proofs.YtmihponoillihaaGreatDoor
open Go.RowKit Go.ChangeShapes Go.WideShapes Go.Deep
section
variable {H : Type} {enc : TypeId × Value → H} {P : Program} {w : World} {base : Nat} {spare : Nat → Bool} {held : Bool}
theorem cell_addr {w : World} {a : Addr} {u : Value} (h : w.cell? a = some u) : a = ⟨a.block, a.off, none⟩ := by
 obtain ⟨b, o, s⟩ := a
 cases s with
 | none => rfl
 | some s => simp only [World.cell?] at h; split at h <;> simp at h
end
section
variable {H : Type} {enc : TypeId × Value → H} {w : World} {base : Nat} {spare : Nat → Bool} {held : Bool} {fuel : Nat} {v : Value} {x : DataW H × List MemPlace}
end
end Go.Proofs.YtmihponoillihaaGreatDoor
namespace Go.Proofs.YtmihponoillihaaGreatDoor
open Go.RowKit
theorem l3Put_any (v u : Value) (xs : List GA) (a : GA) (w : World) {S T : Nat → Prop} (hv : AtomsR S w v xs) (hu : TermsR T w u a.args) (hs : a.n.size ≤ maxLen) (hn : xs.length ≤ 4194304) :
 Calls Tryz.prog 74 #[v, .agg #[.string a.n, u]] w fun e w' => (∃ v', e = .returned v' ∧ AtomsR (fun b => w.heap.size ≤ b ∨ S b ∨ T b) w' v' (putA xs a)) ∧ Ext w w' :=
 (l3Put_own v u xs a w hv hu hs hn).mono fun e w' ⟨⟨v', h1, h2⟩, hx⟩ => ⟨⟨v', h1, by
  rcases h2 with h2 | ⟨rfl, h2⟩
  · exact h2.list (S' := fun b => w.heap.size ≤ b ∨ S b ∨ T b) (fun b hb => .inr hb) (fun b hb => .inl hb)
  rw [h2]; exact AtomsR.sub (S := S) (hv.ext hx) (fun b hb => .inr (.inl hb))⟩, hx⟩
theorem mid_app {s : ByteArray} {ts : List GT} {t : GT} (h : mid ⟨s, ts⟩) (hl : ts.length ≤ 5) (ht : t.n.size ≤ 9) : mid ⟨s, ts ++ [t]⟩ := by
 refine ⟨h.1, by simp; omega, fun u hu => ?_⟩
 rcases List.mem_append.1 hu with hu | hu
 · exact h.2.2 u hu
 simp at hu; subst hu; exact ht
def names6 : List ByteArray := [⟨#[101]⟩, ⟨#[112]⟩, ⟨#[116]⟩, ⟨#[113]⟩, ⟨#[122]⟩, ⟨#[104]⟩]
def names4 : List ByteArray := [⟨#[]⟩, ⟨#[110, 111, 116]⟩, ⟨#[65]⟩, ⟨#[97, 98, 99, 100, 101, 102, 103, 104, 105]⟩]
def names7 : List ByteArray := [⟨#[]⟩, ⟨#[120]⟩, ⟨#[88]⟩, ⟨#[88, 121, 49]⟩, ⟨#[88, 89]⟩, ⟨#[65, 98, 99, 100, 101, 102, 103, 104]⟩, ⟨#[65, 98, 99, 100, 101, 102, 103, 104, 105]⟩]
theorem names6_small : ∀ s ∈ names6, s.size ≤ 8 := by decide
theorem names4_small : ∀ s ∈ names4, s.size ≤ 9 := by decide
theorem names7_small : ∀ s ∈ names7, s.size ≤ 9 := by decide
structure Drawn (w wr : World) (rb M ab : Nat) (a : GA) (v : Value) : Prop where
 res : ∃ c0 : Array Value, c0.size = 2 ∧ Blk wr w.heap.size 54 c0
 blk : Blk wr ab 54 #[.string a.n, v]
 lo : w.heap.size < ab
 own : OwnK kTerm (w.heap.size + 2) 71 None wr v a.args
 far : ∀ g, v.ownBlock = some g → g ≠ ab
 md : mid a
 rd : Rd wr rb M
 els : Else rb w wr
theorem Drawn.le {w wr : World} {rb M N ab : Nat} {a : GA} {v : Value} (h : Drawn w wr rb M ab a v) (hM : M ≤ N) : Drawn w wr rb N ab a v := ⟨h.res, h.blk, h.lo, h.own, h.far, h.md, h.rd.le hM, h.els⟩
theorem Drawn.else_ {w wr w' : World} {rb M N ab : Nat} {a : GA} {v : Value} (h : Drawn w wr rb M ab a v) (hrl : rb < w.heap.size) (he : Else rb wr w') (hr : Rd w' rb N) : Drawn w w' rb N ab a v := by
 obtain ⟨c0, hc, hb⟩ := h.res; exact ⟨⟨c0, hc, hb.else_ he (by omega)⟩, h.blk.else_ he (by have := h.lo; omega), h.lo, h.own.agree (fun b hb => hb.elim) (fun g hg => he.agree g (by have := (h.own.at_ g hg).1; omega) (h.own.at_ g hg).2) he.size, h.far, h.md, hr, h.els.trans' he⟩
theorem Drawn.ext {w wr w' : World} {rb M ab : Nat} {a : GA} {v : Value} (h : Drawn w wr rb M ab a v) (hrl : rb < w.heap.size) (he : Ext wr w') : Drawn w w' rb M ab a v := h.else_ hrl (Else.of_ext he) (h.rd.ext he)
theorem Drawn.name {w wr : World} {rb M ab : Nat} {a : GA} {v : Value} {s : ByteArray} (h : Drawn w wr rb M ab a v) (hrl : rb < w.heap.size) (hs : s.size ≤ 9) : Drawn w (wr.setCell ⟨ab, 0, none⟩ (.string s)) rb M ab ⟨s, a.args⟩ v := by
 obtain ⟨c0, hc, hb⟩ := h.res
 have hA : ∀ S : Nat → Prop, (¬ S ab) → Agree S wr (wr.setCell ⟨ab, 0, none⟩ (.string s)) := fun S hS => (Agree.refl _ _).setCell hS _
 refine ⟨⟨c0, hc, hb.far (by have := h.lo; simp only; omega) _⟩, by simpa using h.blk.set_ 0 (.string s), h.lo, h.own.agree (fun b hb => hb.elim) (fun g hg => Below.heap_setCell _ _ _ _ (h.far g hg)) (by go_size), h.far, ⟨hs, h.md.2⟩, h.rd.keep (hA _ (by have := h.lo; omega)) (by go_size), ?_⟩; exact ⟨h.els.os, h.els.tape, h.els.output, by have := h.els.size; go_size, fun k hk hne => (hA (fun b => b < w.heap.size) (by have := h.lo; omega) k hk (Nat.lt_of_lt_of_le hk h.els.size)).trans (h.els.block k hk hne)⟩
theorem Drawn.more {w wr w2 w3 : World} {rb M ab : Nat} {a : GA} {v v' : Value} {t : GT} (h : Drawn w wr rb M ab a v) (hrl : rb < w.heap.size) (he : Ext wr w2) (hap : Apped kTerm (w.heap.size + 2) 71 None w2 v (a.args ++ [t]) v' w3) (hl : a.args.length ≤ 5) (ht : t.n.size ≤ 9) :
 Drawn w (w3.setCell ⟨ab, 1, none⟩ v') rb M ab ⟨a.n, a.args ++ [t]⟩ v' := by
 have h2 := h.ext hrl he; obtain ⟨c0, hc, hb⟩ := h2.res; have hlo := h.lo; have hlt := h2.blk.lt
 have hfar' : ∀ g, v'.ownBlock = some g → g ≠ ab := fun g hg => by
  rcases hap.at_ with e | e
  · exact h.far g (e ▸ hg)
  rw [e] at hg; injection hg with hg; omega
 have hkeep : ∀ b, b < w2.heap.size → v.ownBlock ≠ some b → w3.heap[b]? = w2.heap[b]? := fun b hb hn => hap.grown.block b hb (fun e => hn e.symm)
 have hown : ∀ b, b < w.heap.size + 2 → v.ownBlock ≠ some b := fun b hb e => by have := (h.own.at_ b e).1; omega
 have hA : ∀ S : Nat → Prop, (∀ b, S b → b < w.heap.size) → Agree S w2 (w3.setCell ⟨ab, 1, none⟩ v') := fun S hS b hb hlt' =>
  (Below.heap_setCell _ _ _ _ (by have := hS b hb; simp only; omega)).trans (hkeep b hlt' (hown b (by have := hS b hb; omega)))
 have hz := hap.grown.size; refine ⟨⟨c0, hc, ?_⟩, ?_, hlo, hap.own.agree (fun b hb => hb.elim) (fun g hg => Below.heap_setCell _ _ _ _ (hfar' g hg)) (by go_size), hfar', mid_app h.md hl ht, h2.rd.keep (hA _ (fun b hb => by omega)) (by go_size), ?_⟩
 · exact (Below.heap_setCell _ _ _ _ (by simp only; omega)).trans ((hkeep _ hb.lt (hown _ (by omega))).trans hb)
 · have hb3 : Blk w3 ab 54 #[.string a.n, v] := (hkeep ab hlt (fun e => h.far ab e rfl)).trans h2.blk
   simpa using hb3.set_ 1 v'
 exact ⟨hap.grown.os.trans h2.els.os, hap.grown.tape.trans h2.els.tape, hap.grown.output.trans h2.els.output, by have := h2.els.size; go_size, fun k hk hne => (hA (fun b => b < w.heap.size) (fun _ h => h) k hk (Nat.lt_of_lt_of_le hk h2.els.size)).trans (h2.els.block k hk hne)⟩
theorem Drawn.kept {w wr w2 w3 : World} {rb M ab : Nat} {a : GA} {v v' : Value} {zs : List GT} (h : Drawn w wr rb M ab a v) (he : Ext wr w2) (hap : Apped kTerm (w.heap.size + 2) 71 None w2 v zs v' w3) : Blk w3 ab 54 #[.string a.n, v] :=
 (hap.grown.block ab (h.blk.ext he).lt (fun e => h.far ab e.symm rfl)).trans (h.blk.ext he)
theorem Drawn.out {w wr : World} {rb M ab : Nat} {a : GA} {v : Value} (h : Drawn w wr rb M ab a v) (hrl : rb < w.heap.size) (x y : Value) :
 TermsR (From w.heap.size) ((wr.setCell ⟨w.heap.size, 0, none⟩ x).setCell ⟨w.heap.size, 1, none⟩ y) v a.args ∧ mid a ∧ Rd ((wr.setCell ⟨w.heap.size, 0, none⟩ x).setCell ⟨w.heap.size, 1, none⟩ y) rb M ∧ Else rb w ((wr.setCell ⟨w.heap.size, 0, none⟩ x).setCell ⟨w.heap.size, 1, none⟩ y) := by
 have hA : ∀ S : Nat → Prop, (¬ S w.heap.size) → Agree S wr ((wr.setCell ⟨w.heap.size, 0, none⟩ x).setCell ⟨w.heap.size, 1, none⟩ y) := fun S hS => ((Agree.refl _ _).setCell hS _).setCell hS _
 refine ⟨?_, h.md, h.rd.keep (hA _ (by omega)) (by go_size), ?_⟩
 · have h1 := ListK.imp (h.own.list (S' := From (w.heap.size + 2)) (fun b hb => hb.elim) (fun b hb => hb)) (w' := (wr.setCell ⟨w.heap.size, 0, none⟩ x).setCell ⟨w.heap.size, 1, none⟩ y) (S' := From w.heap.size) (fun b hb _ => fromLe (by omega) b hb) (hA _ (by simp)) (by go_size)
   exact h1
 exact ⟨h.els.os, h.els.tape, h.els.output, by have := h.els.size; go_size, fun k hk hne => (hA (fun b => b < w.heap.size) (by simp) k hk (Nat.lt_of_lt_of_le hk h.els.size)).trans (h.els.block k hk hne)⟩
set_option maxRecDepth 100000 in
set_option maxHeartbeats 20000000 in
theorem l10AnyAtom_any (rb m : Nat) (w : World) (hr : Rd w rb m) (hp : m + 40 ≤ 1000000) :
 Calls Tryz.prog 97 #[.pointer (some ⟨rb, 0, none⟩)] w fun e w' =>
  (∃ (a : GA) (v : Value), e = .returned (.agg #[.string a.n, v]) ∧ TermsR (From w.heap.size) w' v a.args ∧ mid a) ∧ Rd w' rb (m + 40) ∧ Else rb w w' := by
 have hrl := hr.lt; obtain ⟨i0, hi0, hz0, hz1, hz2⟩ := info_parts term_info; have HR1 := Lib.hid (hr.ext ((Ext.refl w).alloc (.cells #[.string ⟨#[]⟩, .slice none 0 0] 54))); have HB := Lib.hid (Blk.new w 54 #[.string ⟨#[]⟩, .slice none 0 0]); clear hr
 go_enter Tryz.func97, Tryz.ntmps97
 go_wp2_with (fail)
 refine (of_any rb m _ names6 _ (strs_at _ names6 rfl (by simp) HR1.out (fun s hs => Nat.le_trans (names6_small s hs) (by omega)) (by simp [names6]) _ rfl) (by simp [names6]) (HR1.out.ext ((Ext.refl _).alloc _)) (by omega)).mono ?_; rintro e w1 ⟨⟨s, hs, hs2, rfl⟩, hr1, he1⟩; have hs8 := names6_small s hs
 have hb1 := ((HB.out.alloc _).else_ he1 (by omega))
 have HE1 := Lib.hid ((Else.of_ext (rb := rb) (((Ext.refl w).alloc _).alloc _)).trans' he1); have HR2 := Lib.hid hr1; have HB1 := Lib.hid hb1; clear hr1 he1 hb1 hs
 go_wp2_with (fail)
 refine (l10AtomVars_any rb (m + 1) s _ (by omega) HR2.out (by omega)).mono ?_; rintro e w2 ⟨⟨v, ts, rfl, ht, hti⟩, hr2, he2⟩; obtain ⟨A, n, c, rfl, hn, hc1, hc2⟩ := ht.form2; have hlt1 := HB1.out.lt; have hz2' := he2.size
 have hD : Drawn w (w2.alloc (.cells #[.string s, .slice A n c] 54)) rb (m + 7) w2.heap.size ⟨s, ts⟩ (.slice A n c) :=
  ⟨⟨_, by rfl, (HB1.out.else_ he2 (by omega)).alloc _⟩, Blk.new _ _ _, by omega, (ht.sub (by omega) (fun b hb => hb.elim)).ext ((Ext.refl _).alloc _), fun g hg e => by have := (ht.at_ g hg).2; omega, ⟨by show s.size ≤ 9; omega, by have := hti.1; show ts.length ≤ 6; omega, fun t ht => Nat.le_trans (hti.2 t ht) (by omega)⟩, hr2.ext ((Ext.refl _).alloc _), (HE1.out.trans' he2).trans' (Else.of_ext ((Ext.refl _).alloc _))⟩
 have HD := Lib.hid hD; have HN := Lib.hid (show n = ts.length ∧ ts.length ≤ 3 from ⟨hn.out, hti.1⟩); clear ht hr2 he2 hD hti hn
 go_wp2_with (fail)
 refine (rdPick_any rb (m + 7) 16 _ (by omega) HD.out.rd (by omega)).mono ?_; rintro e w3 ⟨⟨z, hz, rfl⟩, hr3, he3⟩; have HD3 := Lib.hid (HD.out.else_ hrl he3 hr3); have hlo := HD.out.lo; have hz3 := he3.size
 have hlt3 := HD3.out.blk.lt; have p0 := HD3.out.blk.cell 0; have p1 := HD3.out.blk.cell 1; have f0 := HD3.out.blk.frozen 0; have f1 := HD3.out.blk.frozen 1; obtain ⟨c0, hc0, hb0⟩ := HD3.out.res; have hb0l := hb0.lt; obtain ⟨⟨u0, r0⟩, g0⟩ := hb0.ready (i := 0) (by omega); obtain ⟨⟨u1, r1⟩, g1⟩ := hb0.ready (i := 1) (by omega); have tok : True := trivial
 have hn3 : n ≤ 3 := by have := HN.out; omega
 clear hr3 he3
 go_wp2_with (fail)
 · -- another name
   refine (of_any rb (m + 8) _ names4 _ (strs_at _ names4 rfl (by rfl) HD3.out.rd (fun s hs => Nat.le_trans (names4_small s hs) (by omega)) (by simp [names4]) _ rfl) (by simp [names4]) (HD3.out.rd.ext ((Ext.refl _).alloc _)) (by omega)).mono ?_; rintro e w4 ⟨⟨s4, hs4, _, rfl⟩, hr4, he4⟩; have HD4 := Lib.hid (HD3.out.else_ hrl ((Else.of_ext (rb := rb) ((Ext.refl w3).alloc _)).trans' he4) hr4); have HD5 := Lib.hid (HD4.out.name hrl (names4_small s4 hs4)); clear p0 p1 f0 f1 r0 r1 g0 g1 hb0 hb0l hr4 he4; have p0 := HD5.out.blk.cell 0; have p1 := HD5.out.blk.cell 1; have q0 := HD4.out.blk.cell 0; have f0 := HD4.out.blk.frozen 0; have hlt4 := HD4.out.blk.lt; obtain ⟨c0, hc0, hb0⟩ := HD5.out.res; obtain ⟨⟨u0, r0⟩, g0⟩ := hb0.ready (i := 0) (by omega); obtain ⟨⟨u1, r1⟩, g1⟩ := hb0.ready (i := 1) (by omega); go_wp2; refine bodyPost_ret (v := .agg #[.string s4, .slice A n c]) (by simp [results, Tryz.results97, go_sem, r0, r1]) rfl ?_; obtain ⟨e1, e2, e3, e4⟩ := HD5.out.out hrl (.string s4) (.slice A n c); exact ⟨⟨⟨s4, ts⟩, _, rfl, e1, e2⟩, e3.le (by omega), e4⟩
 · -- one more term
   clear p0 f0 f1 r0 r1 g0 g1 hb0 hb0l hc0 HR1 HB HE1 HR2 HB1 HD hs2 hlt1 hz2' hz3 hc1 hc2
   go_region_law (first
    | (go_simp; go_at_call 73; have _t := tok; refine (rdPick_any rb (m + 8) 2 _ (by omega) (HD3.out.rd.ext (Ext.refl w3).drew) (by omega)).mono ?_; clear tok _t; rintro e w4 ⟨⟨z4, hz4, rfl⟩, hr4, he4⟩; have HD4 := Lib.hid (HD3.out.else_ hrl ((Else.of_ext (rb := rb) (Ext.refl w3).drew).trans' he4) hr4); have q4 := HD4.out.blk.cell 1; have hlt4 := HD4.out.blk.lt; clear hr4 he4)
    | (go_simp; go_at_call 73; have _t := tok; refine (rdPick_any rb (m + 8) 2 _ (by omega) (HD3.out.rd.ext ((Ext.refl w3).drew.alloc (.cells #[.string ⟨#[]⟩, .string ⟨#[120]⟩, .string ⟨#[88]⟩, .string ⟨#[88, 121, 49]⟩, .string ⟨#[88, 89]⟩, .string ⟨#[65, 98, 99, 100, 101, 102, 103, 104]⟩, .string ⟨#[65, 98, 99, 100, 101, 102, 103, 104, 105]⟩] 9))) (by omega)).mono ?_; clear tok _t; rintro e w4 ⟨⟨z4, hz4, rfl⟩, hr4, he4⟩; have HD4 := Lib.hid (HD3.out.else_ hrl ((Else.of_ext (rb := rb) ((Ext.refl w3).drew.alloc (.cells #[.string ⟨#[]⟩, .string ⟨#[120]⟩, .string ⟨#[88]⟩, .string ⟨#[88, 121, 49]⟩, .string ⟨#[88, 89]⟩, .string ⟨#[65, 98, 99, 100, 101, 102, 103, 104]⟩, .string ⟨#[65, 98, 99, 100, 101, 102, 103, 104, 105]⟩] 9))).trans' he4) hr4); have q4 := HD4.out.blk.cell 1; have hlt4 := HD4.out.blk.lt; have HS4 := Lib.hid (StrsR.imp (strs_at (w := w3.drew) (g := w3.heap.size) (t := 9) _ names7 rfl (by rfl) (HD3.out.rd.ext (Ext.refl _).drew) (fun s hs => Nat.le_trans (names7_small s hs) (by omega)) (by simp [names7]) 7 rfl) (fun _ h => h) he4.agree he4.size); clear hr4 he4)
    | (go_simp; go_at_call 60; refine (of_any rb (m + 9) _ names7 _ HS4.out (by simp [names7]) HD4.out.rd (by omega)).mono ?_; rintro e w5 ⟨⟨s5, hs5, _, rfl⟩, hr5, he5⟩; have HD5 := Lib.hid (HD4.out.else_ hrl he5 hr5); have q5 := HD5.out.blk.cell 1; have hlt5 := HD5.out.blk.lt; have HS5 := Lib.hid (names7_small s5 hs5); have q55 := (((Ext.refl w5).alloc (.cells #[.bool ((z4 : Int) == 0), .string s5] 71)).cells.1 _ 1 hlt5).trans q5; clear hr5 he5)
    | (go_simp; go_at_call 60; refine (of_any rb (m + 9) _ names7 _ (strs_at (w := w4) (g := w4.heap.size) (t := 9) _ names7 rfl rfl HD4.out.rd (fun s hs => Nat.le_trans (names7_small s hs) (by omega)) (by simp [names7]) 7 rfl) (by simp [names7]) (HD4.out.rd.ext ((Ext.refl w4).alloc (.cells #[.string ⟨#[]⟩, .string ⟨#[120]⟩, .string ⟨#[88]⟩, .string ⟨#[88, 121, 49]⟩, .string ⟨#[88, 89]⟩, .string ⟨#[65, 98, 99, 100, 101, 102, 103, 104]⟩, .string ⟨#[65, 98, 99, 100, 101, 102, 103, 104, 105]⟩] 9))) (by omega)).mono ?_; rintro e w5 ⟨⟨s5, hs5, _, rfl⟩, hr5, he5⟩; have HD5 := Lib.hid (HD4.out.else_ hrl ((Else.of_ext (rb := rb) ((Ext.refl w4).alloc (.cells #[.string ⟨#[]⟩, .string ⟨#[120]⟩, .string ⟨#[88]⟩, .string ⟨#[88, 121, 49]⟩, .string ⟨#[88, 89]⟩, .string ⟨#[65, 98, 99, 100, 101, 102, 103, 104]⟩, .string ⟨#[65, 98, 99, 100, 101, 102, 103, 104, 105]⟩] 9))).trans' he5) hr5); have q5 := HD5.out.blk.cell 1; have hlt5 := HD5.out.blk.lt; have HS5 := Lib.hid (names7_small s5 hs5); have q55 := (((Ext.refl w5).alloc (.cells #[.bool ((z4 : Int) == 0), .string s5] 71)).cells.1 _ 1 hlt5).trans q5; clear hr5 he5)
    | (refine step_appK (o := ⟨some 29, _, _, _, _, _⟩) (k := kTerm) (S := None) (T := None) (base := w.heap.size + 2) (xs := ts) (ys := [⟨((z4 : Int) == 0), s5⟩]) (by rfl) (.tmp 20) (.tmp 28) 52 (by rfl) i0 _ 24 Tryz.underlying52 hi0 hz0 hz1 hz2 (by rfl) (by rfl) (HD5.out.own.ext ((Ext.refl _).alloc _)) _ 1 1 (by rfl) (ElemsK.one (k := kTerm) (x := ⟨((z4 : Int) == 0), s5⟩) (Blk.new w5 71 #[.bool ((z4 : Int) == 0), .string s5]) ⟨rfl, by have := HS5.out; show s5.size ≤ maxLen; unfold maxLen; omega⟩) (fun _ h _ => h) (fun _ _ h => h) (maxOf (by have := HN.out; omega)) (by have := HN.out; omega) (by have := HD5.out.lo; go_size) ?_; intro v6 w6 hap; obtain ⟨A6, n6, c6, rfl, hn6, ha6, hc6⟩ := hap.own.form2; have HAP := Lib.hid hap; have hb6 := HD5.out.kept ((Ext.refl _).alloc _) hap; have q6 := hb6.cell 1; have f6 := hb6.frozen 1; have hlt6 := hb6.lt; clear hap hb6))
   all_goals
    have HD7 := Lib.hid (HD5.out.more hrl ((Ext.refl _).alloc _) HAP.out (by have := HN.out; show ts.length ≤ 5; omega) HS5.out); clear p1 q4 q5 q55; have p0 := HD7.out.blk.cell 0; have p1 := HD7.out.blk.cell 1; obtain ⟨c7, hc7, hb7⟩ := HD7.out.res; obtain ⟨⟨u0, r0⟩, g0⟩ := hb7.ready (i := 0) (by omega); obtain ⟨⟨u1, r1⟩, g1⟩ := hb7.ready (i := 1) (by omega); go_wp2; refine bodyPost_ret (v := .agg #[.string s, .slice A6 n6 c6]) (by simp [results, Tryz.results97, go_sem, r0, r1]) rfl ?_; obtain ⟨e1, e2, e3, e4⟩ := HD7.out.out hrl (.string s) (.slice A6 n6 c6); exact ⟨⟨⟨s, ts ++ [⟨((z4 : Int) == 0), s5⟩]⟩, _, rfl, e1, e2⟩, e3.le (by omega), e4⟩
 · -- many terms
   clear p0 p1 f0 f1 r0 r1 g0 g1 hb0 hb0l; simp only [show ((z : Int) == 0) = false from by assumption, show ((z : Int) == 1) = false from by assumption, show ((z : Int) == 2) = true from by assumption]
   go_loopg [] (6 - ts.length) (fun gk wr => ∃ (l : List GT) (A : Option Addr) (n c : Nat), gk = 6 - l.length ∧ l.length ≤ 5 ∧ Hid (n = l.length) ∧ Hid (Drawn w wr rb (m + 8 + l.length) w2.heap.size ⟨s, l⟩ (.slice A n c)) ∧ n ≤ c ∧ c ≤ 9223372036854775807)
   case atStart => exact ⟨ts, A, n, c, rfl, by have := HN.out; omega, Lib.hid HN.out.1, Lib.hid (HD3.out.le (by omega)), hc1, hc2⟩
   case round =>
    obtain ⟨l, A, n, c, rfl, hl5, hn, hd, hc1, hc2⟩ := hrel; have p0 := hd.out.blk.cell 0; have p1 := hd.out.blk.cell 1; have hltr := hd.out.blk.lt
    have hn0 : (0 : Int) ≤ (n : Int) := by omega
    go_wp2_with (fail)
    go_region_law (go_simp; go_at_call 73; refine (rdPick_any rb (m + 8 + l.length) 2 _ (by omega) (hd.out.rd.ext (Ext.refl _).drew) (by omega)).mono ?_; rintro e w4 ⟨⟨z4, hz4, rfl⟩, hr4, he4⟩; have HD4 := Lib.hid (hd.out.else_ hrl ((Else.of_ext (rb := rb) (Ext.refl wr).drew).trans' he4) hr4); have q4 := HD4.out.blk.cell 1; have hlt4 := HD4.out.blk.lt; have hz40 : (0 : Int) ≤ (z4 : Int) := (by omega); have hz41 : (z4 : Int) ≤ 1 := (by omega); have hw4 : IntKind.i64.wrap (3 + (z4 : Int)) = 3 + (z4 : Int) := (by rw [IntKind.wrap_i64]; omega); clear hr4 he4)
    all_goals
     by_cases hlt : (n : Int) < 3 + (z4 : Int)
     · have hgt : decide ((n : Int) < 3 + (z4 : Int)) = true := decide_eq_true hlt
       have hn4 : n ≤ 3 := by omega
       have q41 := ((Ext.refl w4).alloc (.cells #[.bool false, .string ⟨#[97]⟩] 71)).cells.1 _ 1 hlt4 |>.trans q4
       go_wp2_with (first
        | (at_builtin; refine wpList_appK (k := kTerm) (S := None) (T := None) (base := w.heap.size + 2) (xs := l) (ys := [⟨false, ⟨#[97]⟩⟩]) rfl (.tmp 41) (.tmp 43) 52 (by rfl) i0 _ 24 Tryz.underlying52 hi0 hz0 hz1 hz2 (by rfl) (by rfl) (HD4.out.own.ext ((Ext.refl _).alloc _)) _ 1 1 (by rfl) (ElemsK.one (k := kTerm) (x := ⟨false, ⟨#[97]⟩⟩) (Blk.new w4 71 #[.bool false, .string ⟨#[97]⟩]) ⟨rfl, by show 1 ≤ maxLen; unfold maxLen; omega⟩) (fun _ h _ => h) (fun _ _ h => h) (maxOf (by omega)) (by omega) (by have := HD4.out.lo; go_size) ?_
           intro v6 w6 hap; obtain ⟨A6, n6, c6, rfl, hn6, ha6, hc6⟩ := hap.own.form2; have HAP := Lib.hid hap; have HN6 := Lib.hid hn6.out; have hb6 := HD4.out.kept ((Ext.refl _).alloc _) hap; have q6 := hb6.cell 1; have f6 := hb6.frozen 1; have hlt6 := hb6.lt
           clear hap hb6 hn6))
       go_roundg (6 - (l.length + 1))
       case rel =>
        have hll : l.length ≤ 3 := by have := hn.out; omega
        exact ⟨l ++ [⟨false, ⟨#[97]⟩⟩], A6, n6, c6, by simp, by simp; omega, HN6, Lib.hid ((HD4.out.more hrl ((Ext.refl _).alloc _) HAP.out (by show l.length ≤ 5; omega) (by show 1 ≤ 9; omega)).le (by simp; omega)), ha6, hc6⟩
       case measure => have := hn.out; omega
     have hgt : decide ((n : Int) < 3 + (z4 : Int)) = false := decide_eq_false hlt; have p0' := HD4.out.blk.cell 0; obtain ⟨c0, hc0, hb0⟩ := HD4.out.res; obtain ⟨⟨u0, r0⟩, g0⟩ := hb0.ready (i := 0) (by omega); obtain ⟨⟨u1, r1⟩, g1⟩ := hb0.ready (i := 1) (by omega); go_wp2; refine bodyPost_ret (v := .agg #[.string s, .slice A n c]) (by simp [results, Tryz.results97, go_sem, r0, r1]) rfl ?_; obtain ⟨e1, e2, e3, e4⟩ := HD4.out.out hrl (.string s) (.slice A n c); exact ⟨⟨⟨s, l⟩, _, rfl, e1, e2⟩, e3.le (by omega), e4⟩
 refine bodyPost_ret (v := .agg #[.string s, .slice A n c]) (by simp [results, Tryz.results97, go_sem, r0, r1]) rfl ?_; obtain ⟨e1, e2, e3, e4⟩ := HD3.out.out hrl (.string s) (.slice A n c); exact ⟨⟨⟨s, ts⟩, _, rfl, e1, e2⟩, e3.le (by omega), e4⟩
def mids (xs : List GA) : Prop := ∀ x ∈ xs, mid x
theorem small_mid {a : GA} (h : small a) : mid a := ⟨Nat.le_trans h.1 (by omega), Nat.le_trans h.2.1 (by omega), fun t ht => Nat.le_trans (h.2.2 t ht) (by omega)⟩
theorem mids_put {xs : List GA} {a : GA} (h : mids xs) (ha : mid a) : mids (putA xs a) := fun x hx => by
 rcases putA_mem hx with h1 | rfl
 · exact h x h1
 exact ha
theorem mids_snoc {xs : List GA} {a : GA} (h : mids xs) (ha : mid a) : mids (xs ++ [a]) := fun x hx => by
 rcases List.mem_append.1 hx with h1 | h1
 · exact h x h1
 simp at h1; subst h1; exact ha
theorem terms_two {w : World} {g : Nat} {x y : ByteArray} (hb : Blk w g 71 #[.bool false, .string x, .bool false, .string y]) (hx : x.size ≤ 1000) (hy : y.size ≤ 1000) :
 TermsR (From g) w (.slice (some ⟨g, 0, none⟩) 2 2) [⟨false, x⟩, ⟨false, y⟩] := by
 refine ⟨_, 2, rfl, Nat.le_refl _, maxOf (by omega), fun _ => ⟨g, 0, rfl, hb.lt, Nat.le_refl _, fun i t ht => ?_⟩⟩
 match i, ht with
 | 0, ht =>
   simp at ht; subst ht; refine ⟨[.bool false, .string x], rfl, fun j u hu => ?_, rfl, maxOf (show x.size ≤ _ by omega)⟩
   match j, hu with
   | 0, hu => simp at hu; subst hu; rw [hb.cell]; rfl
   | 1, hu => simp at hu; subst hu; rw [hb.cell]; rfl
 | 1, ht =>
   simp at ht; subst ht; refine ⟨[.bool false, .string y], rfl, fun j u hu => ?_, rfl, maxOf (show y.size ≤ _ by omega)⟩
   match j, hu with
   | 0, hu => simp at hu; subst hu; rw [hb.cell]; rfl
   | 1, hu => simp at hu; subst hu; rw [hb.cell]; rfl
def vName (i : Nat) : ByteArray := ⟨#[118, UInt8.ofNat (48 + i)]⟩
def vAtom (i k : Nat) : GA := ⟨⟨#[101]⟩, [⟨false, vName i⟩, ⟨false, vName k⟩]⟩
def manyL : Nat → List GA
 | 0 => []
 | t + 1 => putA (manyL t) (vAtom (t / 6) (t % 6))
theorem many_len : (manyL 42).length = 42 := by kernel_rfl
theorem many_le : ∀ t, (manyL t).length ≤ t
 | 0 => Nat.le_refl _
 | t + 1 => Nat.le_trans (putA_len _ _) (Nat.succ_le_succ (many_le t))
theorem mid_p : mid ⟨⟨#[112]⟩, [⟨false, ⟨#[97]⟩⟩, ⟨false, ⟨#[98]⟩⟩]⟩ := ⟨by decide, by decide, fun t ht => by
 simp only [List.mem_cons, List.not_mem_nil, or_false] at ht
 rcases ht with rfl | rfl <;> decide⟩
theorem vAtom_mid (i k : Nat) : mid (vAtom i k) := by
 refine ⟨by show 1 ≤ 9; omega, by show 2 ≤ 6; omega, fun t ht => ?_⟩; simp only [vAtom, List.mem_cons, List.not_mem_nil, or_false] at ht
 rcases ht with rfl | rfl <;> exact (by show 2 ≤ 9; omega)
theorem many_mids : ∀ t, mids (manyL t)
 | 0 => fun x hx => by cases hx
 | t + 1 => mids_put (many_mids t) (vAtom_mid _ _)
theorem vName_dec (i : Nat) (h : i < 10) : (⟨#[118]⟩ : ByteArray) ++ strOf (Lib.decDigits i) = vName i := by
 rw [Lib.decDigits_one h, show (⟨#[118]⟩ : ByteArray) = strOf [118] from rfl, strOf_append]
 rfl
set_option maxRecDepth 100000 in
set_option maxHeartbeats 4000000 in
theorem l10AnyFacts_any (rb m : Nat) (w : World) (hr : Rd w rb m) (hp : m + 200 ≤ 1000000) :
 Calls Tryz.prog 98 #[.pointer (some ⟨rb, 0, none⟩)] w fun e w' =>
  (∃ (v : Value) (xs : List GA), e = .returned v ∧ AtomsR (From w.heap.size) w' v xs ∧ xs.length ≤ 41 ∧ mids xs) ∧ Rd w' rb (m + 200) ∧ Else rb w w' := by
 have hrl := hr.lt; obtain ⟨i0, hi0, hz0, hz1, hz2⟩ := info_parts atom_info; have HR := Lib.hid hr; clear hr
 go_enter Tryz.func98, Tryz.ntmps98
 go_wp2_with (fail)
 refine (l10FactsK_any rb m 9 _ HR.out (by omega) (by omega)).mono ?_; rintro e w1 ⟨⟨v, xs, rfl, hv1, hl1, hs1⟩, hr1, he1⟩; obtain ⟨A, n, c, rfl, hn, hc1, hc2⟩ := hv1.form2; have HR1 := Lib.hid hr1; have HV1 := Lib.hid hv1; have HE1 := Lib.hid he1; have HM1 := Lib.hid (show mids xs from fun x hx => small_mid (hs1 x hx)); have HN := Lib.hid hn.out; clear hr1 hv1 he1 hs1 hn
 go_wp2_with (first
  | (go_at_call 73; refine (rdPick_any rb (m + 1 + 7 * 9) 20 _ (by omega) HR1.out (by omega)).mono ?_; rintro e w2 ⟨⟨z, hz, rfl⟩, hr2, he2⟩
     have HR2 := Lib.hid hr2; have HV2 := Lib.hid (HV1.out.else_ he2 hrl (fun h => absurd (show w.heap.size ≤ rb from h) (by omega))); have HE2 := Lib.hid (HE1.out.trans' he2); have hz2' := (HE1.out.trans' he2).size
     clear hr2 he2))
 · -- one atom more
   refine (l10AnyAtom_any rb (m + 1 + 7 * 9 + 1) _ HR2.out (by omega)).mono ?_; rintro e w3 ⟨⟨a, u, rfl, hu, ha⟩, hr3, he3⟩; obtain ⟨B, d, rfl, hd1, hd2⟩ := SliceR.form hu; have HA := Lib.hid ha; have HU := Lib.hid hu; have HR3 := Lib.hid hr3; have HE3 := Lib.hid (HE2.out.trans' he3); have HV3 := Lib.hid (HV2.out.else_ he3 hrl (fun h => absurd (show w.heap.size ≤ rb from h) (by omega))); have HG := Lib.hid (HV2.out.at_); have hz3' := he3.size; have has : a.n.size ≤ maxLen := maxOf (by have := ha.1; omega); clear hu hr3 he3 ha
   go_wp2_with (first
    | (at_builtin; refine wpList_appK (k := kAtom) (S := From w.heap.size) (T := From w2.heap.size) (base := w.heap.size) (xs := xs) (ys := [a]) rfl (.tmp 13) (.tmp 16) 30 (by rfl) i0 _ 40 Tryz.underlying30 hi0 hz0 hz1 hz2 (by rfl) (by rfl) (HV3.out.ext ((Ext.refl _).alloc _)) _ 1 1 (by rfl) (ElemsK.one (k := kAtom) (x := a) (Blk.new w3 54 #[.string a.n, .slice B a.args.length d]) ⟨_, rfl, has, HU.out.ext ((Ext.refl _).alloc _)⟩) (fun b hb _ => Nat.le_trans hz2' hb) (fun g hg hT => absurd (HG.out g hg).2 (Nat.not_lt.2 hT)) (maxOf (by omega)) (by omega) (by go_size) ?_
       intro v4 w4 hap; obtain ⟨A4, n4, c4, rfl, hn4, ha4, hc4⟩ := hap.own.form2; have HAP := Lib.hid hap
       clear hap))
   go_ret; exact ⟨⟨_, xs ++ [a], rfl, HAP.out.own.list (S' := From w.heap.size) (fun _ h => h) (fun _ h => h), by simp; omega, mids_snoc HM1.out HA.out⟩, ((HR3.out.ext ((Ext.refl _).alloc _)).below HAP.out.below hrl).le (by omega), (HE3.out.trans' (Else.of_ext ((Ext.refl _).alloc _))).below HAP.out.below (Nat.le_refl _)⟩
 · -- one fact more
   refine (l10Fact_any rb (m + 1 + 7 * 9 + 1) _ HR2.out (by omega)).mono ?_; rintro e w3 ⟨⟨a, u, rfl, hu, ha1, ha2⟩, hr3, he3⟩; obtain ⟨B, d, rfl, hd1, hd2⟩ := SliceR.form hu; have HA := Lib.hid (small_mid ⟨ha1, ha2⟩); have HU := Lib.hid hu; have HR3 := Lib.hid hr3; have HE3 := Lib.hid (HE2.out.trans' he3); have HV3 := Lib.hid (HV2.out.else_ he3 hrl (fun h => absurd (show w.heap.size ≤ rb from h) (by omega))); have HG := Lib.hid (HV2.out.at_); have hz3' := he3.size; have has : a.n.size ≤ maxLen := maxOf (by omega); clear hu hr3 he3 ha1 ha2
   go_wp2_with (first
    | (at_builtin; refine wpList_appK (k := kAtom) (S := From w.heap.size) (T := From w2.heap.size) (base := w.heap.size) (xs := xs) (ys := [a]) rfl (.tmp 20) (.tmp 23) 30 (by rfl) i0 _ 40 Tryz.underlying30 hi0 hz0 hz1 hz2 (by rfl) (by rfl) (HV3.out.ext ((Ext.refl _).alloc _)) _ 1 1 (by rfl) (ElemsK.one (k := kAtom) (x := a) (Blk.new w3 54 #[.string a.n, .slice B a.args.length d]) ⟨_, rfl, has, HU.out.ext ((Ext.refl _).alloc _)⟩) (fun b hb _ => Nat.le_trans hz2' hb) (fun g hg hT => absurd (HG.out g hg).2 (Nat.not_lt.2 hT)) (maxOf (by omega)) (by omega) (by go_size) ?_
       intro v4 w4 hap; obtain ⟨A4, n4, c4, rfl, hn4, ha4, hc4⟩ := hap.own.form2; have HAP := Lib.hid hap
       clear hap))
   go_ret; exact ⟨⟨_, xs ++ [a], rfl, HAP.out.own.list (S' := From w.heap.size) (fun _ h => h) (fun _ h => h), by simp; omega, mids_snoc HM1.out HA.out⟩, ((HR3.out.ext ((Ext.refl _).alloc _)).below HAP.out.below hrl).le (by omega), (HE3.out.trans' (Else.of_ext ((Ext.refl _).alloc _))).below HAP.out.below (Nat.le_refl _)⟩
 · -- a fact of a name with another number of terms
   have hb2 : Blk (w2.alloc (.cells #[.bool false, .string ⟨#[97]⟩, .bool false, .string ⟨#[98]⟩] 71)) w2.heap.size 71 #[.bool false, .string ⟨#[97]⟩, .bool false, .string ⟨#[98]⟩] := Blk.new _ _ _; have ht : TermsR (From w2.heap.size) (w2.alloc (.cells #[.bool false, .string ⟨#[97]⟩, .bool false, .string ⟨#[98]⟩] 71)) (.slice (some ⟨w2.heap.size, 0, none⟩) 2 2) [⟨false, ⟨#[97]⟩⟩, ⟨false, ⟨#[98]⟩⟩] := terms_two hb2 (by decide) (by decide); refine (l3Put_any (S := From w.heap.size) (T := From w.heap.size) _ _ xs ⟨⟨#[112]⟩, [⟨false, ⟨#[97]⟩⟩, ⟨false, ⟨#[98]⟩⟩]⟩ _ ((HV2.out.list (S' := From w.heap.size) (fun _ h => h) (fun _ h => h)).ext ((Ext.refl _).alloc _)) (TermsR.sub ht (fromLe hz2')) (by decide) (by omega)).mono ?_; rintro e w3 ⟨⟨v3, rfl, hv3⟩, hx3⟩; have HV3 := Lib.hid (AtomsR.sub (S' := From w.heap.size) hv3 (fun b hb => hb.elim (fun h => Nat.le_trans hz2' (Nat.le_trans (by simp) h)) (fun h => h.elim id id))); have HX3 := Lib.hid (((Ext.refl w2).alloc (.cells #[.bool false, .string ⟨#[97]⟩, .bool false, .string ⟨#[98]⟩] 71)).trans' hx3); clear hv3 hx3 hb2 ht; go_wp2; go_ret; have := putA_len xs ⟨⟨#[112]⟩, [⟨false, ⟨#[97]⟩⟩, ⟨false, ⟨#[98]⟩⟩]⟩; exact ⟨⟨_, _, rfl, HV3.out, by omega, mids_put HM1.out mid_p⟩, (HR2.out.ext HX3.out).le (by omega), HE2.out.trans' (Else.of_ext HX3.out)⟩
 · -- many
   simp only [show ((z : Int) == 0) = false from by assumption, show ((z : Int) == 1) = false from by assumption, show ((z : Int) == 2) = false from by assumption, show ((z : Int) == 3) = true from by assumption]
   go_loopw [4, 5] (fun v i wr => ∃ k : Nat, i = .int .i64 k ∧ k ≤ 7 ∧ Hid (AtomsR (From w.heap.size) wr v (manyL (6 * k))) ∧ Ext w2 wr) (fun _ i _ => 7 - (intOf i).toNat)
   case atStart => exact ⟨0, rfl, by omega, SliceR.nil_ 0 (Nat.zero_le _) _, (Ext.refl w2).alloc _⟩
   case round =>
    obtain ⟨k, rfl, hk, hv, hx⟩ := hrel
    have hk0 : (0 : Int) ≤ (k : Int) := by omega
    obtain ⟨A1, c1, rfl, hc11, hc12⟩ := SliceR.form hv.out
    by_cases hlt : k < 7
    · obtain ⟨n1, hn1⟩ : ∃ n1, n1 = (manyL (6 * k)).length := ⟨_, rfl⟩
      rw [← hn1] at hv ⊢; go_wp2; simp only [show decide ((k : Int) < 7) = true from decide_eq_true (by omega)]
      go_loopw [4, 6] (fun v j wr => ∃ q : Nat, j = .int .i64 q ∧ q ≤ 6 ∧ Hid (AtomsR (From w.heap.size) wr v (manyL (6 * k + q))) ∧ Ext w2 wr) (fun _ j _ => 6 - (intOf j).toNat)
      case atStart => exact ⟨0, rfl, by omega, hv, hx⟩
      case round =>
       obtain ⟨q, rfl, hq, hv, hx⟩ := hrel
       have hq0 : (0 : Int) ≤ (q : Int) := by omega
       obtain ⟨A2, c2, rfl, hc21, hc22⟩ := SliceR.form hv.out
       obtain ⟨n2, hn2⟩ : ∃ n2, n2 = (manyL (6 * k + q)).length := ⟨_, rfl⟩
       have hml := many_le (6 * k + q); rw [← hn2] at hv hc21 ⊢
       by_cases hqt : q < 6
       · obtain ⟨d1, hd1⟩ : ∃ d1, d1 = strOf (Lib.decDigits k) := ⟨_, rfl⟩
         obtain ⟨d2, hd2⟩ : ∃ d2, d2 = strOf (Lib.decDigits q) := ⟨_, rfl⟩
         have hs1 : d1.size ≤ 10 := by rw [hd1, strOf_size]; exact dec_len k (by omega)
         have hs2 : d2.size ≤ 10 := by rw [hd2, strOf_size]; exact dec_len q (by omega)
         have HC1 := Lib.hid (fun W => show Calls Tryz.prog 75 #[.int .i64 k] W fun e w' => e = .returned (.string d1) ∧ Ext W w' from hd1 ▸ l1Dec_any k W hk0 (by omega)); have HC2 := Lib.hid (fun W => show Calls Tryz.prog 75 #[.int .i64 q] W fun e w' => e = .returned (.string d2) ∧ Ext W w' from hd2 ▸ l1Dec_any q W hq0 (by omega)); have HV1 := Lib.hid (show (⟨#[118]⟩ : ByteArray) ++ d1 = vName k from hd1 ▸ vName_dec k (by omega)); have HV2' := Lib.hid (show (⟨#[118]⟩ : ByteArray) ++ d2 = vName q from hd2 ▸ vName_dec q (by omega))
         have hlen : n2 ≤ 4194304 := by omega
         have HL := Lib.hid hn2
         have HM2 := Lib.hid (show putA (manyL (6 * k + q)) (vAtom k q) = manyL (6 * k + (q + 1)) from by
          show _ = putA (manyL (6 * k + q)) (vAtom ((6 * k + q) / 6) ((6 * k + q) % 6))
          rw [show (6 * k + q) / 6 = k from by omega, show (6 * k + q) % 6 = q from by omega])
         have tok : True := trivial; clear hd1 hd2 hn2
         go_wp2_with (first
          | (go_at_call 75; have _t := tok; refine (HC1.out _).mono ?_; clear tok _t; rintro e w3 ⟨rfl, hx3⟩
             have HX3 := Lib.hid hx3
             clear hx3)
          | (go_at_call 75; refine (HC2.out _).mono ?_; rintro e w4 ⟨rfl, hx4⟩
             have HX4 := Lib.hid (HX3.out.trans' hx4); have HB4 := Lib.hid (Blk.new w4 71 #[.bool false, .string (⟨#[118]⟩ ++ d1), .bool false, .string (⟨#[118]⟩ ++ d2)])
             have HT4 := Lib.hid (show TermsR (From w4.heap.size) (w4.alloc (.cells #[.bool false, .string (⟨#[118]⟩ ++ d1), .bool false, .string (⟨#[118]⟩ ++ d2)] 71)) (.slice (some ⟨w4.heap.size, 0, none⟩) 2 2) (vAtom k q).args from by
              have h := terms_two HB4.out (by rw [HV1.out]; show 2 ≤ 1000; omega) (by rw [HV2'.out]; show 2 ≤ 1000; omega); unfold vAtom; rw [← HV1.out, ← HV2'.out]
              exact h)
             have hz4 := (HX3.out.trans' hx4).size
             clear hx4)
          | (go_at_call 74; refine (l3Put_any (S := From w.heap.size) (T := From w.heap.size) _ _ (manyL (6 * k + q)) (vAtom k q) _ (hv.out.ext (HX4.out.alloc _)) (TermsR.sub HT4.out (fromLe (Nat.le_trans (Nat.le_trans hz2' hx.size) hz4))) (show 1 ≤ maxLen from maxOf (by omega)) (by rw [← HL.out]; exact hlen)).mono ?_; rintro e w5 ⟨⟨v5, rfl, hv5⟩, hx5⟩
             have HV5 := Lib.hid (AtomsR.sub (S' := From w.heap.size) hv5 (fun b hb => hb.elim (fun h => Nat.le_trans (Nat.le_trans (Nat.le_trans hz2' hx.size) hz4) (Nat.le_trans (by simp) h)) (fun h => h.elim id id))); have HX5 := Lib.hid ((HX4.out.alloc _).trans' hx5)
             clear hv5 hx5))
         go_roundw
         case rel => exact ⟨q + 1, by go_num, by omega, (by rw [← HM2.out]; exact HV5), hx.trans' HX5.out⟩
         case measure => simp [intOf]; omega
       have hq6 : q = 6 := by omega
       subst hq6
       have HV6 := Lib.hid (show AtomsR (From w.heap.size) wr (.slice A2 n2 c2) (manyL (6 * (k + 1))) from by
        rw [show 6 * (k + 1) = 6 * k + 6 from by omega]; exact hv.out)
       clear hn2; go_wp2
       go_roundw
       case rel => exact ⟨k + 1, by go_num, by omega, HV6, hx⟩
       case measure => simp [intOf]; omega
    have hk7 : k = 7 := by omega
    subst hk7; have h42 : (manyL (6 * 7)).length = 42 := many_len; rw [h42] at hc11 hv ⊢; have HR5 := Lib.hid (HR2.out.ext hx)
    go_wp2_with (first
     | (go_at_call 73; refine (rdPick_any rb (m + 1 + 7 * 9 + 1) 2 _ (by omega) HR5.out (by omega)).mono ?_; rintro e w6 ⟨⟨z6, hz6, rfl⟩, hr6, he6⟩
        have HR6 := Lib.hid hr6; have HE6 := Lib.hid ((HE2.out.trans' (Else.of_ext hx)).trans' he6); have HV6 := Lib.hid (AtomsR.imp hv.out (fun _ h => h) (he6.from_ hrl) he6.size)
        have hz60 : (0 : Int) ≤ (z6 : Int) := (by omega)
        have hz61 : (z6 : Int) ≤ 1 := (by omega)
        have hcc : (42 : Int) ≤ (c1 : Int) := (by omega)
        have hw6 : IntKind.i64.wrap (40 + (z6 : Int)) = 40 + (z6 : Int) := (by rw [IntKind.wrap_i64]; omega)
        clear hr6 he6))
    have hz6' : z6 ≤ 1 := by omega
    refine bodyPost_ret (v := .slice A1 (40 + z6) c1) (by simp [results, Tryz.results98, go_sem]) rfl ?_; exact ⟨⟨_, (manyL (6 * 7)).take (40 + z6), rfl, SliceR.take HV6.out (40 + z6) (by omega), by rw [List.length_take]; omega, fun x hx => many_mids _ x (List.mem_of_mem_take hx)⟩, HR6.out.le (by omega), HE6.out⟩
 refine bodyPost_ret (v := .slice A n c) (by simp [results, Tryz.results98, go_sem]) rfl ?_; exact ⟨⟨_, xs, rfl, HV2.out.list (S' := From w.heap.size) (fun _ h => h) (fun _ h => h), by omega, HM1.out⟩, HR2.out.le (by omega), HE2.out⟩
theorem mid_w {a : GA} (h : mid a) : wAtom a ≤ 69 := by
 obtain ⟨h1, h2, h3⟩ := h; unfold wAtom wTerms
 have : (a.args.map wTerm).sum ≤ a.args.length * 9 := by
  generalize a.args = l at h2 h3
  clear h2
  induction l with
  | nil => simp
  | cons t l ih =>
    have := h3 t (by simp); have := ih (fun t ht => h3 t (List.mem_cons_of_mem _ ht)); simp only [List.map_cons, List.sum_cons, List.length_cons, wTerm] at *; omega
 omega
theorem signedL_mid {l : List GA} (c : UInt8) (h : mids l) : (signedL c l).length ≤ l.length * 73 := by
 induction l with
 | nil => simp [signedL]
 | cons a l ih =>
   have h1 := ih (fun t ht => h t (List.mem_cons_of_mem _ ht)); have h2 := atomL_len a; have h3 := mid_w (h a (by simp)); unfold signedL at h1 ⊢; simp only [List.map_cons, List.flatten_cons, List.length_append, List.length_cons, List.length_nil] at h1 ⊢; omega
set_option maxRecDepth 100000 in
set_option maxHeartbeats 8000000 in
theorem l10AnyChange_any (rb m : Nat) (w : World) (hr : Rd w rb m) (hp : m + 300 ≤ 1000000) :
 Calls Tryz.prog 41 #[.pointer (some ⟨rb, 0, none⟩)] w fun e w' =>
  (∃ (g : GC) (v u : Value), e = .returned (.agg #[v, u]) ∧ AtomsR (From w.heap.size) w' v g.comes ∧ AtomsR (From w.heap.size) w' u g.goes ∧ g.comes.length ≤ 41 ∧ g.goes.length ≤ 6 ∧ mids g.comes ∧ mids g.goes) ∧ Rd w' rb (m + 300) ∧ Else rb w w' := by
 have hrl := hr.lt; obtain ⟨i0, hi0, hz0, hz1, hz2⟩ := info_parts atom_info; have HR0 := Lib.hid (hr.ext ((Ext.refl w).alloc (.cells #[.slice none 0 0, .slice none 0 0] 32))); have HB := Lib.hid (Blk.new w 32 #[.slice none 0 0, .slice none 0 0]); clear hr
 go_enter Tryz.func41, Tryz.ntmps41
 go_wp2_with (fail)
 refine (l10ChangeK_any rb m _ HR0.out (by omega)).mono ?_; rintro e w1 ⟨⟨g, v, u, N, rfl, hv, hu, hN1, hN2, hl1, hl2, hs1, hs2⟩, hr1, he1⟩; obtain ⟨A, c, rfl, hc1, hc2⟩ := SliceR.form hv; obtain ⟨B, mm, d, rfl, hmm, hd1, hd2⟩ := hu.form2
 obtain ⟨nn, hnn⟩ : ∃ nn, nn = g.comes.length := ⟨_, rfl⟩
 rw [← hnn] at hv ⊢ hc1; simp only [World.size_alloc] at hN1; have HV1 := Lib.hid hv; have HU1 := Lib.hid (show OwnK kAtom N 54 (fun b => w.heap.size + 1 ≤ b ∧ b < w1.heap.size) w1 (.slice B mm d) g.goes from hu.low.sub (Nat.le_refl _) (fun b hb => ⟨by have h : (w.alloc _).heap.size ≤ b := hb.1; simp only [World.size_alloc] at h; exact h, hb.2⟩)); have HG := Lib.hid hu.at_; have HR1 := Lib.hid hr1; have HE1 := Lib.hid ((Else.of_ext (rb := rb) ((Ext.refl w).alloc _)).trans' he1); have HB1 := Lib.hid (HB.out.else_ he1 (by omega)); have HM1 := Lib.hid (show mids g.comes from fun x hx => small_mid (hs1 x hx)); have HM2 := Lib.hid (show mids g.goes from fun x hx => small_mid (hs2 x hx)); have HL := Lib.hid (show g.comes.length ≤ 5 ∧ g.goes.length ≤ 5 ∧ mm = g.goes.length from ⟨hl1, hl2, hmm.out⟩); clear hv hu hr1 he1 hs1 hs2 hmm hnn
 go_wp2_with (fail)
 refine (rdPick_any rb (m + 72) 16 _ (by omega) (HR1.out.ext ((Ext.refl _).alloc _)) (by omega)).mono ?_; rintro e w2 ⟨⟨z, hz, rfl⟩, hr2, he2⟩; have hQ := (Else.of_ext (rb := rb) ((Ext.refl w1).alloc (.cells #[.slice A nn c, .slice B mm d] 32))).trans' he2; have HR2 := Lib.hid hr2; have HE2 := Lib.hid (HE1.out.trans' hQ); have HQ := Lib.hid hQ; have hz1' := HE1.out.size; have HC2 := Lib.hid ((Blk.new w1 32 #[.slice A nn c, .slice B mm d]).else_ he2 (by omega)); have HB2 := Lib.hid (HB1.out.else_ hQ (by omega)); have HV2 := Lib.hid (AtomsR.imp HV1.out (fun _ h => h) (fun b hb hlt => hQ.agree b (fun e => by have := hb.1; simp only [World.size_alloc] at this; omega) hlt) hQ.size); have HU2 := Lib.hid (HU1.out.else_ hQ (by omega) (fun h => absurd h.1 (by omega))); have hlt2 := HC2.out.lt; have hlt0 := HB2.out.lt; have p0 := HC2.out.cell 0; have p1 := HC2.out.cell 1; have f0 := HC2.out.frozen 0; have f1 := HC2.out.frozen 1; have r0 := HB2.out.cell 0; have r1 := HB2.out.cell 1; have g0 := HB2.out.frozen 0; have g1 := HB2.out.frozen 1; clear hr2 he2 hQ HR0 HR1 HB HV1 HU1 HB1 HE1
 go_wp2_with (fail)
 · -- one more that goes
   clear p0 r0 r1
   go_region_law (first
    | (go_simp; go_at_call 97; refine (l10AnyAtom_any rb (m + 73) _ (HR2.out.ext (Ext.refl w2).drew) (by omega)).mono ?_; rintro e w3 ⟨⟨a, y, rfl, hy, ha⟩, hr3, he3⟩; obtain ⟨C, k, rfl, hk1, hk2⟩ := SliceR.form hy; have hq3 := (Else.of_ext (rb := rb) (Ext.refl w2).drew).trans' he3; have HQ3 := Lib.hid hq3; have HR3 := Lib.hid hr3; have HY3 := Lib.hid hy; have HA3 := Lib.hid ha; have HC3 := Lib.hid (HC2.out.else_ hq3 (by omega)); have HU3 := Lib.hid (HU2.out.else_ hq3 (by omega) (fun h => absurd h.1 (by omega))); have q1 := HC3.out.cell 1; have hz3 := hq3.size; have hlt3 := HC3.out.lt; have q2 := (((Ext.refl w3).alloc (.cells #[.string a.n, .slice C a.args.length k] 54)).cells.1 _ 1 hlt3).trans q1; clear hy ha hr3 he3 hq3)
    | (refine step_appK (o := ⟨some 15, _, _, _, _, _⟩) (k := kAtom) (S := fun b => w.heap.size + 1 ≤ b ∧ b ≠ w1.heap.size) (T := From w2.heap.size) (base := N) (xs := g.goes) (ys := [a]) (by rfl) (.tmp 11) (.tmp 14) 30 (by rfl) i0 _ 40 Tryz.underlying30 hi0 hz0 hz1 hz2 (by rfl) (by rfl) ((HU3.out.sub (Nat.le_refl _) (fun b hb => ⟨hb.1, Nat.ne_of_lt hb.2⟩)).ext ((Ext.refl _).alloc _)) _ 1 1 (by rfl) (ElemsK.one (k := kAtom) (x := a) (Blk.new w3 54 #[.string a.n, .slice C a.args.length k]) ⟨_, rfl, maxOf (by have := HA3.out.1; omega), (TermsR.sub HY3.out (fun b hb => hb)).ext ((Ext.refl _).alloc _)⟩) (fun b hb _ => ⟨Nat.le_trans (show w.heap.size + 1 ≤ w2.heap.size by omega) hb, by have h : w2.heap.size ≤ b := hb; omega⟩) (fun x hx hT => absurd (HG.out x hx).2 (Nat.not_lt.2 (Nat.le_trans (by omega) hT))) (maxOf (by have := HL.out; omega)) (by have := HL.out; omega) (by go_size) ?_; intro v5 w5 hap; obtain ⟨A5, n5, c5, rfl, hn5, ha5, hc5⟩ := hap.own.form2; have HAP := Lib.hid hap; have hb5 : Blk w5 w1.heap.size 32 #[.slice A nn c, .slice B mm d] := (hap.grown.block _ (by simp only [World.size_alloc]; omega) (fun e => by have := (HG.out _ e.symm).2; omega)).trans (HC3.out.alloc _); have q5 := hb5.cell 1; have f5 := hb5.frozen 1; have hlt5 := hb5.lt; have HB5 := Lib.hid hb5; clear hap hb5))
   all_goals
    have hR5 : Blk w5 w.heap.size 32 #[.slice none 0 0, .slice none 0 0] := ((HB2.out.else_ HQ3.out (by omega)).alloc _).below HAP.out.below (by omega); have hR6 := hR5.far (p := ⟨w1.heap.size, 1, none⟩) (by simp only; omega) (.slice A5 n5 c5)
    have hC6 : Blk (w5.setCell ⟨w1.heap.size, 1, none⟩ (.slice A5 n5 c5)) w1.heap.size 32 #[.slice A nn c, .slice A5 n5 c5] := by simpa using HB5.out.set_ 1 (.slice A5 n5 c5)
    clear p1 f0 f1 g0 g1 q1 q2 q5 f5; have p0 := hC6.cell 0; have p1 := hC6.cell 1; have r0 := hR6.cell 0; have r1 := hR6.cell 1; have g0 := hR6.frozen 0; have g1 := hR6.frozen 1; have hlt6 := hR6.lt; have hz5 := HAP.out.grown.size
    have hz5' : w3.heap.size ≤ w5.heap.size := by simp only [World.size_alloc] at hz5; omega
    clear hR5 hR6 hC6; go_wp2; refine bodyPost_ret (v := .agg #[.slice A nn c, .slice A5 n5 c5]) (by simp [results, Tryz.results41, go_sem, r0, r1]) rfl ?_
    have hA : ∀ S : Nat → Prop, (¬ S w.heap.size) → (¬ S w1.heap.size) → Agree S w5 (((w5.setCell ⟨w1.heap.size, 1, none⟩ (.slice A5 n5 c5)).setCell ⟨w.heap.size, 0, none⟩ (.slice A nn c)).setCell ⟨w.heap.size, 1, none⟩ (.slice A5 n5 c5)) := fun S h1 h2 => (((Agree.refl _ _).setCell h2 _).setCell h1 _).setCell h1 _
    have hE5 : Else rb w w5 := ((HE2.out.trans' HQ3.out).trans' (Else.of_ext ((Ext.refl _).alloc _))).below HAP.out.below (by omega)
    have hV5 : AtomsR (fun b => w.heap.size + 1 ≤ b ∧ b < N) w5 (.slice A nn c) g.comes := by
     have h1 := AtomsR.imp HV2.out (S' := fun b => w.heap.size + 1 ≤ b ∧ b < N) (fun b hb => ⟨by have h := hb.1; simp only [World.size_alloc] at h; exact h, hb.2⟩) (fun b hb hlt => HQ3.out.agree b (fun e => by have := hb.1; simp only [World.size_alloc] at this; omega) hlt) HQ3.out.size; have h2 := AtomsR.ext h1 ((Ext.refl _).alloc (.cells #[.string a.n, .slice C a.args.length k] 54)); exact AtomsR.imp h2 (fun _ h => h) (fun b hb hlt => HAP.out.below.block b hb.2) hz5
    refine ⟨⟨⟨g.comes, g.goes ++ [a]⟩, _, _, rfl, ?_, ?_, by have := HL.out; show g.comes.length ≤ 41; omega, by have := HL.out; show (g.goes ++ [a]).length ≤ 6; simp; omega, HM1.out, mids_snoc HM2.out HA3.out⟩, ?_, ?_⟩
    · exact AtomsR.imp hV5 (fun b hb => by have := hb.1; show w.heap.size ≤ b; omega) (hA _ (fun h => by have := h.1; omega) (fun h => by have := h.2; omega)) (by go_size)
    · have h1 := HAP.out.own.agree (w' := ((w5.setCell ⟨w1.heap.size, 1, none⟩ (.slice A5 n5 c5)).setCell ⟨w.heap.size, 0, none⟩ (.slice A nn c)).setCell ⟨w.heap.size, 1, none⟩ (.slice A5 n5 c5)) (hA _ (fun h => by have := h.1; omega) (fun h => h.2 rfl)) (fun x hx => by
        have hx1 := (HAP.out.own.at_ x hx).1
        have hx2 : x ≠ w1.heap.size := by
         rcases HAP.out.at_ with e | e
         · rw [e] at hx; have := (HG.out x hx).2; omega
         rw [e] at hx; injection hx with hx; simp only [World.size_alloc] at hx; omega
        exact ((Below.heap_setCell _ _ _ _ (by simp only; omega)).trans (Below.heap_setCell _ _ _ _ (by simp only; omega))).trans (Below.heap_setCell _ _ _ _ hx2)) (by go_size)
      exact h1.list (S' := From w.heap.size) (fun b hb => by have := hb.1; show w.heap.size ≤ b; omega) (fun b hb => by show w.heap.size ≤ b; omega)
    · exact (((HR3.out.ext ((Ext.refl _).alloc _)).below HAP.out.below (by omega)).keep (hA _ (by omega) (by omega)) (by go_size)).le (by omega)
    exact ⟨hE5.os, hE5.tape, hE5.output, by have := hE5.size; go_size, fun k hk hne => (hA (fun b => b < w.heap.size) (by omega) (by omega) k hk (Nat.lt_of_lt_of_le hk hE5.size)).trans (hE5.block k hk hne)⟩
 · -- what comes anew
   refine (l10AnyFacts_any rb (m + 73) _ HR2.out (by omega)).mono ?_; rintro e w3 ⟨⟨v3, xs, rfl, hv3, hl3, hs3⟩, hr3, he3⟩; obtain ⟨C, k, rfl, hk1, hk2⟩ := SliceR.form hv3
   obtain ⟨n3, hn3⟩ : ∃ n3, n3 = xs.length := ⟨_, rfl⟩
   rw [← hn3] at hv3 hk1 ⊢; have hz3 := he3.size; have hR3 := HB2.out.else_ he3 (by omega); have hC3 := HC2.out.else_ he3 (by omega); have HV3 := Lib.hid hv3; have HS3 := Lib.hid (show xs.length ≤ 41 ∧ mids xs from ⟨hl3, hs3⟩); have HR3 := Lib.hid hr3; have HE3 := Lib.hid (HE2.out.trans' he3); have HU3 := Lib.hid (HU2.out.else_ he3 (by omega) (fun h => absurd h.1 (by omega)))
   have hC4 : Blk (w3.setCell ⟨w1.heap.size, 0, none⟩ (.slice C n3 k)) w1.heap.size 32 #[.slice C n3 k, .slice B mm d] := by simpa using hC3.set_ 0 (.slice C n3 k)
   have hR4 := hR3.far (p := ⟨w1.heap.size, 0, none⟩) (by simp only; omega) (.slice C n3 k); clear p0 p1 f0 f1 r0 r1 g0 g1 hv3 hr3 he3 hl3 hs3 hn3; have hlt3 := hC3.lt; have q0 := hC3.cell 0; have f0 := hC3.frozen 0; have p0 := hC4.cell 0; have p1 := hC4.cell 1; have r0 := hR4.cell 0; have r1 := hR4.cell 1; have g0 := hR4.frozen 0; have g1 := hR4.frozen 1; have hlt4 := hR4.lt; clear hR3 hC3 hC4 hR4; go_wp2; refine bodyPost_ret (v := .agg #[.slice C n3 k, .slice B mm d]) (by simp [results, Tryz.results41, go_sem, r0, r1]) rfl ?_
   have hA : ∀ S : Nat → Prop, (¬ S w.heap.size) → (¬ S w1.heap.size) → Agree S w3 (((w3.setCell ⟨w1.heap.size, 0, none⟩ (.slice C n3 k)).setCell ⟨w.heap.size, 0, none⟩ (.slice C n3 k)).setCell ⟨w.heap.size, 1, none⟩ (.slice B mm d)) := fun S h1 h2 => (((Agree.refl _ _).setCell h2 _).setCell h1 _).setCell h1 _
   refine ⟨⟨⟨xs, g.goes⟩, _, _, rfl, ?_, ?_, HS3.out.1, by have := HL.out; show g.goes.length ≤ 6; omega, HS3.out.2, HM2.out⟩, (HR3.out.keep (hA _ (by omega) (by omega)) (by go_size)).le (by omega), ?_⟩
   · exact AtomsR.imp HV3.out (fromLe (by omega)) (hA _ (by simp; omega) (by simp; omega)) (by go_size)
   · have h1 := HU3.out.agree (w' := ((w3.setCell ⟨w1.heap.size, 0, none⟩ (.slice C n3 k)).setCell ⟨w.heap.size, 0, none⟩ (.slice C n3 k)).setCell ⟨w.heap.size, 1, none⟩ (.slice B mm d)) (hA _ (fun h => by have := h.1; omega) (fun h => by have := h.2; omega)) (fun x hx => by
       have hx1 := (HU3.out.at_ x hx).1; have hx2 := (HG.out x hx).2
       exact ((Below.heap_setCell _ _ _ _ (by simp only; omega)).trans (Below.heap_setCell _ _ _ _ (by simp only; omega))).trans (Below.heap_setCell _ _ _ _ (by simp only; omega))) (by go_size)
     exact h1.list (S' := From w.heap.size) (fun b hb => by have := hb.1; show w.heap.size ≤ b; omega) (fun b hb => by show w.heap.size ≤ b; omega)
   exact ⟨HE3.out.os, HE3.out.tape, HE3.out.output, by have := HE3.out.size; go_size, fun k hk hne => (hA (fun b => b < w.heap.size) (by omega) (by omega) k hk (Nat.lt_of_lt_of_le hk HE3.out.size)).trans (HE3.out.block k hk hne)⟩
 refine bodyPost_ret (v := .agg #[.slice A nn c, .slice B mm d]) (by simp [results, Tryz.results41, go_sem, r0, r1]) rfl ?_
 have hA : ∀ S : Nat → Prop, (¬ S w.heap.size) → Agree S w2 ((w2.setCell ⟨w.heap.size, 0, none⟩ (.slice A nn c)).setCell ⟨w.heap.size, 1, none⟩ (.slice B mm d)) := fun S h1 => ((Agree.refl _ _).setCell h1 _).setCell h1 _
 refine ⟨⟨g, _, _, rfl, ?_, ?_, by have := HL.out; omega, by have := HL.out; omega, HM1.out, HM2.out⟩, (HR2.out.keep (hA _ (by omega)) (by go_size)).le (by omega), ?_⟩
 · exact AtomsR.imp HV2.out (fun b hb => by have h := hb.1; simp only [World.size_alloc] at h; show w.heap.size ≤ b; omega) (hA _ (fun h => by have h := h.1; simp only [World.size_alloc] at h; omega)) (by go_size)
 · have h1 := HU2.out.agree (w' := (w2.setCell ⟨w.heap.size, 0, none⟩ (.slice A nn c)).setCell ⟨w.heap.size, 1, none⟩ (.slice B mm d)) (hA _ (fun h => by have := h.1; omega)) (fun x hx => by
     have hx1 := (HU2.out.at_ x hx).1
     exact (Below.heap_setCell _ _ _ _ (by simp only; omega)).trans (Below.heap_setCell _ _ _ _ (by simp only; omega))) (by go_size)
   exact h1.list (S' := From w.heap.size) (fun b hb => by have := hb.1; show w.heap.size ≤ b; omega) (fun b hb => by show w.heap.size ≤ b; omega)
 exact ⟨HE2.out.os, HE2.out.tape, HE2.out.output, by have := HE2.out.size; go_size, fun k hk hne => (hA (fun b => b < w.heap.size) (by omega) k hk (Nat.lt_of_lt_of_le hk HE2.out.size)).trans (HE2.out.block k hk hne)⟩
theorem Builds.le {B b : Nat} {l : List UInt8} {w : World} (h : Builds B b l w) : B ≤ b := by
 rcases h with h | h
 · exact h.1
 exact h.1
set_option maxRecDepth 100000 in
set_option maxHeartbeats 2000000 in
theorem one_any (rb m g n : Nat) (t : TypeId) (cs : Array Value) (w : World) (hb : Blk w g t cs) (hg : g ≠ rb) (hn : cs.size = n ∧ 1 ≤ n ∧ n ≤ 1000) (hi : ∀ i, i < n → ∃ z : Int, cs[i]? = some (.int .i64 z)) (hr : Rd w rb m) (hp : m + 1 ≤ 1000000) :
 Calls Tryz.prog 40 #[.pointer (some ⟨rb, 0, none⟩), .slice (some ⟨g, 0, none⟩) n n] w fun e w' => (∃ z : Int, e = .returned (.int .i64 z)) ∧ Rd w' rb (m + 1) ∧ Else rb w w' := by
 have HB := Lib.hid hb; have HI := Lib.hid hi; have HR := Lib.hid hr; obtain ⟨hn0, hn1, hn2⟩ := hn; clear hb hi hr hn0
 go_enter Tryz.func40, Tryz.ntmps40
 go_wp2_with (first
  | (go_at_call 73; refine (rdPick_any rb m n _ (by omega) HR.out hp).mono ?_; rintro e w1 ⟨⟨z, hz, rfl⟩, hr1, he1⟩
     obtain ⟨y, hy⟩ := HI.out z hz
     have hc0 : w1.cell? ⟨g, 0 + z, none⟩ = some (.int .i64 y) := by rw [Nat.zero_add, (HB.out.else_ he1 hg).cell]; exact hy
     have hc1 : w1.cell? ⟨g, z, none⟩ = some (.int .i64 y) := by rw [(HB.out.else_ he1 hg).cell]; exact hy
     have hz0 : (0 : Int) ≤ (z : Int) := (by omega)
     have hz1 : (z : Int) < (n : Int) := (by omega)
     have HR1 := Lib.hid hr1; have HE1 := Lib.hid he1
     clear hr1 he1 hy)
  | fail)
 go_ret; exact ⟨⟨y, rfl⟩, HR1.out, HE1.out⟩
set_option maxRecDepth 100000 in
set_option maxHeartbeats 4000000 in
theorem drawLogPut_any (v : Value) (xs : List UInt8) (w : World) {S : Nat → Prop} (hv : BytesR S w v xs) :
 Calls Tryz.prog 12 #[v] w fun e w' => (∃ (z : Int) (g : GC) (v u : Value), e = .returned (.tuple #[.int .i64 z, .agg #[v, u]]) ∧ AtomsR (From w.heap.size) w' v g.comes ∧ AtomsR (From w.heap.size) w' u g.goes ∧ g.comes.length ≤ 41 ∧ g.goes.length ≤ 6 ∧ mids g.comes ∧ mids g.goes) ∧ Ext w w' := by
 obtain ⟨A, c, rfl, hc1, hc2⟩ := SliceR.form hv; have HV := Lib.hid (hv.ext ((Ext.refl w).alloc (.cells #[.slice none 0 0, .slice none 0 0] 32))); have HB := Lib.hid (Blk.new w 32 #[.slice none 0 0, .slice none 0 0]); clear hv
 go_enter Tryz.func12, Tryz.ntmps12
 go_wp2_with (first
  | (go_at_call 29; refine (l1Open_any _ xs _ HV.out).mono ?_; rintro e w1 ⟨rb, rfl, hr1, hx1, hrb⟩
     simp only [World.size_alloc] at hrb; have HR1 := Lib.hid (show Rd w1 rb 0 from ⟨0, Nat.le_refl _, hr1⟩); have hw1 := hx1.size; have HB1 := Lib.hid (HB.out.ext hx1); have HX1 := Lib.hid (((Ext.refl w).alloc (.cells #[.slice none 0 0, .slice none 0 0] 32)).trans' hx1); have hrl := HR1.out.lt
     clear hr1 hx1)
  | (go_at_call 40; refine (one_any rb 0 w1.heap.size 6 _ _ _ (Blk.new w1 _ _) (by omega) ⟨by rfl, by omega, by omega⟩ (fun i hi => by
       match i, hi with
       | 0, _ => exact ⟨0, rfl⟩
       | 1, _ => exact ⟨1, rfl⟩
       | 2, _ => exact ⟨7, rfl⟩
       | 3, _ => exact ⟨100000, rfl⟩
       | 4, _ => exact ⟨100001, rfl⟩
       | 5, _ => exact ⟨-1, rfl⟩) (HR1.out.ext ((Ext.refl _).alloc _)) (by omega)).mono ?_; rintro e w2 ⟨⟨z, rfl⟩, hr2, he2⟩
     have HR2 := Lib.hid hr2; have hq2 := Else.trans' (Else.of_ext (rb := rb) ((Ext.refl w1).alloc (.cells #[.int .i64 0, .int .i64 1, .int .i64 7, .int .i64 100000, .int .i64 100001, .int .i64 (-1)] 3))) he2; have HX2 := Lib.hid (Else.toExt HX1.out hq2 (by omega)); have HB2 := Lib.hid (HB1.out.else_ hq2 (by omega)); have hw2 := hq2.size
     clear hr2 he2 hq2)
  | (go_at_call 41; refine (l10AnyChange_any rb 1 _ HR2.out (by omega)).mono ?_; rintro e w3 ⟨⟨g, v3, u3, rfl, hv3, hu3, h1, h2, h3, h4⟩, hr3, he3⟩
     obtain ⟨B3, d3, rfl, _, _⟩ := SliceR.form hv3; obtain ⟨C3, f3, rfl, _, _⟩ := SliceR.form hu3; have HV3 := Lib.hid hv3; have HU3 := Lib.hid hu3; have HM3 := Lib.hid (show g.comes.length ≤ 41 ∧ g.goes.length ≤ 6 ∧ mids g.comes ∧ mids g.goes from ⟨h1, h2, h3, h4⟩); have HX3 := Lib.hid (Else.toExt HX2.out he3 (by omega)); have hb3 := HB2.out.else_ he3 (by omega); have p0 := hb3.cell 0; have p1 := hb3.cell 1; have f0 := hb3.frozen 0; have f1 := hb3.frozen 1; have pl := hb3.lt
     clear hv3 hu3 hr3 he3 h1 h2 h3 h4 hb3)
  | fail)
 refine bodyPost_ret (v := .tuple #[.int .i64 z, .agg #[.slice B3 g.comes.length d3, .slice C3 g.goes.length f3]]) (by simp [results, Tryz.results12, go_sem, p0, p1]) rfl ?_
 have hA : ∀ S : Nat → Prop, (¬ S w.heap.size) → Agree S w3 ((w3.setCell ⟨w.heap.size, 0, none⟩ (.slice B3 g.comes.length d3)).setCell ⟨w.heap.size, 1, none⟩ (.slice C3 g.goes.length f3)) := fun S hS => ((Agree.refl _ _).setCell hS _).setCell hS _
 have hnl : ¬ From w2.heap.size w.heap.size := by show ¬ w2.heap.size ≤ w.heap.size; omega
 exact ⟨⟨z, g, _, _, rfl, (HV3.out.imp (fun _ h => h) (hA _ hnl) (by go_size)).sub (fromLe (by omega)), (HU3.out.imp (fun _ h => h) (hA _ hnl) (by go_size)).sub (fromLe (by omega)), HM3.out⟩, Ext.setNew (Ext.setNew HX3.out (Nat.le_refl _) _) (Nat.le_refl _) _⟩
end Go.Proofs.YtmihponoillihaaGreatDoor
