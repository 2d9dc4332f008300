/- The walk of DrawSum. -/
import Derived.Test.YthndnkafckapnaaGreatDoorDrawE
import Derived.Test.YthndnkafckapnaaGreatDoorSpecE
import Derived.Test.YthndnkafckapnaaGreatDoorKinds
namespace Go.Proofs.YthndnkafckapnaaGreatDoor
open Go.RowKit

set_option maxRecDepth 100000 in
set_option maxHeartbeats 2000000 in
theorem l10ChangeK_any (rb m : Nat) (w : World) (hr : Rd w rb m) (hp : m + 72 ≤ 1000000) :
    Calls Tryz.prog 47 #[.pointer (some ⟨rb, 0, none⟩)] w fun e w' =>
      (∃ (g : GC) (v u : Value) (N : Nat), e = .returned (.agg #[v, u]) ∧ AtomsR (fun b => w.heap.size ≤ b ∧ b < N) w' v g.comes ∧ OwnK kAtom N 67 (From w.heap.size) w' u g.goes ∧ w.heap.size < N ∧ N ≤ w'.heap.size ∧ g.comes.length ≤ 5 ∧ g.goes.length ≤ 5 ∧ smalls g.comes ∧ smalls g.goes) ∧ Rd w' rb (m + 72) ∧ Else rb w w' := by
  have hrl := hr.lt
  have HR := Lib.hid hr
  have HB := Lib.hid (Blk.new w 25 #[.slice none 0 0, .slice none 0 0])
  have tok : True := trivial
  have tok2 : True := trivial
  clear hr
  go_enter Tryz.func47, Tryz.ntmps47
  go_wp2_with (first
    | (go_at_call 91; have _t := tok; refine (l10Facts_any rb m 5 _ (HR.out.ext ((Ext.refl _).alloc _)) (by omega) (by omega)).mono ?_; clear tok _t; rintro e w1 ⟨⟨v1, xs, rfl, hv1, hl1, hs1⟩, hr1, he1⟩; obtain ⟨A, c, rfl, hc1, hc2⟩ := SliceR.form hv1; have HV1 := Lib.hid hv1; have HR1 := Lib.hid hr1; have HB1 := Lib.hid (HB.out.else_ he1 (by omega)); have HE1 := Lib.hid ((Else.of_ext (rb := rb) ((Ext.refl w).alloc (.cells #[.slice none 0 0, .slice none 0 0] 25))).trans' he1); have HS1 := Lib.hid hs1; have hz1 := he1.size; clear hv1 hr1 he1 hs1)
    | (go_at_call 91; have _t := tok2; refine (l10Facts_any rb (m + 36) 5 _ (HR1.out.le (by omega)) (by omega) (by omega)).mono ?_; clear tok2 _t; rintro e w2 ⟨⟨v2, ys, rfl, hv2, hl2, hs2⟩, hr2, he2⟩; obtain ⟨B, d, rfl, hd1, hd2⟩ := SliceR.form hv2; have HV2 := Lib.hid hv2; have HR2 := Lib.hid hr2; have HB2 := Lib.hid (HB1.out.else_ he2 (by omega)); have HE2 := Lib.hid he2; have HS2 := Lib.hid hs2; have hz2 := he2.size; clear hv2 hr2 he2 hs2)
    | (go_at_call 92; refine (l3Less_any _ _ ys xs _ HV2.out (HV1.out.imp (fun _ h => h) (HE2.out.from_ (by simp; omega)) hz2) (by have := smalls_w HS2.out; omega)).mono ?_; rintro e w3 ⟨⟨v3, rfl, hv3, ho3⟩, hx3⟩; obtain ⟨C, d3, rfl, hd3, hd4⟩ := SliceR.form hv3; have HV3 := Lib.hid ho3; have HX3 := Lib.hid hx3; have HB3 := Lib.hid (HB2.out.ext hx3); have q0 := HB3.out.cell 0; have q1 := HB3.out.cell 1; have f0 := HB3.out.frozen 0; have f1 := HB3.out.frozen 1; have hl3 := HB3.out.lt; have hz3 := hx3.size; clear hv3 ho3 hx3))
  have hlt1 := HB1.out.lt
  refine bodyPost_ret (v := .agg #[.slice A xs.length c, .slice C (lessA ys xs).length d3]) (by simp [results, Tryz.results47, go_sem, q0, q1]) rfl ?_
  have hA : ∀ S : Nat → Prop, (¬ S w.heap.size) → Agree S w3 ((w3.setCell ⟨w.heap.size, 0, none⟩ (.slice A xs.length c)).setCell ⟨w.heap.size, 1, none⟩ (.slice C (lessA ys xs).length d3)) := fun S hS => ((Agree.refl _ _).setCell hS _).setCell hS _
  have hlen := lessA_len ys xs
  simp only [World.size_alloc] at hz1
  refine ⟨⟨⟨xs, lessA ys xs⟩, _, _, w2.heap.size, rfl, ?_, ?_, by omega, by go_size, hl1, by show (lessA ys xs).length ≤ 5; omega, HS1.out, smalls_less HS2.out⟩, (HR2.out.ext HX3.out).keep (hA _ (by simp; omega)) (by go_size) |>.le (by omega), ?_⟩
  · have h1 : AtomsR (From (w.heap.size + 1)) w1 (.slice A xs.length c) xs := AtomsR.sub HV1.out (fromLe (by simp))
    have h2 := (AtomsR.impL (S' := fun b => w.heap.size + 1 ≤ b ∧ b < w1.heap.size) h1 (fun b hb hlt => ⟨hb, hlt⟩) (HE2.out.from_ (by omega)) hz2).ext HX3.out
    exact AtomsR.imp h2 (fun b hb => ⟨by have := hb.1; omega, by have := hb.2; omega⟩) (hA _ (fun h => by have := h.1; omega)) (by go_size)
  · exact ((HV3.out.set (p := ⟨w.heap.size, 0, none⟩) (by simp only; omega) (fun h => absurd (show w2.heap.size ≤ w.heap.size from h) (by omega)) _).set (p := ⟨w.heap.size, 1, none⟩) (by simp only; omega) (fun h => absurd (show w2.heap.size ≤ w.heap.size from h) (by omega)) _).sub (Nat.le_refl _) (fromLe (by omega))
  · have hE := (HE1.out.trans' HE2.out).trans' (Else.of_ext HX3.out)
    refine ⟨hE.os, hE.tape, hE.output, by have := hE.size; go_size, fun k hk hne => ?_⟩
    exact (hA (fun b => b < w.heap.size) (by simp) k hk (Nat.lt_of_lt_of_le hk hE.size)).trans (hE.block k hk hne)

theorem l10Change_any (rb m : Nat) (w : World) (hr : Rd w rb m) (hp : m + 72 ≤ 1000000) :
    Calls Tryz.prog 47 #[.pointer (some ⟨rb, 0, none⟩)] w fun e w' =>
      (∃ (g : GC) (v u : Value), e = .returned (.agg #[v, u]) ∧ AtomsR (From w.heap.size) w' v g.comes ∧ AtomsR (From w.heap.size) w' u g.goes ∧ g.comes.length ≤ 5 ∧ g.goes.length ≤ 5 ∧ smalls g.comes ∧ smalls g.goes) ∧ Rd w' rb (m + 72) ∧ Else rb w w' :=
  (l10ChangeK_any rb m w hr hp).mono fun e w' ⟨⟨g, v, u, N, h1, h2, h3, h4, _, h5⟩, h6⟩ => ⟨⟨g, v, u, h1, AtomsR.sub h2 (fun b hb => hb.1), h3.list (S' := From w.heap.size) (fun _ h => h) (fun b hb => Nat.le_trans (Nat.le_of_lt h4) hb), h5⟩, h6⟩

theorem signedL_small {l : List GA} (c : UInt8) (h : smalls l) : (signedL c l).length ≤ l.length * 39 := by
  induction l with
  | nil => simp [signedL]
  | cons a l ih =>
    have h1 := ih (fun t ht => h t (List.mem_cons_of_mem _ ht))
    have h2 := atomL_len a
    have h3 := small_w (h a (by simp))
    unfold signedL at h1 ⊢
    simp only [List.map_cons, List.flatten_cons, List.length_append, List.length_cons, List.length_nil] at h1 ⊢
    omega

end Go.Proofs.YthndnkafckapnaaGreatDoor
