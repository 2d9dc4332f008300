/- For every text FnExactChangeGet returns true: the walk. -/
import Derived.Test.YtgcknheoojpokaaDoorReadI
import Derived.Test.YtgcknheoojpokaaDoorMark
import Derived.Test.YtgcknheoojpokaaDoorEq
namespace Go.Proofs.YtgcknheoojpokaaDoor
open Go.RowKit

/-- What reading a change hands back, be there one or not. -/
def GotC (N : Nat) (g : GC) (b : Bool) (n m : Nat) (e : Ending) (w' : World) : Prop :=
  ∃ (A B : Option Addr) (c d : Nat) (S T : Nat → Prop), e = .returned (.tuple #[.agg #[.slice A n c, .slice B m d], .bool b]) ∧ (n ≤ c ∧ c ≤ 9223372036854775807 ∧ m ≤ d ∧ d ≤ 9223372036854775807) ∧
    AtomsO S w' (.slice A n c) g.comes ∧ AtomsO T w' (.slice B m d) g.goes ∧ (∀ b, S b → N ≤ b ∧ b < w'.heap.size) ∧ (∀ b, T b → N ≤ b ∧ b < w'.heap.size) ∧ ∀ b, S b → ¬ T b
theorem GotChange.toC {N : Nat} {o : Option GC} {e : Ending} {w' : World} (h : GotChange N o e w') {n m : Nat} (hn : n = (o.getD noneC).comes.length) (hm : m = (o.getD noneC).goes.length) : GotC N (o.getD noneC) o.isSome n m e w' := by
  subst hn; subst hm
  cases o with
  | none => exact ⟨none, none, 0, 0, fun _ => False, fun _ => False, h, ⟨Nat.le_refl _, by omega, Nat.le_refl _, by omega⟩, SliceO.nil 0 (Nat.zero_le _) none, SliceO.nil 0 (Nat.zero_le _) none, fun _ h => h.elim, fun _ h => h.elim, fun _ h => h.elim⟩
  | some g =>
    obtain ⟨v, u, S, T, he, hv, hu, h1, h2, h3⟩ := h
    obtain ⟨A, c, rfl, k1, k2⟩ := SliceO.form hv
    obtain ⟨B, d, rfl, k3, k4⟩ := SliceO.form hu
    exact ⟨A, B, c, d, _, _, he, ⟨k1, k2, k3, k4⟩, SliceO.low hv, SliceO.low hu, fun b hb => ⟨h1 b hb.1, hb.2⟩, fun b hb => ⟨h2 b hb.1, hb.2⟩, fun b hb ht => h3 b hb.1 ht.1⟩
theorem costAs_le : ∀ {l : List GA}, (∀ a ∈ l, atomOkB a = true) → costAs l ≤ 7 * l.length
  | [], _ => by simp [costAs]
  | a :: l, h => by
    have h1 := (atom_parts (h a (by simp))).2.1
    have h2 := costAs_le (l := l) (fun a ha => h a (List.mem_cons_of_mem _ ha))
    simp only [costAs, List.map_cons, List.sum_cons, List.length_cons, costA] at *
    omega
theorem facts_few {l : List GA} {n : Nat} (h : factsB l n = true) : l.length ≤ n := by
  unfold factsB at h
  simp only [Bool.and_eq_true, decide_eq_true_eq] at h
  omega
theorem change_cost (l : List UInt8) : costAs ((changeOf l).getD noneC).comes + costAs ((changeOf l).getD noneC).goes ≤ 4200 := by
  cases h : changeOf l with
  | none => decide
  | some g =>
    have h1 := (changeOf_is h).1
    obtain ⟨h2, h3⟩ := changeOk_ok h1
    have h4 := costAs_le h2
    have h5 := costAs_le h3
    unfold changeOkB at h1
    simp only [Bool.and_eq_true] at h1
    have h6 := facts_few h1.1.1
    have h7 := facts_few h1.1.2
    show costAs g.comes + costAs g.goes ≤ 4200
    omega

set_option maxRecDepth 100000 in
set_option maxHeartbeats 2000000 in
theorem exactChangeGet_any (s : ByteArray) (w : World) (hs : s.size ≤ maxLen) (hm : MaxIs w) :
    Calls Tryd.prog 4 #[.string s] w fun e w' => e = .returned (.bool true) ∧ Ext w w' := by
  unfold maxLen at hs
  by_cases hbig : 1048576 < s.size
  · clear hm
    go_enter Tryd.func4, Tryd.ntmps4
    go_wp2
    go_ret
    exact ⟨rfl, Ext.refl _⟩
  have hs4 : s.size ≤ 4194304 := by omega
  obtain ⟨g, hg⟩ : ∃ g, g = (changeOf s.data.toList).getD noneC := ⟨_, rfl⟩
  obtain ⟨b, hb⟩ : ∃ b, b = (changeOf s.data.toList).isSome := ⟨_, rfl⟩
  obtain ⟨n, hn⟩ : ∃ n, n = g.comes.length := ⟨_, rfl⟩
  obtain ⟨m, hm'⟩ : ∃ m, m = g.goes.length := ⟨_, rfl⟩
  obtain ⟨K, hK⟩ : ∃ K, K = 1 + costAs g.comes + costAs g.goes := ⟨_, rfl⟩
  have hcost := change_cost s.data.toList
  rw [← hg] at hcost
  have hK1 : 1 ≤ K := by omega
  have hK2 : K ≤ 100000000 := by omega
  have HS := Lib.hid (fun W => show Calls Tryd.prog 10 #[.string s] W fun e w' => GotC W.heap.size g b n m e w' ∧ Ext W w' from (specChangeGet_any s W hs4).mono fun e w' ⟨h1, h2⟩ => ⟨by
    have h := GotChange.toC h1 (hn.trans (by rw [hg])) (hm'.trans (by rw [hg]))
    rw [← hg, ← hb] at h; exact h, h2⟩)
  have HI := Lib.hid (fun W (hW : Ext w W) => show Calls Tryd.prog 11 #[.string s] W fun e w' => GotC W.heap.size g b n m e w' ∧ Ext W w' from (changeGet_any s W hs4 (hm.ext hW)).mono fun e w' ⟨h1, h2⟩ => ⟨by
    have h := GotChange.toC h1 (hn.trans (by rw [hg])) (hm'.trans (by rw [hg]))
    rw [← hg, ← hb] at h; exact h, h2⟩)
  have HMK := Lib.hid (fun (v u : Value) (W : World) (S T : Nat → Prop) (hv : AtomsO S W v g.comes) (hu : AtomsO T W u g.goes) (hd : ∀ i, S i → ¬ T i) => show Calls Tryd.prog 12 #[.agg #[v, u], .int .i64 1] W fun e w' => e = .returned (.int .i64 K) ∧ AtomsO S w' v (mAtoms 1 g.comes) ∧ AtomsO T w' u (mAtoms (1 + costAs g.comes) g.goes) ∧ Inside (fun i => S i ∨ T i) W w' from
    (markChange_any g v u 1 W hv hu hd (Nat.le_refl _) (by omega)).mono fun e w' ⟨⟨q, hq, he⟩, h⟩ => ⟨by rw [he, hq, hK], h⟩)
  have HHD := Lib.hid (fun (v u : Value) (W : World) (S T : Nat → Prop) (hv : AtomsR S W v (mAtoms 1 g.comes)) (hu : AtomsR T W u (mAtoms (1 + costAs g.comes) g.goes)) => show Calls Tryd.prog 13 #[.agg #[v, u], .int .i64 1] W fun e w' => e = .returned (.int .i64 K) ∧ Ext W w' from
    (heldChange_any g v u 1 W hv hu (Nat.le_refl _) (by omega)).mono fun e w' ⟨⟨q, hq, he⟩, h⟩ => ⟨by rw [he, hq, hK], h⟩)
  have HEQ := Lib.hid (fun (v1 u1 v2 u2 : Value) (W : World) (h1 : AtomsR Any W v1 g.comes) (h2 : AtomsR Any W u1 g.goes) (h3 : AtomsR Any W v2 g.comes) (h4 : AtomsR Any W u2 g.goes) => eqChange_same g v1 u1 v2 u2 W h1 h2 h3 h4)
  have tok : True := trivial
  have tok2 : True := trivial
  have tok3 : True := trivial
  clear hm hg hb hn hm' hK hcost hs4
  go_enter Tryd.func4, Tryd.ntmps4
  go_wp2_with (first
    | (go_at_call 10; refine (HS.out _).mono ?_; rintro e w1 ⟨⟨A1, B1, c1, d1, S1, T1, rfl, ⟨k11, k12, k13, k14⟩, hv1, hu1, hS1, hT1, _⟩, hx1⟩
       have HV1 := Lib.hid (AtomsR.sub (S' := fun b => b < w1.heap.size) (AtomsO.read hv1) (fun b hb => (hS1 b hb).2))
       have HU1 := Lib.hid (AtomsR.sub (S' := fun b => b < w1.heap.size) (AtomsO.read hu1) (fun b hb => (hT1 b hb).2))
       have HX1 := Lib.hid hx1
       have HB1 := Lib.hid (Blk.new w1 29 #[.slice A1 n c1, .slice B1 m d1])
       clear hx1 hv1 hu1 hS1 hT1)
    | (go_at_call 11; have _t := tok; refine (HI.out _ (HX1.out.alloc _)).mono ?_; clear tok _t; rintro e w2 ⟨⟨A2, B2, c2, d2, S2, T2, rfl, ⟨k21, k22, k23, k24⟩, hv2, hu2, hS2, hT2, hD2⟩, hx2⟩
       have HV2 := Lib.hid hv2
       have HU2 := Lib.hid hu2
       have HS2 := Lib.hid hS2
       have HT2 := Lib.hid hT2
       have HD2 := Lib.hid hD2
       have HY2 := Lib.hid hx2
       have HX2 := Lib.hid ((HX1.out.alloc (.cells #[.slice A1 n c1, .slice B1 m d1] 29)).trans' hx2)
       have hl2 := hx2.size
       simp only [World.size_alloc] at hl2
       have HBA := Lib.hid ((HB1.out.ext hx2).alloc (.cells #[.slice A2 n c2, .slice B2 m d2] 29))
       have HBB := Lib.hid (Blk.new w2 29 #[.slice A2 n c2, .slice B2 m d2])
       have p10 := HBA.out.cell 0
       have p11 := HBA.out.cell 1
       clear hx2 hv2 hu2 hS2 hT2 hD2)
    | (go_at_call 9; have _t := tok2; refine (HEQ.out _ _ _ _ _ (AtomsR.sub (AtomsO.read (SliceO.ext HV2.out ((Ext.refl _).alloc _))) (fun _ _ => trivial)) (AtomsR.sub (AtomsO.read (SliceO.ext HU2.out ((Ext.refl _).alloc _))) (fun _ _ => trivial)) (AtomsR.sub (HV1.out.ext ((((Ext.refl _).alloc _).trans' HY2.out).alloc _)) (fun _ _ => trivial)) (AtomsR.sub (HU1.out.ext ((((Ext.refl _).alloc _).trans' HY2.out).alloc _)) (fun _ _ => trivial))).mono ?_; clear tok2 _t; rintro e w3 ⟨rfl, hx3⟩
       have HY3 := Lib.hid hx3
       have HX3 := Lib.hid ((HX2.out.alloc _).trans' hx3)
       have HBA3 := Lib.hid (HBA.out.ext hx3)
       have HBB3 := Lib.hid (HBB.out.ext hx3)
       have p30 := HBA3.out.cell 0
       have p31 := HBA3.out.cell 1
       have p32 := HBB3.out.cell 0
       have p33 := HBB3.out.cell 1
       have hl3 := HBB3.out.lt
       clear hx3)
    | (go_at_call 12; refine (HMK.out _ _ _ _ _ (SliceO.ext HV2.out (((Ext.refl _).alloc _).trans' HY3.out)) (SliceO.ext HU2.out (((Ext.refl _).alloc _).trans' HY3.out)) HD2.out).mono ?_; rintro e w4 ⟨rfl, hv4, hu4, hi4⟩
       have HV4 := Lib.hid hv4
       have HU4 := Lib.hid hu4
       have HI4 := Lib.hid hi4
       have hnA : ¬ (S2 w1.heap.size ∨ T2 w1.heap.size) := (fun h => h.elim (fun h => absurd (HS2.out _ h).1 (by simp)) (fun h => absurd (HT2.out _ h).1 (by simp)))
       have hnB : ¬ (S2 w2.heap.size ∨ T2 w2.heap.size) := (fun h => h.elim (fun h => absurd (HS2.out _ h).2 (by omega)) (fun h => absurd (HT2.out _ h).2 (by omega)))
       have HX4 := Lib.hid (hi4.toExt HX3.out (fun i hi => by have := HX1.out.size; rcases hi with hi | hi; (have h := (HS2.out i hi).1; simp only [World.size_alloc] at h; omega); (have h := (HT2.out i hi).1; simp only [World.size_alloc] at h; omega)))
       have HAG := Lib.hid (show Agree (fun b => b < w1.heap.size) w3 w4 from fun i hi hlt => hi4.block i hlt (fun h => h.elim (fun h => absurd (HS2.out i h).1 (by simp only [World.size_alloc]; omega)) (fun h => absurd (HT2.out i h).1 (by simp only [World.size_alloc]; omega))))
       have HBA4 := Lib.hid (hi4.blk HBA3.out hnA)
       have HBB4 := Lib.hid (hi4.blk HBB3.out hnB)
       have p40 := HBA4.out.cell 0
       have p41 := HBA4.out.cell 1
       have p42 := HBB4.out.cell 0
       have p43 := HBB4.out.cell 1
       have hz4 := hi4.size
       clear hv4 hu4 hi4 hnA hnB)
    | (go_at_call 13; have _t := tok3; refine (HHD.out _ _ _ _ _ (AtomsO.read HV4.out) (AtomsO.read HU4.out)).mono ?_; clear tok3 _t; rintro e w5 ⟨rfl, hx5⟩
       have HY5 := Lib.hid hx5
       have HX5 := Lib.hid (HX4.out.trans' hx5)
       clear hx5)
    | (go_at_call 11; refine (HI.out _ HX5.out).mono ?_; rintro e w6 ⟨⟨A6, B6, c6, d6, S6, T6, rfl, ⟨k61, k62, k63, k64⟩, hv6, hu6, _, _, _⟩, hx6⟩
       have HV6 := Lib.hid hv6
       have HU6 := Lib.hid hu6
       have HY6 := Lib.hid (HY5.out.trans' hx6)
       have HX6 := Lib.hid (HX5.out.trans' hx6)
       have HBA6 := Lib.hid ((HBA4.out.ext HY6.out).alloc (.cells #[.slice A6 n c6, .slice B6 m d6] 29))
       have HBB6 := Lib.hid ((HBB4.out.ext HY6.out).alloc (.cells #[.slice A6 n c6, .slice B6 m d6] 29))
       have p60 := HBA6.out.cell 0
       have p61 := HBA6.out.cell 1
       clear hx6 hv6 hu6)
    | (go_at_call 9; refine (HEQ.out _ _ _ _ _ (AtomsR.sub (AtomsO.read (SliceO.ext HV6.out ((Ext.refl _).alloc _))) (fun _ _ => trivial)) (AtomsR.sub (AtomsO.read (SliceO.ext HU6.out ((Ext.refl _).alloc _))) (fun _ _ => trivial))
         (AtomsR.sub (AtomsR.ext ((HV1.out.ext (((((Ext.refl _).alloc _).trans' HY2.out).alloc _).trans' HY3.out)).imp (fun _ h => h) HAG.out hz4) (HY6.out.alloc _)) (fun _ _ => trivial))
         (AtomsR.sub (AtomsR.ext ((HU1.out.ext (((((Ext.refl _).alloc _).trans' HY2.out).alloc _).trans' HY3.out)).imp (fun _ h => h) HAG.out hz4) (HY6.out.alloc _)) (fun _ _ => trivial))).mono ?_; rintro e w7 ⟨rfl, hx7⟩
       have HY7 := Lib.hid ((HY6.out.alloc _).trans' hx7)
       have HX7 := Lib.hid ((HX6.out.alloc _).trans' hx7)
       have HBB7 := Lib.hid (HBB6.out.ext hx7)
       have p72 := HBB7.out.cell 0
       have p73 := HBB7.out.cell 1
       clear hx7)
    | (go_at_call 13; refine (HHD.out _ _ _ _ _ (AtomsO.read (SliceO.ext HV4.out HY7.out)) (AtomsO.read (SliceO.ext HU4.out HY7.out))).mono ?_; rintro e w8 ⟨rfl, hx8⟩
       have HX8 := Lib.hid (HX7.out.trans' hx8)
       clear hx8))
  go_ret
  exact ⟨rfl, HX8.out⟩

end Go.Proofs.YtgcknheoojpokaaDoor
