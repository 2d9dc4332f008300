/- The walks of the reference's and the program's BaseNew. -/
import Derived.Test.YthndnkafckapnaaGreatDoorBase
import Derived.Test.YthndnkafckapnaaGreatDoorRlU
import Derived.Test.YthndnkafckapnaaGreatDoorRlC
import Derived.Test.YthndnkafckapnaaGreatDoorCopy
namespace Go.Proofs.YthndnkafckapnaaGreatDoor
open Go.RowKit

noncomputable def baseN (l : List GR) : GB := if progCheckN l = 0 then ⟨l, 0, [], []⟩ else ⟨[], 0, [], []⟩
theorem wTerms_le (l : List GT) : l.length ≤ wTerms l := Nat.le_add_right _ _
theorem rules_few {l : List GR} (h : wRules l ≤ 1048576) : l.length ≤ 1048576 ∧ ∀ x ∈ l, x.head.args.length ≤ 1048576 ∧ x.body.length ≤ 1048576 ∧ ∀ p ∈ x.body, p.atom.args.length ≤ 1048576 := by
  refine ⟨by unfold wRules at h; omega, fun x hx => ?_⟩
  have h1 := Nat.le_trans (wRules_mem hx) h
  unfold wRule wAtom at h1
  have h2 := wTerms_le x.head.args
  have h3 : x.body.length ≤ wParts x.body := Nat.le_add_right _ _
  refine ⟨by omega, by omega, fun p hp => ?_⟩
  have h4 := wParts_mem hp
  unfold wPart wAtom at h4
  have h5 := wTerms_le p.atom.args
  omega
theorem costL_le2 {α : Type} {c f : α → Nat} : ∀ {l : List α}, (∀ x ∈ l, c x ≤ 2 * (1 + f x)) → costL c l ≤ 2 * (l.length + (l.map f).sum)
  | [], _ => Nat.zero_le _
  | x :: l, h => by
    have h1 := h x (by simp)
    have h2 := costL_le2 (l := l) (fun y hy => h y (List.mem_cons_of_mem _ hy))
    unfold costL at h2 ⊢
    simp only [List.map_cons, List.sum_cons, List.length_cons]
    omega
theorem costP_le (p : GP) : costP p ≤ 2 * (1 + wPart p) := by
  have := wTerms_le p.atom.args
  unfold costP wPart wAtom; omega
theorem costR_le (r : GR) : costR r ≤ 2 * (1 + wRule r) := by
  have h1 : costL costP r.body ≤ 2 * wParts r.body := costL_le2 fun p _ => costP_le p
  have h2 := wTerms_le r.head.args
  unfold costR wRule wAtom; omega
theorem costRs_le (l : List GR) : costL costR l ≤ 2 * wRules l := costL_le2 fun r _ => costR_le r
theorem costB_baseN {l : List GR} (h : wRules l ≤ 1048576) : 1 + costB (baseN l) ≤ 100000000 := by
  have h1 := costRs_le l
  unfold baseN
  split
  · show 1 + (costL costR l + costAs [] + costL costC []) ≤ _
    have e1 : costAs [] = 0 := rfl
    have e2 : costL costC [] = 0 := rfl
    omega
  · show 1 + (costL costR [] + costAs [] + costL costC []) ≤ _
    have e0 : costL costR [] = 0 := rfl
    have e1 : costAs [] = 0 := rfl
    have e2 : costL costC [] = 0 := rfl
    omega
theorem BaseR.empty {S : Nat → Prop} {w : World} : BaseR S w (.agg #[.slice none 0 0, .int .i64 0, .slice none 0 0, .slice none 0 0]) ⟨[], 0, [], []⟩ :=
  ⟨_, _, _, rfl, SliceR.nil_ 0 (Nat.zero_le _) none, SliceR.nil_ 0 (Nat.zero_le _) none, SliceR.nil_ 0 (Nat.zero_le _) none⟩
theorem BaseR.only {S : Nat → Prop} {w : World} {u : Value} {l : List GR} (h : RulesR S w u l) : BaseR S w (.agg #[u, .int .i64 0, .slice none 0 0, .slice none 0 0]) ⟨l, 0, [], []⟩ :=
  ⟨_, _, _, rfl, h, SliceR.nil_ 0 (Nat.zero_le _) none, SliceR.nil_ 0 (Nat.zero_le _) none⟩
theorem BaseO.only {S : Nat → Prop} {w : World} {u : Value} {l : List GR} (h : RulesO S w u l) : BaseO S w (.agg #[u, .int .i64 0, .slice none 0 0, .slice none 0 0]) ⟨l, 0, [], []⟩ :=
  ⟨_, _, _, S, fun _ => False, fun _ => False, rfl, h, SliceO.nil 0 (Nat.zero_le _) none, SliceO.nil 0 (Nat.zero_le _) none, fun i h => by rcases h with h | h | h <;> first | exact h | exact h.elim, fun _ _ h => h, fun _ _ h => h, fun _ h _ => h⟩

set_option maxRecDepth 100000 in
set_option maxHeartbeats 2000000 in
theorem specBaseNew_from (v : Value) (l : List GR) (w : World) {S : Nat → Prop} (hv : RulesR S w v l) (hw : wRules l ≤ 1048576) :
    Calls Tryz.prog 16 #[v] w fun e w' => (∃ u, e = .returned u ∧ BaseR (From w.heap.size) w' u (baseN l)) ∧ Ext w w' := by
  obtain ⟨A, c, rfl, hc1, hc2⟩ := SliceR.form hv
  obtain ⟨hf1, hf2⟩ := rules_few hw
  have HV := Lib.hid hv
  have HB0 := Lib.hid (Blk.new w 39 #[.slice none 0 0, .int .i64 0, .slice none 0 0, .slice none 0 0])
  have HX0 := Lib.hid ((Ext.refl w).alloc (.cells #[.slice none 0 0, .int .i64 0, .slice none 0 0, .slice none 0 0] 39))
  have HF2 := Lib.hid (show ∀ r ∈ l, r.head.args.length ≤ 4194304 ∧ r.body.length ≤ 4194304 ∧ ∀ p ∈ r.body, p.atom.args.length ≤ 4194304 from fun r hr => by
    obtain ⟨h1, h2, h3⟩ := hf2 r hr
    exact ⟨by omega, by omega, fun p hp => by have := h3 p hp; omega⟩)
  clear hv hf2 hw
  by_cases hp : progCheckN l = 0
  · have HB := Lib.hid (show baseN l = ⟨l, 0, [], []⟩ from if_pos hp)
    have HP := Lib.hid (fun (W : World) (hW : Ext w W) => show Calls Tryz.prog 51 #[.slice A l.length c] W fun e w' => e = .returned (.int .i64 0) ∧ Ext W w' from by
      have h := specProgCheck_any _ l W (HV.out.ext hW)
      rw [hp] at h
      exact h)
    clear hp
    go_enter Tryz.func16, Tryz.ntmps16
    go_wp2_with (first
      | (go_at_call 51; refine (HP.out _ HX0.out).mono ?_; rintro e w1 ⟨rfl, hx1⟩; have HX1 := Lib.hid (HX0.out.trans' hx1); have HB1 := Lib.hid (HB0.out.ext hx1); have hl1 := HB1.out.lt
         have p0 := (HB1.out).cell 0; have f0 := (HB1.out).frozen 0
         have p1 := (HB1.out).cell 1; have f1 := (HB1.out).frozen 1
         have p2 := (HB1.out).cell 2; have f2 := (HB1.out).frozen 2
         have p3 := (HB1.out).cell 3; have f3 := (HB1.out).frozen 3
         clear hx1)
      | (go_at_call 52; refine (l7Rules_any _ l _ (HV.out.ext HX1.out) (by omega) HF2.out).mono ?_; rintro e w2 ⟨⟨u, rfl, hu⟩, hx2⟩; clear p0 p1 p2 p3 f0 f1 f2 f3; have HB2 := Lib.hid (HB1.out.ext hx2); have hl2 := HB2.out.lt
         have p0 := (HB2.out).cell 0; have f0 := (HB2.out).frozen 0
         have p1 := (HB2.out).cell 1; have f1 := (HB2.out).frozen 1
         have p2 := (HB2.out).cell 2; have f2 := (HB2.out).frozen 2
         have p3 := (HB2.out).cell 3; have f3 := (HB2.out).frozen 3
         have HLT := Lib.hid hl1; have HU := Lib.hid hu; have HX2 := Lib.hid (HX1.out.trans' hx2)
         obtain ⟨UA, UC, rfl, hu1, hu2⟩ := SliceR.form hu
         clear hu hx2))
    refine bodyPost_ret (v := .agg #[.slice UA l.length UC, .int .i64 0, .slice none 0 0, .slice none 0 0]) (by simp [results, Tryz.results16, go_sem, p0, p1, p2, p3]) rfl ⟨⟨_, rfl, ?_⟩, ?_⟩
    · rw [HB.out]
      exact BaseR.only (RulesR.imp HU.out (fun _ h => Nat.le_trans (Nat.le_of_lt HLT.out) h) (((((Agree.refl _ _).set (p := ⟨w.heap.size, _, none⟩) HLT.out _).set (p := ⟨w.heap.size, _, none⟩) HLT.out _).set (p := ⟨w.heap.size, _, none⟩) HLT.out _).set (p := ⟨w.heap.size, _, none⟩) HLT.out _) (by go_size))
    · exact Ext.setNew (a := w) (Ext.setNew (Ext.setNew (Ext.setNew HX2.out (Nat.le_refl _) _) (Nat.le_refl _) _) (Nat.le_refl _) _) (Nat.le_refl _) _
  · have HB := Lib.hid (show baseN l = ⟨[], 0, [], []⟩ from if_neg hp)
    obtain ⟨m, hm⟩ : ∃ m, m = progCheckN l := ⟨_, rfl⟩
    have hm0 : (((m : Int) == 0) : Bool) = false := by
      rw [beq_eq_false_iff_ne]; omega
    have HP := Lib.hid (fun (W : World) (hW : Ext w W) => show Calls Tryz.prog 51 #[.slice A l.length c] W fun e w' => e = .returned (.int .i64 m) ∧ Ext W w' from by
      rw [hm]; exact specProgCheck_any _ l W (HV.out.ext hW))
    clear hp hm
    go_enter Tryz.func16, Tryz.ntmps16
    go_wp2_with (first
      | (go_at_call 51; refine (HP.out _ HX0.out).mono ?_; rintro e w1 ⟨rfl, hx1⟩; have HX1 := Lib.hid (HX0.out.trans' hx1); have HB1 := Lib.hid (HB0.out.ext hx1); have hl1 := HB1.out.lt
         have p0 := (HB1.out).cell 0; have f0 := (HB1.out).frozen 0
         have p1 := (HB1.out).cell 1; have f1 := (HB1.out).frozen 1
         have p2 := (HB1.out).cell 2; have f2 := (HB1.out).frozen 2
         have p3 := (HB1.out).cell 3; have f3 := (HB1.out).frozen 3
         clear hx1))
    refine bodyPost_ret (v := .agg #[.slice none 0 0, .int .i64 0, .slice none 0 0, .slice none 0 0]) (by simp [results, Tryz.results16, go_sem, p0, p1, p2, p3]) rfl ⟨⟨_, rfl, ?_⟩, ?_⟩
    · rw [HB.out]
      exact BaseR.empty
    · exact Ext.setNew (a := w) (Ext.setNew (Ext.setNew (Ext.setNew HX1.out (Nat.le_refl _) _) (Nat.le_refl _) _) (Nat.le_refl _) _) (Nat.le_refl _) _

theorem BaseR.sub {S S' : Nat → Prop} {w : World} {v : Value} {B : GB} (h : BaseR S w v B) (hS : ∀ b, S b → S' b) : BaseR S' w v B := h.imp hS (.refl _ _) (Nat.le_refl _)
theorem specBaseNew_any (v : Value) (l : List GR) (w : World) {S : Nat → Prop} (hv : RulesR S w v l) (hw : wRules l ≤ 1048576) :
    Calls Tryz.prog 16 #[v] w fun e w' => (∃ u, e = .returned u ∧ BaseR Any w' u (baseN l)) ∧ Ext w w' :=
  (specBaseNew_from v l w hv hw).mono fun e w' ⟨⟨u, h1, h2⟩, h3⟩ => ⟨⟨u, h1, h2.sub fun _ _ => trivial⟩, h3⟩

set_option maxRecDepth 100000 in
set_option maxHeartbeats 2000000 in
theorem progFine_any (v : Value) (l : List GR) (w : World) {S : Nat → Prop} (hv : RulesR S w v l) (he : ErrIs w) :
    Calls Tryz.prog 54 #[v] w fun e w' => e = .returned (.bool (decide (progCheckN l = 0))) ∧ Ext w w' := by
  obtain ⟨A, c, rfl, hc1, hc2⟩ := SliceR.form hv
  obtain ⟨m, hm⟩ : ∃ m, m = progCheckN l := ⟨_, rfl⟩
  have HE := Lib.hid (show ((m : Int) == 0) = decide (progCheckN l = 0) from by
    rw [hm]; by_cases h : progCheckN l = 0
    · rw [h]; rfl
    · rw [decide_eq_false h, beq_eq_false_iff_ne]; omega)
  have HP := Lib.hid (show Calls Tryz.prog 104 #[.slice A l.length c] w fun e w' => e = .returned (.int .i64 m) ∧ Ext w w' from by
    rw [hm]; exact progCheck_any _ l w hv he)
  clear hm hv he
  go_enter Tryz.func54, Tryz.ntmps54
  go_wp2_with (go_at_call 104; refine HP.out.mono ?_; rintro e w1 ⟨rfl, hx1⟩; have HX1 := Lib.hid hx1; clear hx1)
  go_ret
  exact ⟨ret_bool HE.out, HX1.out⟩

set_option maxRecDepth 100000 in
set_option maxHeartbeats 2000000 in
theorem baseNew_any (v : Value) (l : List GR) (w : World) {S : Nat → Prop} (hv : RulesR S w v l) (he : ErrIs w) (hw : wRules l ≤ 1048576) :
    Calls Tryz.prog 18 #[v] w fun e w' => (∃ u, e = .returned u ∧ BaseO (From w.heap.size) w' u (baseN l)) ∧ Ext w w' := by
  obtain ⟨A, c, rfl, hc1, hc2⟩ := SliceR.form hv
  obtain ⟨hf1, hf2⟩ := rules_few hw
  have HV := Lib.hid hv
  have HB0 := Lib.hid (Blk.new w 39 #[.slice none 0 0, .int .i64 0, .slice none 0 0, .slice none 0 0])
  have HX0 := Lib.hid ((Ext.refl w).alloc (.cells #[.slice none 0 0, .int .i64 0, .slice none 0 0, .slice none 0 0] 39))
  have HF2 := Lib.hid hf2
  have HF := Lib.hid (fun (W : World) (hW : Ext w W) => progFine_any _ l W (hv.ext hW) (he.ext hW))
  clear hv hf2 hw he
  by_cases hp : progCheckN l = 0
  · have HB := Lib.hid (show baseN l = ⟨l, 0, [], []⟩ from if_pos hp)
    have HP := Lib.hid (fun (W : World) (hW : Ext w W) => show Calls Tryz.prog 54 #[.slice A l.length c] W fun e w' => e = .returned (.bool true) ∧ Ext W w' from by
      have h := HF.out W hW
      rw [decide_eq_true hp] at h
      exact h)
    clear HF
    clear hp
    go_enter Tryz.func18, Tryz.ntmps18
    go_wp2_with (first
      | (go_at_call 54; refine (HP.out _ HX0.out).mono ?_; rintro e w1 ⟨rfl, hx1⟩; have HX1 := Lib.hid (HX0.out.trans' hx1); have HB1 := Lib.hid (HB0.out.ext hx1); have hl1 := HB1.out.lt
         have p0 := (HB1.out).cell 0; have f0 := (HB1.out).frozen 0
         have p1 := (HB1.out).cell 1; have f1 := (HB1.out).frozen 1
         have p2 := (HB1.out).cell 2; have f2 := (HB1.out).frozen 2
         have p3 := (HB1.out).cell 3; have f3 := (HB1.out).frozen 3
         clear hx1)
      | (go_at_call 55; refine (copyRules_own _ l _ (HV.out.ext HX1.out) hf1 HF2.out).mono ?_; rintro e w2 ⟨⟨u, rfl, hu⟩, hx2⟩; clear p0 p1 p2 p3 f0 f1 f2 f3; have HB2 := Lib.hid (HB1.out.ext hx2); have hl2 := HB2.out.lt
         have p0 := (HB2.out).cell 0; have f0 := (HB2.out).frozen 0
         have p1 := (HB2.out).cell 1; have f1 := (HB2.out).frozen 1
         have p2 := (HB2.out).cell 2; have f2 := (HB2.out).frozen 2
         have p3 := (HB2.out).cell 3; have f3 := (HB2.out).frozen 3
         have HLT := Lib.hid hl1; have HU := Lib.hid hu; have HX2 := Lib.hid (HX1.out.trans' hx2)
         obtain ⟨UA, UC, rfl, hu1, hu2⟩ := SliceO.form hu
         clear hu hx2))
    refine bodyPost_ret (v := .agg #[.slice UA l.length UC, .int .i64 0, .slice none 0 0, .slice none 0 0]) (by simp [results, Tryz.results18, go_sem, p0, p1, p2, p3]) rfl ⟨⟨_, rfl, ?_⟩, ?_⟩
    · rw [HB.out]
      exact BaseO.only (SliceO.imp HU.out (fun _ h _ => Nat.le_trans (Nat.le_of_lt HLT.out) h) (((((Agree.refl _ _).set (p := ⟨w.heap.size, _, none⟩) HLT.out _).set (p := ⟨w.heap.size, _, none⟩) HLT.out _).set (p := ⟨w.heap.size, _, none⟩) HLT.out _).set (p := ⟨w.heap.size, _, none⟩) HLT.out _) (by go_size))
    · exact Ext.setNew (a := w) (Ext.setNew (Ext.setNew (Ext.setNew HX2.out (Nat.le_refl _) _) (Nat.le_refl _) _) (Nat.le_refl _) _) (Nat.le_refl _) _
  · have HB := Lib.hid (show baseN l = ⟨[], 0, [], []⟩ from if_neg hp)
    have HP := Lib.hid (fun (W : World) (hW : Ext w W) => show Calls Tryz.prog 54 #[.slice A l.length c] W fun e w' => e = .returned (.bool false) ∧ Ext W w' from by
      have h := HF.out W hW
      rw [decide_eq_false hp] at h
      exact h)
    clear HF hp
    go_enter Tryz.func18, Tryz.ntmps18
    go_wp2_with (first
      | (go_at_call 54; refine (HP.out _ HX0.out).mono ?_; rintro e w1 ⟨rfl, hx1⟩; have HX1 := Lib.hid (HX0.out.trans' hx1); have HB1 := Lib.hid (HB0.out.ext hx1); have hl1 := HB1.out.lt
         have p0 := (HB1.out).cell 0; have f0 := (HB1.out).frozen 0
         have p1 := (HB1.out).cell 1; have f1 := (HB1.out).frozen 1
         have p2 := (HB1.out).cell 2; have f2 := (HB1.out).frozen 2
         have p3 := (HB1.out).cell 3; have f3 := (HB1.out).frozen 3
         clear hx1))
    refine bodyPost_ret (v := .agg #[.slice none 0 0, .int .i64 0, .slice none 0 0, .slice none 0 0]) (by simp [results, Tryz.results18, go_sem, p0, p1, p2, p3]) rfl ⟨⟨_, rfl, ?_⟩, ?_⟩
    · rw [HB.out]
      exact BaseO.only (SliceO.nil 0 (Nat.zero_le _) none)
    · exact Ext.setNew (a := w) (Ext.setNew (Ext.setNew (Ext.setNew HX1.out (Nat.le_refl _) _) (Nat.le_refl _) _) (Nat.le_refl _) _) (Nat.le_refl _) _

end Go.Proofs.YthndnkafckapnaaGreatDoor
