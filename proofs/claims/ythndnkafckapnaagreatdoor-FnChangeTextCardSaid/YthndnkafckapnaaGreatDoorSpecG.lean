/- The walk of the reference's l3Put. -/
import Derived.Test.YthndnkafckapnaaGreatDoorSpecF
namespace Go.Proofs.YthndnkafckapnaaGreatDoor
open Go.RowKit

/-- Facts with one more. -/
def putA (xs : List GA) (a : GA) : List GA := if hasA xs a = true then xs else xs.take (placeA xs a) ++ [a] ++ xs.drop (placeA xs a)
theorem placeA_le (xs : List GA) (a : GA) : placeA xs a ≤ xs.length := by unfold placeA; exact (List.takeWhile_sublist _).length_le

set_option maxRecDepth 100000 in
set_option maxHeartbeats 4000000 in
theorem l3Put_own (v u : Value) (xs : List GA) (a : GA) (w : World) {S T : Nat → Prop} (hv : AtomsR S w v xs) (hu : TermsR T w u a.args) (hs : a.n.size ≤ maxLen) (hn : xs.length ≤ 4194304) :
    Calls Tryz.prog 120 #[v, .agg #[.string a.n, u]] w fun e w' => (∃ v', e = .returned v' ∧ (OwnK kAtom w.heap.size 67 (fun b => S b ∨ T b) w' v' (putA xs a) ∨ (v' = v ∧ putA xs a = xs))) ∧ Ext w w' := by
  obtain ⟨A, c, rfl, hc1, hc2⟩ := SliceR.form hv
  obtain ⟨B, d, rfl, hd1, hd2⟩ := SliceR.form hu
  obtain ⟨i0, hi0, hz0, hz1, hz2⟩ := info_parts atom_info
  have HB := Lib.hid (Blk.new w 67 #[.string a.n, .slice B a.args.length d])
  have HV := Lib.hid (hv.ext ((Ext.refl w).alloc (.cells #[.string a.n, .slice B a.args.length d] 67)))
  have HU := Lib.hid (hu.ext ((Ext.refl w).alloc (.cells #[.string a.n, .slice B a.args.length d] 67)))
  clear hv hu
  cases hh : hasA xs a
  · have HP := Lib.hid (show putA xs a = xs.take (placeA xs a) ++ [a] ++ xs.drop (placeA xs a) from by unfold putA; rw [hh]; rfl)
    have H2 := Lib.hid hh
    have hpl := placeA_le xs a
    obtain ⟨k, hk⟩ : ∃ k, k = placeA xs a := ⟨_, rfl⟩
    rw [← hk] at hpl HP
    have HK := Lib.hid hk
    have HC := Lib.hid (show ∀ W, Ext (w.alloc (.cells #[.string a.n, .slice B a.args.length d] 67)) W → Calls Tryz.prog 88 #[.slice A xs.length c, .agg #[.string a.n, .slice B a.args.length d]] W fun e w' => e = .returned (.tuple #[.int .i64 k, .bool false]) ∧ Ext W w' from fun W hW =>
      (l3At_any _ _ xs a W (HV.out.ext hW) (HU.out.ext hW)).mono fun e w' ⟨h1, h2⟩ => ⟨by rw [h1, H2.out, HK.out], h2⟩)
    have hk0 : (0 : Int) ≤ (k : Int) := by omega
    have hk1 : (k : Int) ≤ (c : Int) := by omega
    have hk2 : (k : Int) ≤ (xs.length : Int) := by omega
    clear hh hk
    go_enter Tryz.func120, Tryz.ntmps120
    go_wp2_with (go_at_call 88; refine (HC.out _ (Ext.refl _)).mono ?_; rintro e w1 ⟨rfl, hx1⟩; have hb1 := HB.out.ext hx1; have q0 := hb1.cell 0; have q1 := hb1.cell 1; have hl1 := hb1.lt)
    have HX1 := Lib.hid (((Ext.refl w).alloc (.cells #[.string a.n, .slice B a.args.length d] 67)).trans' hx1)
    have HB1 := Lib.hid hb1
    have HE1 := Lib.hid (show ∀ W, Ext w1 W → ElemsK kAtom (fun b => (S b ∨ T b) ∧ b < w1.heap.size) W (.slice A k c) (xs.take k) from fun W hW =>
      ElemsK.ext (((ListK.elems (k := kAtom) (SliceR.fst (HV.out.ext hx1) k hpl)).sub (fun b hb hlt => ⟨.inl hb, hlt⟩))) hW)
    have HE2 := Lib.hid (show ∀ W, Ext w1 W → kAtom.E (fun b => (S b ∨ T b) ∧ b < w1.heap.size) W [.string a.n, .slice B a.args.length d] a from fun W hW =>
      ⟨_, rfl, hs, (TermsR.impL (w := w1) (HU.out.ext hx1) (fun b hb hlt => ⟨.inr hb, hlt⟩) (Agree.of_ext hW) hW.size)⟩)
    have HE3 := Lib.hid (show ∀ W, Ext w1 W → ElemsK kAtom (fun b => (S b ∨ T b) ∧ b < w1.heap.size) W (.slice (if c = k then A else A.map (·.add (k * 2))) (xs.length - k) (c - k)) (xs.drop k) from fun W hW =>
      ElemsK.ext (((ListK.elems (k := kAtom) (SliceR.drop (HV.out.ext hx1) k hpl)).sub (fun b hb hlt => ⟨.inl hb, hlt⟩))) hW)
    have hlk : (xs.take k).length = k := by rw [List.length_take]; omega
    have HLK := Lib.hid hlk
    clear hx1 hb1 hlk
    go_region_held3 (fun w' => w'.cell? ⟨w.heap.size, 0, none⟩ = some (.string a.n) ∧ w'.cell? ⟨w.heap.size, 1, none⟩ = some (.slice B a.args.length d))
      (first | exact ⟨(HB1.out.ext HX4.out).cell 0, (HB1.out.ext HX4.out).cell 1⟩ | exact ⟨(HB1.out.ext HX3.out).cell 0, (HB1.out.ext HX3.out).cell 1⟩ | exact ⟨(HB1.out.ext HX2.out).cell 0, (HB1.out.ext HX2.out).cell 1⟩ | go_keep)
      (first
        | (refine step_appL (o := ⟨some 19, _, _, _, _, _⟩) (k := kAtom) (S := fun b => (S b ∨ T b) ∧ b < w1.heap.size) (T := fun b => (S b ∨ T b) ∧ b < w1.heap.size) (base := w1.heap.size) (v := .slice (some ⟨_, 0, none⟩) 0 0) (xs := []) (ys := xs.take k) (by rfl) (.tmp 15) (.tmp 18) 23 (by rfl) i0 _ 40 Tryz.underlying23 hi0 hz0 hz1 hz2 (by rfl) (by rfl)
            (by first | exact OwnK.drew (OwnK.empty rfl (Nat.le_refl _)) | exact OwnK.drew (OwnK.alloc (OwnK.empty rfl (Nat.le_refl _)) _) | exact OwnK.drew (OwnK.empty (w := w1.alloc _) (by simp) (by simp))) A k c (by rfl) (HE1.out _ (by first | exact Ext.drew (Ext.alloc (Ext.refl _) _) | exact Ext.drew (Ext.alloc (Ext.alloc (Ext.refl _) _) _))) (fun b hb => ⟨hb, hb.2⟩) (maxOf (by simp; omega)) (by simp; omega) (by go_size) ?_
           intro v1 w2 hap1; obtain ⟨A1, n1, c1, rfl, hn1, hd11, hd12⟩ := hap1.own.form2; have HX2 := Lib.hid (hap1.toExt (w0 := w1) (by first | exact Ext.drew (Ext.alloc (Ext.refl _) _) | exact Ext.drew (Ext.alloc (Ext.alloc (Ext.refl _) _) _)) (Nat.le_refl _)); have HA1 := Lib.hid hap1; clear hap1)
        | (refine step_appL (o := ⟨some 22, _, _, _, _, _⟩) (k := kAtom) (S := fun b => (S b ∨ T b) ∧ b < w1.heap.size) (T := fun b => (S b ∨ T b) ∧ b < w1.heap.size) (base := w1.heap.size) (xs := [] ++ xs.take k) (ys := [a]) (by rfl) (.tmp 19) (.tmp 21) 23 (by rfl) i0 _ 40 Tryz.underlying23 hi0 hz0 hz1 hz2 (by rfl) (by rfl)
            (by first | exact HA1.out.own | exact OwnK.alloc HA1.out.own _) _ 1 1 (by rfl) (ElemsK.one (k := kAtom) (x := a) (by first | exact Blk.at_new rfl | exact HA1.out.blk2 (Blk.drew (Blk.at_new (w := w1.alloc _) (by simp))) (by simp [Value.ownBlock]) | exact HA1.out.blk2 (Blk.drew (Blk.alloc (Blk.at_new rfl) _)) (by simp [Value.ownBlock])) (HE2.out _ (by first | exact HX2.out | exact Ext.alloc HX2.out _))) (fun b hb => ⟨hb, hb.2⟩) (maxOf (by simp; omega)) (by simp; omega) (by have := HX2.out.size; go_size) ?_
           intro v2 w3 hap2; obtain ⟨A2, n2, c2, rfl, hn2, hd21, hd22⟩ := hap2.own.form2; have HX3 := Lib.hid (hap2.toExt (w0 := w1) (by first | exact HX2.out | exact Ext.alloc HX2.out _) (Nat.le_refl _)); have HA2 := Lib.hid hap2; clear hap2)
        | (refine step_appL (o := ⟨some 26, _, _, _, _, _⟩) (k := kAtom) (S := fun b => (S b ∨ T b) ∧ b < w1.heap.size) (T := fun b => (S b ∨ T b) ∧ b < w1.heap.size) (base := w1.heap.size) (xs := ([] ++ xs.take k) ++ [a]) (ys := xs.drop k) (by rfl) (.tmp 22) (.tmp 25) 23 (by rfl) i0 _ 40 Tryz.underlying23 hi0 hz0 hz1 hz2 (by rfl) (by rfl)
            (by exact HA2.out.own) _ _ _ (by rfl) (HE3.out _ HX3.out) (fun b hb => ⟨hb, hb.2⟩) (maxOf (by simp; omega)) (by simp; omega) (by have := HX3.out.size; go_size) ?_
           intro v3 w4 hap3; obtain ⟨A3, n3, c3, rfl, hn3, hd31, hd32⟩ := hap3.own.form2; have HX4 := Lib.hid (hap3.toExt (w0 := w1) HX3.out (Nat.le_refl _)); have HA3 := Lib.hid hap3; clear hap3))
    all_goals go_wp2
    all_goals
      go_ret
      refine ⟨⟨_, rfl, ?_⟩, HX1.out.trans' HX4.out⟩
      rw [HP.out]
      have h := HA3.out.own.sub (base' := w.heap.size) (S' := fun b => S b ∨ T b) (Nat.le_of_lt hl1) (fun b hb => hb.1)
      simp only [List.nil_append] at h
      exact .inl h
  · have HP := Lib.hid (show putA xs a = xs from by unfold putA; rw [if_pos hh])
    have H2 := Lib.hid hh
    obtain ⟨k, hk⟩ : ∃ k, k = placeA xs a := ⟨_, rfl⟩
    have HK := Lib.hid hk
    have HC := Lib.hid (show Calls Tryz.prog 88 #[.slice A xs.length c, .agg #[.string a.n, .slice B a.args.length d]] (w.alloc (.cells #[.string a.n, .slice B a.args.length d] 67)) fun e w' => e = .returned (.tuple #[.int .i64 k, .bool true]) ∧ Ext (w.alloc (.cells #[.string a.n, .slice B a.args.length d] 67)) w' from
      (l3At_any _ _ xs a _ HV.out HU.out).mono fun e w' ⟨h1, h2⟩ => ⟨by rw [h1, H2.out, HK.out], h2⟩)
    clear hh hk
    go_enter Tryz.func120, Tryz.ntmps120
    go_wp2_with (go_at_call 88; refine HC.out.mono ?_; rintro e w1 ⟨rfl, hx1⟩)
    go_ret
    exact ⟨⟨_, rfl, .inr ⟨rfl, HP.out⟩⟩, ((Ext.refl _).alloc _).trans' hx1⟩

theorem l3Put_any (v u : Value) (xs : List GA) (a : GA) (w : World) {S T : Nat → Prop} (hv : AtomsR S w v xs) (hu : TermsR T w u a.args) (hs : a.n.size ≤ maxLen) (hn : xs.length ≤ 4194304) :
    Calls Tryz.prog 120 #[v, .agg #[.string a.n, u]] w fun e w' => (∃ v', e = .returned v' ∧ AtomsR (fun b => w.heap.size ≤ b ∨ S b ∨ T b) w' v' (putA xs a)) ∧ Ext w w' :=
  (l3Put_own v u xs a w hv hu hs hn).mono fun e w' ⟨⟨v', h1, h2⟩, hx⟩ => ⟨⟨v', h1, by
    rcases h2 with h2 | ⟨rfl, h2⟩
    · exact h2.list (S' := fun b => w.heap.size ≤ b ∨ S b ∨ T b) (fun b hb => .inr hb) (fun b hb => .inl hb)
    · rw [h2]; exact AtomsR.sub (S := S) (hv.ext hx) (fun b hb => .inr (.inl hb))⟩, hx⟩

end Go.Proofs.YthndnkafckapnaaGreatDoor
