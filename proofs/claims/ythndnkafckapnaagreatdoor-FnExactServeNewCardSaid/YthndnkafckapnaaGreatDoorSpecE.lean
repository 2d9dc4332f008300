/- The walks of the reference's l1Put, l8Put, ChangePut. -/
import Derived.Test.YthndnkafckapnaaGreatDoorSpecD
import Derived.Test.YthndnkafckapnaaGreatDoorText
namespace Go.Proofs.YthndnkafckapnaaGreatDoor
open Go.RowKit

set_option maxRecDepth 100000 in
set_option maxHeartbeats 1000000 in
theorem l1Put_any (a : GA) (v : Value) (w : World) {S : Nat → Prop} (hv : TermsR S w v a.args) (hw : wAtom a ≤ 4194304) :
    Calls Tryz.prog 86 #[.agg #[.string a.n, v]] w fun e w' => e = .returned (.string (strOf (atomL a))) ∧ Ext w w' := by
  obtain ⟨A, c, rfl, hc1, hc2⟩ := SliceR.form hv
  have HV := Lib.hid (hv.ext ((Ext.refl w).alloc (.cells #[.string a.n, .slice A a.args.length c] 67)))
  have HW := Lib.hid hw
  have hn : a.n.size ≤ 4194304 := by unfold wAtom at hw; omega
  clear hv hw
  go_enter Tryz.func86, Tryz.ntmps86
  go_wp2
  go_loopw [3, 4] (fun o i wr => ∃ (k : Nat) (s : ByteArray), k ≤ a.args.length ∧ i = .int .i64 k ∧ o = .string s ∧ Hid (s = strOf (a.n.data.toList ++ [40] ++ namesL (a.args.take k))) ∧ Ext (w.alloc (.cells #[.string a.n, .slice A a.args.length c] 67)) wr) (fun _ i _ => a.args.length - (intOf i).toNat)
  case atStart => exact ⟨0, _, Nat.zero_le _, rfl, rfl, by show _ = _; rw [List.take_zero, namesL, List.append_nil, ← strOf_append]; rfl, Ext.refl _⟩
  case round =>
    obtain ⟨k, s, hk, rfl, rfl, hp, hx⟩ := hrel
    obtain ⟨hcc, hcf⟩ := hx.cells
    have hsz : s.size ≤ 8388609 := by
      rw [hp.out, strOf_size]
      have h1 := namesL_len (a.args.take k)
      have h2 := wTerms_take a.args k
      have h3 := HW.out
      have h4 : a.n.data.toList.length = a.n.size := by simp
      unfold wAtom at h3
      simp only [List.length_append, List.length_cons, List.length_nil]; omega
    by_cases hlt : k < a.args.length
    · obtain ⟨b, off, x, rfl, hb, hxk, hxs, hc0, hc1⟩ := TermsR.at_ (HV.out.ext hx) hlt
      have HK := Lib.hid (namesL_take hxk)
      have hxn : x.n.size ≤ 4194304 := by
        have h1 := wTerms_mem (List.mem_of_getElem? hxk)
        have h3 := HW.out
        unfold wAtom at h3; unfold wTerm at h1; omega
      clear hxk hxs
      by_cases hk0 : k < 1
      · go_wp2
        go_roundw
        case rel =>
          refine ⟨k + 1, _, by omega, by go_num, rfl, ?_, hx⟩
          show _ = _
          rw [hp.out, HK.out, if_pos (by omega), show k = 0 from by omega, List.take_zero, namesL, List.append_nil, List.nil_append, ← strOf_append _ x.n.data.toList]
          rfl
        case measure => simp [intOf]; omega
      · go_wp2
        go_roundw
        case rel =>
          refine ⟨k + 1, _, by omega, by go_num, rfl, ?_, hx⟩
          show _ = _
          rw [hp.out, HK.out, if_neg (by omega), show (⟨#[44]⟩ : ByteArray) = strOf [44] from rfl, strOf_append, ← strOf_list x.n, strOf_append]
          simp only [List.append_assoc, strOf_list]
        case measure => simp [intOf]; omega
    · go_wp2
      go_ret
      refine ⟨?_, ((Ext.refl _).alloc _).trans' hx⟩
      refine Eq.trans ?_ (ret_str (a := s ++ strOf [41]) ?_)
      · rfl
      · rw [hp.out, strOf_append, List.take_of_length_le (by omega)]; rfl

set_option maxRecDepth 100000 in
set_option maxHeartbeats 2000000 in
theorem l8Put_any (g : GC) (v u : Value) (w : World) {S T : Nat → Prop} (hv : AtomsR S w v g.comes) (hu : AtomsR T w u g.goes) (hw : wChange g ≤ 1048576) :
    Calls Tryz.prog 42 #[.agg #[v, u]] w fun e w' => e = .returned (.string (strOf (changeL g))) ∧ Ext w w' := by
  obtain ⟨A, c, rfl, hc1, hc2⟩ := SliceR.form hv
  obtain ⟨B, d, rfl, hd1, hd2⟩ := SliceR.form hu
  have HV := Lib.hid (hv.ext ((Ext.refl w).alloc (.cells #[.slice A g.comes.length c, .slice B g.goes.length d] 25)))
  have HU := Lib.hid (hu.ext ((Ext.refl w).alloc (.cells #[.slice A g.comes.length c, .slice B g.goes.length d] 25)))
  have HW := Lib.hid hw
  clear hv hu hw
  go_enter Tryz.func42, Tryz.ntmps42
  go_wp2
  go_loopw [3, 4] (fun o i wr => ∃ (k : Nat) (s : ByteArray), k ≤ g.goes.length ∧ i = .int .i64 k ∧ o = .string s ∧ Hid (s = strOf (signedL 45 (g.goes.take k))) ∧ Ext (w.alloc (.cells #[.slice A g.comes.length c, .slice B g.goes.length d] 25)) wr) (fun _ i _ => g.goes.length - (intOf i).toNat)
  case atStart => exact ⟨0, _, Nat.zero_le _, rfl, rfl, rfl, Ext.refl _⟩
  case round =>
    obtain ⟨k, s, hk, rfl, rfl, hp, hx⟩ := hrel
    obtain ⟨hcc, hcf⟩ := hx.cells
    have hz1 := hx.size
    simp only [World.size_alloc] at hz1
    have hz2 : w.heap.size < wr.heap.size := by omega
    clear hz1
    have hsz : s.size ≤ 10485760 := by
      rw [hp.out, strOf_size]
      have h1 := signedL_len 45 (g.goes.take k)
      have h2 := wAtoms_take g.goes k
      have h3 := HW.out
      have h4 := signedL_len 45 g.goes
      unfold wChange at h3
      try simp only [List.length_append]
      omega
    by_cases hlt : k < g.goes.length
    · obtain ⟨b, off, x, v1, rfl, hb, hxk, hxs, ht, hc0, hc1⟩ := AtomsR.at_ (HU.out.ext hx) hlt
      have HK := Lib.hid (signedL_take 45 hxk)
      have HT := Lib.hid ht
      have HX := Lib.hid (show wAtom x ≤ 4194304 from by
        have h1 := wAtoms_mem (List.mem_of_getElem? hxk)
        have h3 := HW.out
        unfold wChange at h3; omega)
      have hal : (strOf (atomL x)).size ≤ 4194306 := by rw [strOf_size]; exact Nat.le_trans (atomL_len x) (by have := HX.out; omega)
      clear hxk hxs ht
      go_wp2_with (go_at_call 86; refine (l1Put_any x v1 _ HT.out HX.out).mono ?_; rintro e w1 ⟨rfl, hx1⟩)
      go_roundw
      case rel =>
        refine ⟨k + 1, _, by omega, by go_num, rfl, ?_, hx.trans' hx1⟩
        show _ = _
        rw [hp.out, HK.out, show (⟨#[45]⟩ : ByteArray) = strOf [45] from rfl, show (⟨#[32]⟩ : ByteArray) = strOf [32] from rfl, strOf_append, strOf_append, strOf_append]
        simp only [List.append_assoc]
      case measure => simp [intOf]; omega
    · have HS := Lib.hid (show s = strOf (signedL 45 g.goes) from by rw [hp.out, List.take_of_length_le (by omega)])
      clear hp
      go_wp2
      clear hcc hcf hz2
      go_loopw [3, 5] (fun o i wr => ∃ (k : Nat) (s : ByteArray), k ≤ g.comes.length ∧ i = .int .i64 k ∧ o = .string s ∧ Hid (s = strOf (signedL 45 g.goes ++ signedL 43 (g.comes.take k))) ∧ Ext (w.alloc (.cells #[.slice A g.comes.length c, .slice B g.goes.length d] 25)) wr) (fun _ i _ => g.comes.length - (intOf i).toNat)
      case atStart => exact ⟨0, _, Nat.zero_le _, rfl, rfl, by show _ = _; rw [HS.out, List.take_zero]; exact congrArg strOf (List.append_nil _).symm, hx⟩
      case round =>
        obtain ⟨k, s, hk, rfl, rfl, hp, hy⟩ := hrel
        obtain ⟨hcc, hcf⟩ := hy.cells
        have hz1 := hy.size
        simp only [World.size_alloc] at hz1
        have hz2 : w.heap.size < wr.heap.size := by omega
        clear hz1
        have hsz : s.size ≤ 10485760 := by
          rw [hp.out, strOf_size]
          have h1 := signedL_len 43 (g.comes.take k)
          have h2 := wAtoms_take g.comes k
          have h3 := HW.out
          have h4 := signedL_len 45 g.goes
          unfold wChange at h3
          try simp only [List.length_append]
          omega
        by_cases hlt : k < g.comes.length
        · obtain ⟨b, off, x, v1, rfl, hb, hxk, hxs, ht, hc0, hc1⟩ := AtomsR.at_ (HV.out.ext hy) hlt
          have HK := Lib.hid (signedL_take 43 hxk)
          have HT := Lib.hid ht
          have HX := Lib.hid (show wAtom x ≤ 4194304 from by
            have h1 := wAtoms_mem (List.mem_of_getElem? hxk)
            have h3 := HW.out
            unfold wChange at h3; omega)
          have hal : (strOf (atomL x)).size ≤ 4194306 := by rw [strOf_size]; exact Nat.le_trans (atomL_len x) (by have := HX.out; omega)
          clear hxk hxs ht
          go_wp2_with (go_at_call 86; refine (l1Put_any x v1 _ HT.out HX.out).mono ?_; rintro e w1 ⟨rfl, hx1⟩)
          go_roundw
          case rel =>
            refine ⟨k + 1, _, by omega, by go_num, rfl, ?_, hy.trans' hx1⟩
            show _ = _
            rw [hp.out, HK.out, show (⟨#[43]⟩ : ByteArray) = strOf [43] from rfl, show (⟨#[32]⟩ : ByteArray) = strOf [32] from rfl, strOf_append, strOf_append, strOf_append]
            simp only [List.append_assoc]
          case measure => simp [intOf]; omega
        · go_wp2
          go_ret
          refine ⟨?_, ((Ext.refl _).alloc _).trans' hy⟩
          refine Eq.trans ?_ (ret_str (a := s) ?_)
          · rfl
          · rw [hp.out, List.take_of_length_le (by omega)]; rfl

theorem okTerms_w : ∀ (l : List GT), l.all termOkB = true → wTerms l ≤ 9 * l.length
  | [], _ => Nat.le_refl _
  | t :: l, h => by
    rw [List.all_cons, Bool.and_eq_true] at h
    have ih := okTerms_w l h.2
    have ht : t.n.size ≤ 8 := by
      have h1 := h.1
      unfold termOkB at h1
      split at h1
      · unfold varOkB at h1; simp only [Bool.and_eq_true, decide_eq_true_eq] at h1; exact h1.1.2
      · unfold nameOkB lettersB inB at h1; simp only [Bool.and_eq_true, decide_eq_true_eq] at h1; omega
    unfold wTerms at ih ⊢
    simp only [List.length_cons, List.map_cons, List.sum_cons, wTerm]; omega
theorem okAtom_w {a : GA} (h : atomOkB a = true) : wAtom a ≤ 35 := by
  unfold atomOkB at h
  simp only [Bool.and_eq_true, decide_eq_true_eq] at h
  have h1 := okTerms_w _ h.2
  have h2 := h.1.1
  unfold nameOkB lettersB inB at h2; simp only [Bool.and_eq_true, decide_eq_true_eq] at h2
  have h3 := h.1.2
  unfold wAtom; omega
theorem okFacts_w : ∀ (l : List GA), l.all factB = true → wAtoms l ≤ 36 * l.length
  | [], _ => Nat.le_refl _
  | a :: l, h => by
    rw [List.all_cons, Bool.and_eq_true] at h
    have ih := okFacts_w l h.2
    have ha : wAtom a ≤ 35 := by
      have h1 := h.1
      unfold factB at h1; rw [Bool.and_eq_true] at h1
      exact okAtom_w h1.1
    unfold wAtoms at ih ⊢
    simp only [List.length_cons, List.map_cons, List.sum_cons]; omega
theorem factsB_w {l : List GA} {n : Nat} (h : factsB l n = true) : wAtoms l ≤ 36 * n := by
  unfold factsB at h
  simp only [Bool.and_eq_true, decide_eq_true_eq] at h
  have := okFacts_w l h.1.1
  have := h.2
  omega
theorem okChange_w {g : GC} (h : changeOkB g = true) : wChange g ≤ 1048576 := by
  unfold changeOkB at h
  simp only [Bool.and_eq_true] at h
  have h1 := factsB_w h.1.1
  have h2 := factsB_w h.1.2
  unfold wChange; omega

/-- A change that is ok as a text, and else nothing. -/
def changePutL (g : GC) : List UInt8 := if changeOkB g = true then changeL g else []

set_option maxRecDepth 100000 in
set_option maxHeartbeats 1000000 in
theorem specChangePut_any (g : GC) (v u : Value) (w : World) {S T : Nat → Prop} (hv : AtomsR S w v g.comes) (hu : AtomsR T w u g.goes) :
    Calls Tryz.prog 10 #[.agg #[v, u]] w fun e w' => e = .returned (.string (strOf (changePutL g))) ∧ Ext w w' := by
  obtain ⟨A, c, rfl, hc1, hc2⟩ := SliceR.form hv
  obtain ⟨B, d, rfl, hd1, hd2⟩ := SliceR.form hu
  have HV := Lib.hid (hv.ext ((Ext.refl w).alloc (.cells #[.slice A g.comes.length c, .slice B g.goes.length d] 25)))
  have HU := Lib.hid (hu.ext ((Ext.refl w).alloc (.cells #[.slice A g.comes.length c, .slice B g.goes.length d] 25)))
  clear hv hu
  have hw := bool_ways (specChangeOk_any g _ _ _ HV.out HU.out)
  cases hk : changeOkB g
  · have HF := Lib.hid (show changePutL g = [] from by unfold changePutL; rw [hk]; rfl)
    have HW := Lib.hid (hw.2 hk)
    clear hw hk
    go_enter Tryz.func10, Tryz.ntmps10
    go_wp2_with (go_at_call 11; refine HW.out.mono ?_; rintro e w1 ⟨rfl, hx1⟩)
    go_ret
    exact ⟨by rw [HF.out]; rfl, ((Ext.refl _).alloc _).trans' hx1⟩
  · have HF := Lib.hid (show changePutL g = changeL g from by unfold changePutL; rw [hk]; rfl)
    have HW := Lib.hid (hw.1 hk)
    have HS := Lib.hid (okChange_w hk)
    clear hw hk
    go_enter Tryz.func10, Tryz.ntmps10
    go_wp2_with (first
      | (go_at_call 11; refine HW.out.mono ?_; rintro e w1 ⟨rfl, hx1⟩; obtain ⟨hcc, hcf⟩ := hx1.cells)
      | (go_at_call 42; refine (l8Put_any g _ _ _ (HV.out.ext hx1) (HU.out.ext hx1) HS.out).mono ?_; rintro e w2 ⟨rfl, hx2⟩))
    go_ret
    exact ⟨by rw [HF.out]; rfl, (((Ext.refl _).alloc _).trans' hx1).trans' hx2⟩

end Go.Proofs.YthndnkafckapnaaGreatDoor
