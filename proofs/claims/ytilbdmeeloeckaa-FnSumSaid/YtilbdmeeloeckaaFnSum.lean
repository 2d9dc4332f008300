/- For all codes FnSum returns true and leaves its arguments as they were. No condition. -/
import Derived.Test.YtilbdmeeloeckaaDrawG
import Derived.Test.YtilbdmeeloeckaaSumP
import Derived.Test.YtilbdmeeloeckaaLaw
import Derived.Test.YtilbdmeeloeckaaReadB
import Derived.Lib.SmallJoins
namespace Go.Proofs.Ytilbdmeeloeckaa
open Go.RowKit Go.ChangeShapes Go.WideShapes Go.ChangeAt Go.Joins

set_option maxRecDepth 100000 in
set_option maxHeartbeats 4000000 in
theorem fnSum_any (v u : Value) (xs ys : List UInt8) (w : World) {S T : Nat → Prop} (hv : BytesR S w v xs) (hu : BytesR T w u ys) :
    Calls Try.prog 4 #[v, u] w fun e w' => e = .returned (.bool true) ∧ Ext w w' := by
  obtain ⟨A, c, rfl, hc1, hc2⟩ := SliceR.form hv
  obtain ⟨B, d, rfl, hd1, hd2⟩ := SliceR.form hu
  have HV := Lib.hid hv
  clear hv hu
  by_cases h1 : 1048576 < xs.length
  · go_enter Try.func4, Try.ntmps4
    go_wp2
    go_ret
    exact ⟨rfl, Ext.refl _⟩
  by_cases h2 : 1048576 < ys.length
  · go_enter Try.func4, Try.ntmps4
    go_wp2
    go_ret
    exact ⟨rfl, Ext.refl _⟩
  have he : (⟨#[]⟩ : ByteArray).size ≤ maxLen := Nat.zero_le _
  have HE := Lib.hid (show sumI (⟨#[]⟩ : ByteArray).data.toList = 1 from rfl)
  clear he
  go_enter Try.func4, Try.ntmps4
  go_wp2_with (fail)
  refine (drawSum_any _ xs _ HV.out).mono ?_
  rintro e w1 ⟨⟨s, rfl, hs⟩, hx1⟩
  have HX1 := Lib.hid hx1
  have hsm : s.size ≤ maxLen := maxOf (by omega)
  obtain ⟨n, hn⟩ : ∃ n, n = sumI s.data.toList := ⟨_, rfl⟩
  have hb : 0 ≤ n ∧ n ≤ 1000002 := hn ▸ sumI_bd _
  obtain ⟨hb1, hb2⟩ := hb
  have HI := Lib.hid (fun (W : World) => show Calls Try.prog 7 #[.string s] W fun e w' => e = .returned (.int .i64 n) ∧ W = w' from hn ▸ (implSum_any s W hsm).mono fun _ _ ⟨h1, h2⟩ => ⟨h1, h2.symm⟩)
  have HS := Lib.hid (fun (W : World) => show Calls Try.prog 6 #[.string s] W fun e w' => e = .returned (.int .i64 n) ∧ W = w' from hn ▸ (specSum_any s W hsm).mono fun _ _ ⟨h1, h2⟩ => ⟨h1, h2.symm⟩)
  have H0 := Lib.hid (fun (W : World) => show Calls Try.prog 7 #[.string ⟨#[]⟩] W fun e w' => e = .returned (.int .i64 1) ∧ W = w' from (implSum_any ⟨#[]⟩ W (Nat.zero_le _)).mono fun _ _ ⟨h1, h2⟩ => ⟨h1, h2.symm⟩)
  have HN := Lib.hid hn
  clear hn hx1
  have hn0 : decide (n < 0) = false := decide_eq_false (by omega)
  have hn1 : decide (1000002 < n) = false := decide_eq_false (by omega)
  have tok : True := trivial
  have tok2 : True := trivial
  by_cases hz : s.size = 0
  · have hz1 : s.toList = [] := by rw [ByteArray.toList_eq]; exact List.eq_nil_of_length_eq_zero (by simpa using hz)
    have hz2 : s.toList.isEmpty = true := by rw [hz1]; rfl
    go_wp2_with (first
      | (go_at_call 7; have _t := tok; refine (HI.out _).mono ?_; clear tok _t; rintro e w2 ⟨rfl, rfl⟩)
      | (go_at_call 7; refine (H0.out _).mono ?_; rintro e w2 ⟨rfl, rfl⟩)
      | (go_at_call 6; refine (HS.out _).mono ?_; rintro e w2 ⟨rfl, rfl⟩))
    go_ret
    exact ⟨rfl, HX1.out⟩
  · have hz1 : s.toList.isEmpty = false := by
      rw [ByteArray.toList_eq, List.isEmpty_eq_false_iff]
      intro e
      exact hz (by simpa using congrArg List.length e)
    have hz2 : (s.toList == []) = false := by
      rw [beq_eq_false_iff_ne]
      intro e; rw [e] at hz1; cases hz1
    obtain ⟨cap, W2, hrun, hcap1, hcap2, hbel, hlt, hcells, hfro⟩ := bytes_new (P := Try.prog) w1 9 24 5 s Try.underlying9 Try.underlying24 Try.underlying5 hsm
    have hk : ys.length % s.size < s.size := Nat.mod_lt _ (by omega)
    have hk0 : (0 : Int) ≤ (ys.length : Int) % (s.size : Int) := Int.emod_nonneg _ (by omega)
    have hk1 : (ys.length : Int) % (s.size : Int) < (s.size : Int) := Int.emod_lt_of_pos _ (by omega)
    have hk2 : ((ys.length : Int) % (s.size : Int)).toNat = ys.length % s.size := by rw [← Int.natCast_emod, Int.toNat_natCast]
    have q0 := hcells _ hk
    have f0 := hfro _ hk
    have hd0 : (0 : Int) ≤ (xs.length : Int) % 255 := Int.emod_nonneg _ (by omega)
    have hd1 : (xs.length : Int) % 255 < 255 := Int.emod_lt_of_pos _ (by omega)
    obtain ⟨z, hx, hzc⟩ := xor_ne s[ys.length % s.size] (1 + xs.length % 255) (by omega) (by omega)
    rw [show ((1 + xs.length % 255 : Nat) : Int) = 1 + (xs.length : Int) % 255 from by omega] at hx
    obtain ⟨t, ht⟩ : ∃ t, t = strOf (s.data.toList.set (ys.length % s.size) z) := ⟨_, rfl⟩
    have hlist : t.data.toList = s.data.toList.set (ys.length % s.size) z := by rw [ht, list_strOf]
    have hrun2 : (convert 24 9 (.slice (some ⟨w1.heap.size, 0, none⟩) s.size cap)).run Try.prog (W2.setCell ⟨w1.heap.size, ys.length % s.size, none⟩ (.int .u8 z.toNat)) = .ok (.string t) (W2.setCell ⟨w1.heap.size, ys.length % s.size, none⟩ (.int .u8 z.toNat)) := by
      have h := run_convert_bytes_back (P := Try.prog) (W2.setCell ⟨w1.heap.size, ys.length % s.size, none⟩ (.int .u8 z.toNat)) 24 9 5 ⟨w1.heap.size, 0, none⟩ cap (s.data.toList.set (ys.length % s.size) z) Try.underlying24 Try.underlying5 Try.underlying9 (fun j hj => by
        have hjs : j < s.size := by simpa using hj
        have hadd : (⟨w1.heap.size, 0, none⟩ : Addr).add j = ⟨w1.heap.size, j, none⟩ := by rw [addr_add, Nat.zero_add]
        rw [hadd, List.getElem_set]
        by_cases hjk : ys.length % s.size = j
        · subst hjk
          rw [if_pos rfl]
          exact World.cell?_setCell_same _ _ _ q0
        · rw [if_neg hjk, World.cell?_setCell_other _ _ _ _ (fun e => hjk (by injection e))]
          exact hcells j hjs)
      rw [List.length_set] at h
      rw [ht]
      rw [show s.data.toList.length = s.size from by simp] at h
      exact h
    obtain ⟨m, hm⟩ : ∃ m, m = sumI t.data.toList := ⟨_, rfl⟩
    have hmn : m ≠ n := by
      rw [hm, HN.out, hlist]
      exact sum_set _ _ (by simpa using hk) _ hzc
    have hm1 : (m == n) = false := beq_eq_false_iff_ne.2 hmn
    have hm2 : (m != n) = true := by rw [bne, hm1]; rfl
    have hmb := sumI_bd t.data.toList
    rw [← hm] at hmb
    obtain ⟨hmb1, hmb2⟩ := hmb
    have HT := Lib.hid (fun (W : World) => show Calls Try.prog 7 #[.string t] W fun e w' => e = .returned (.int .i64 m) ∧ W = w' from hm ▸ (implSum_any t W (maxOf (by rw [ht, strOf_size, List.length_set]; simp; omega))).mono fun _ _ ⟨h1, h2⟩ => ⟨h1, h2.symm⟩)
    have tok3 : True := trivial
    clear hm hlist ht hmn
    have HC := Lib.hid hcells
    have HZ := Lib.hid hzc
    have HB := Lib.hid hbel
    have hc8 : s[ys.length % s.size].toNat < 256 := s[ys.length % s.size].toNat_lt
    have hsz : 0 < s.size := by omega
    unfold maxLen at hcap2 hsm
    clear hcells hfro hzc hbel hz
    go_wp2_with (first
      | (go_at_call 7; have _t := tok; refine (HI.out _).mono ?_; clear tok _t; rintro e w2 ⟨rfl, rfl⟩)
      | (go_at_call 7; have _t := tok2; refine (H0.out _).mono ?_; clear tok2 _t; rintro e w2 ⟨rfl, rfl⟩)
      | (go_at_call 7; have _t := tok3; refine (HT.out _).mono ?_; clear tok3 _t; rintro e w2 ⟨rfl, rfl⟩)
      | (go_at_call 6; refine (HS.out _).mono ?_; rintro e w2 ⟨rfl, rfl⟩))
    go_ret
    refine ⟨rfl, Ext.setNew (Below.trans HX1.out (HB.out.mono HX1.out.size)) HX1.out.size _⟩

set_option maxRecDepth 100000 in
theorem fnSum_lifted (os : Os) (started : os.Started) (H : Type) (enc : TypeId × Value → H) :
    ReturnsInHanded {} Try.checked os 4 .any (Rows.fnSumSpec.pre6 enc Try.prog Try.f4 Rows.fnSumRow.domain false) (Rows.fnSumSpec.post enc Try.prog Try.f4 false true false false) := by
  refine returnsInHanded_of_change (C := Try.checked) law_own started (by kernel_rfl) Try.func4
    (ChangeSpec.witness6 (enc := enc) (C := Try.checked) false ⟨#[], #[.slice none 0 0, .slice none 0 0], []⟩ 8 (by kernel_rfl) (by kernel_rfl) (by kernel_rfl) (by kernel_rfl)) ?_
  intro W base args ds gs before hval0 hW hcnd _
  have hW' := hW
  obtain ⟨p, q, hA0, hV, rfl, hfz, hnd⟩ := hW
  have hA : DataW.TrodAll enc Try.prog W 0 (fun _ => true) true Try.f4.params.toList args.toList ds p := hA0
  have hval : ∀ (j : Nat) t v, Try.f4.params[j]? = some t → args[j]? = some v → Value.okWide Try.prog W .any base t v := hval0
  rw [Try.params4] at hA hval
  obtain ⟨v0, v1, d0, d1, p0, p1, rfl, rfl, rfl, ⟨k0, h0⟩, ⟨k1, h1⟩⟩ := trodAll_two hA
  obtain ⟨rfl, rfl⟩ := trodVars_none hV
  obtain ⟨_, _, _, rfl⟩ := okWide_slice Try.underlying24 (hval 0 24 v0 rfl rfl)
  obtain ⟨_, _, _, rfl⟩ := okWide_slice Try.underlying24 (hval 1 24 v1 rfl rfl)
  obtain ⟨xs, hxs⟩ := read_bytes h0
  obtain ⟨ys, hys⟩ := read_bytes h1
  clear hA0 hval0
  simp only [List.append_nil] at hW'
  refine (fnSum_any _ _ xs ys W hxs hys).mono fun e W' ⟨he, hw⟩ => ?_
  subst he
  exact ⟨_, rfl, law_post (t := 4) rfl rfl Try.underlying4 rfl law_laidOut (by rw [Try.params4]; intro t ht; simp at ht; subst ht; exact ⟨by kernel_rfl, of_decide_eq_true (by kernel_rfl)⟩) hW' hw⟩

theorem fnSum_holds : Rows.FnSumSaid :=
  OpenClaim.holds_of_wide 4 Try.f4 rfl rfl rfl rfl rfl rfl rfl ⟨rfl, rfl, rfl, rfl, rfl⟩ rfl rfl rfl rfl rfl (by kernel_rfl) Try.func4 (by kernel_rfl)
    (of_decide_eq_true (by kernel_rfl)) (by unfold Func.isWrapper; rw [if_neg (of_decide_eq_false (by kernel_rfl))]; exact ⟨rfl, rfl⟩)
    (fun os started H enc _ => fnSum_lifted os started H enc)

end Go.Proofs.Ytilbdmeeloeckaa
