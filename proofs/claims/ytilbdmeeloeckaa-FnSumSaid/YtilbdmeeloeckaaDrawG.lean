/- The walk of DrawSum. -/
import Derived.Test.YtilbdmeeloeckaaDrawF
namespace Go.Proofs.Ytilbdmeeloeckaa
open Go.RowKit

theorem signedL_small {l : List GA} (c : UInt8) (h : smalls l) : (signedL c l).length ≤ l.length * 39 := by
  induction l with
  | nil => simp [signedL]
  | cons a l ih =>
    have h1 := ih (fun t ht => h t (List.mem_cons_of_mem _ ht))
    have h2 := atomL_len a
    have h3 := small_w (h a (by simp))
    unfold signedL at h1 ⊢
    simp only [List.map_cons, List.flatten_cons, List.length_append, List.length_cons, List.length_nil] at h1 ⊢
    omega

set_option maxRecDepth 100000 in
set_option maxHeartbeats 2000000 in
theorem drawSum_any (v : Value) (xs : List UInt8) (w : World) {S : Nat → Prop} (hv : BytesR S w v xs) :
    Calls Try.prog 8 #[v] w fun e w' => (∃ s : ByteArray, e = .returned (.string s) ∧ s.size ≤ 1000) ∧ Ext w w' := by
  obtain ⟨A, c, rfl, hc1, hc2⟩ := SliceR.form hv
  have HV := Lib.hid hv
  clear hv
  go_enter Try.func8, Try.ntmps8
  go_wp2_with (first
    | (go_at_call 14; refine (l1Open_any _ xs _ HV.out).mono ?_; rintro e w1 ⟨rb, rfl, hr1, hx1, hrb⟩; have HR1 := Lib.hid (show Rd w1 rb 0 from ⟨0, Nat.le_refl _, hr1⟩); have HX1 := Lib.hid hx1; clear hr1 hx1)
    | (go_at_call 17; refine (l10Change_any rb 0 _ HR1.out (by omega)).mono ?_; rintro e w2 ⟨⟨g, v2, u2, rfl, hv2, hu2, hl1, hl2, hs1, hs2⟩, hr2, he2⟩; obtain ⟨B, d, rfl, hd1, hd2⟩ := SliceR.form hv2; obtain ⟨C, f, rfl, hf1, hf2⟩ := SliceR.form hu2; have HV2 := Lib.hid hv2; have HU2 := Lib.hid hu2; have HR2 := Lib.hid hr2; have HX2 := Lib.hid (Else.toExt HX1.out he2 hrb); have HW := Lib.hid (show wChange g ≤ 1048576 from by have h1 := smalls_w hs1; have h2 := smalls_w hs2; unfold wChange; omega); have HL := Lib.hid (show (strOf (changeL g)).size ≤ 1000 from by rw [strOf_size]; have h1 := signedL_small 43 hs1; have h2 := signedL_small 45 hs2; unfold changeL; rw [List.length_append]; omega); clear hv2 hu2 hr2 he2 hs1 hs2)
    | (go_at_call 16; refine (l8Put_any g _ _ _ HV2.out HU2.out HW.out).mono ?_; rintro e w3 ⟨rfl, hx3⟩; have HR3 := Lib.hid (HR2.out.ext hx3); have HX3 := Lib.hid (HX2.out.trans' hx3); clear hx3)
    | (go_at_call 15; refine (of_any rb 72 _ [⟨#[]⟩, ⟨#[97]⟩, ⟨#[48, 58]⟩, ⟨#[97, 98, 99]⟩, strOf (changeL g)] _ (strs_at _ _ (by rfl) (by rfl) HR3.out ?_ (by simp) _ (by rfl)) (by simp) (HR3.out.ext ((Ext.refl _).alloc _)) (by omega)).mono ?_; rotate_left; rintro e w4 ⟨⟨s, hs, _, rfl⟩, hr4, he4⟩; have HS := Lib.hid hs; have HE4 := Lib.hid he4; clear hs hr4 he4))
  · go_ret
    refine ⟨⟨s, rfl, ?_⟩, Else.toExt (HX3.out.alloc _) HE4.out hrb⟩
    have hs := HS.out
    simp only [List.mem_cons, List.not_mem_nil, or_false] at hs
    rcases hs with rfl | rfl | rfl | rfl | rfl
    · decide
    · decide
    · decide
    · decide
    · exact HL.out
  · intro s hs
    simp only [List.mem_cons, List.not_mem_nil, or_false] at hs
    rcases hs with rfl | rfl | rfl | rfl | rfl
    · decide
    · decide
    · decide
    · decide
    · exact HL.out

end Go.Proofs.Ytilbdmeeloeckaa
