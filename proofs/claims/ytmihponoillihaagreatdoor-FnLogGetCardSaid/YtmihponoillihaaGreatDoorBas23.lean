/- Part of the texts of a proof; what they say stands at each theorem. -/
import Derived.Test.YtmihponoillihaaGreatDoorBas22
import Derived.Deep.DeepCutAuto
set_option linter.unusedSimpArgs false
set_option linter.unusedVariables false
namespace Go.Proofs.YtmihponoillihaaGreatDoor
open Go.RowKit
section
variable {α : Type} {k : Kind α} {S : Nat → Prop} {w : World} {g : Nat} {t : TypeId} {l l1 l2 l3 : List Value} {x y z : α}
theorem list_one (hg : S g) (hb : Blk w g t l.toArray) (h : k.E S w l x) : ListK k S w (.slice (some ⟨g, 0, none⟩) 1 1) [x] := by
 refine ⟨_, 1, rfl, Nat.le_refl _, by unfold maxLen; omega, fun _ => ⟨g, 0, rfl, hb.lt, hg, fun i y hy => ?_⟩⟩
 rcases i with _ | i
 · simp at hy; subst hy
   refine ⟨l, k.len h, fun j u hu => ?_, h⟩; rw [hb.cell]; simpa using hu
 simp at hy
theorem list_two (hg : S g) (hb : Blk w g t (l1 ++ l2).toArray) (h1 : k.E S w l1 x) (h2 : k.E S w l2 y) : ListK k S w (.slice (some ⟨g, 0, none⟩) 2 2) [x, y] := by
 refine ⟨_, 2, rfl, Nat.le_refl _, by unfold maxLen; omega, fun _ => ⟨g, 0, rfl, hb.lt, hg, fun i u hu => ?_⟩⟩
 rcases i with _ | _ | i
 · simp at hu; subst hu
   refine ⟨l1, k.len h1, fun j u hu => ?_, h1⟩; rw [hb.cell]; have hj := (List.getElem?_eq_some_iff.1 hu).1; simpa [List.getElem?_append_left hj] using hu
 · simp at hu; subst hu
   refine ⟨l2, k.len h2, fun j u hu => ?_, h2⟩; rw [hb.cell]; have hk := k.len h1; rw [List.getElem?_toArray, List.getElem?_append_right (by omega)]; rw [← hu]; congr 1; omega
 simp at hu
theorem list_three (hg : S g) (hb : Blk w g t (l1 ++ (l2 ++ l3)).toArray) (h1 : k.E S w l1 x) (h2 : k.E S w l2 y) (h3 : k.E S w l3 z) : ListK k S w (.slice (some ⟨g, 0, none⟩) 3 3) [x, y, z] := by
 refine ⟨_, 3, rfl, Nat.le_refl _, by unfold maxLen; omega, fun _ => ⟨g, 0, rfl, hb.lt, hg, fun i u hu => ?_⟩⟩; have hk1 := k.len h1; have hk2 := k.len h2
 rcases i with _ | _ | _ | i
 · simp at hu; subst hu
   refine ⟨l1, hk1, fun j u hu => ?_, h1⟩; rw [hb.cell]; have hj := (List.getElem?_eq_some_iff.1 hu).1; simpa [List.getElem?_append_left hj] using hu
 · simp at hu; subst hu
   refine ⟨l2, hk2, fun j u hu => ?_, h2⟩; rw [hb.cell]; have hj := (List.getElem?_eq_some_iff.1 hu).1; rw [List.getElem?_toArray, List.getElem?_append_right (by omega), List.getElem?_append_left (by omega)]; rw [← hu]; congr 1; omega
 · simp at hu; subst hu
   refine ⟨l3, k.len h3, fun j u hu => ?_, h3⟩; rw [hb.cell]; rw [List.getElem?_toArray, List.getElem?_append_right (by omega), List.getElem?_append_right (by omega)]; rw [← hu]; congr 1; omega
 simp at hu
end
def nX : ByteArray := ⟨#[88]⟩
def nY : ByteArray := ⟨#[89]⟩
def nZ : ByteArray := ⟨#[90]⟩
def names2 : List ByteArray := [⟨#[113]⟩, ⟨#[115]⟩]
def names5h : List ByteArray := [⟨#[113]⟩, ⟨#[115]⟩, ⟨#[114]⟩, ⟨#[117]⟩, ⟨#[116]⟩]
def names8r : List ByteArray := [⟨#[101]⟩, ⟨#[112]⟩, ⟨#[101]⟩, ⟨#[116]⟩, ⟨#[113]⟩, ⟨#[104]⟩, ⟨#[122]⟩, ⟨#[115]⟩]
theorem names2_small : ∀ s ∈ names2, s.size ≤ 9 := by decide
theorem names5h_small : ∀ s ∈ names5h, s.size ≤ 9 := by decide
theorem names8r_small : ∀ s ∈ names8r, s.size ≤ 9 := by decide
set_option maxRecDepth 100000 in
set_option maxHeartbeats 8000000 in
theorem l10Rules_any (rb m : Nat) (w : World) (hr : Rd w rb m) (hp : m + 200 ≤ 1000000) :
 Calls Tryz.prog 133 #[.pointer (some ⟨rb, 0, none⟩)] w fun e w' =>
  (∃ (v : Value) (rules : List GR), e = .returned v ∧ RulesR (From w.heap.size) w' v rules) ∧ Rd w' rb (m + 200) ∧ Else rb w w' := by
 have hrl := hr.lt; obtain ⟨i0, hi0, hz0, hz1, hz2⟩ := info_parts part_info; obtain ⟨j0, hj0, hy0, hy1, hy2⟩ := info_parts rule_info; have HR := Lib.hid hr; have tok1 : True := trivial; have tok2 : True := trivial; have tok3 : True := trivial
 have hsm : ∀ {s : ByteArray}, s.size = 1 → s.size ≤ maxLen := fun h => maxOf (by omega)
 clear hr
 go_enter Tryz.func133, Tryz.ntmps133
 go_upto_if 11 with (first
  | (go_at_call 73; refine (rdPick_any rb m 2 _ (by omega) (HR.out.ext ((Ext.refl _).alloc _)) (by omega)).mono ?_; rintro e w1 ⟨⟨z, hz, rfl⟩, hr1, he1⟩
     have HR1 := Lib.hid hr1; have HE1 := Lib.hid ((Else.of_ext (rb := rb) ((Ext.refl w).alloc (.cells #[] 56))).trans' he1); have HO1 := Lib.hid (OwnK.else_ (OwnK.empty (k := kRule) (w := w) (e := 56) (S := From w.heap.size) rfl (Nat.le_refl _)) he1 hrl (fun h => absurd (show w.heap.size ≤ rb from h) (by omega))); have hw1 := HE1.out.size
     clear hr1 he1)
  | fail)
 have hlow : ∀ g, (Value.slice (some ⟨w.heap.size, 0, none⟩) 0 0).ownBlock = some g → g < w1.heap.size := fun g hg => (HO1.out.at_ g hg).2
 have HLOW := Lib.hid hlow; clear hlow; have tok4 : True := trivial; have tok5 : True := trivial
 go_cut [3] (fun s3 wx => ∃ rules : List GR, rules.length ≤ 2 ∧ Hid (OwnK kRule w.heap.size 56 (From w.heap.size) wx s3 rules) ∧ Hid (Rd wx rb (m + 1)) ∧ Hid (Else rb w wx))
 case first =>
  go_wp2_with (first
   | (go_at_call 186; have _t := tok1; refine (l10Edge_any ⟨#[116]⟩ nX nY _ (hsm rfl) (hsm rfl)).mono ?_; clear tok1 _t; rintro e w2 ⟨⟨v2, rfl, hv2⟩, hx2⟩
      obtain ⟨C2, c2, hv2e, _, _⟩ := SliceR.form hv2; have hv2e : v2 = .slice C2 2 c2 := hv2e; subst hv2e; have HV2 := Lib.hid hv2; have HX2 := Lib.hid hx2; have hw2 := hx2.size
      clear hx2 hv2)
   | (go_at_call 186; have _t := tok2; refine (l10Edge_any ⟨#[101]⟩ nX nY _ (hsm rfl) (hsm rfl)).mono ?_; clear tok2 _t; rintro e w3 ⟨⟨v3, rfl, hv3⟩, hx3⟩
      obtain ⟨C3, c3, hv3e, _, _⟩ := SliceR.form hv3; have hv3e : v3 = .slice C3 2 c3 := hv3e; subst hv3e; have HX3 := Lib.hid (HX2.out.trans' hx3); have hw3 := hx3.size
      have HEL := Lib.hid (show kRule.E (From w1.heap.size) ((w3.alloc (.cells #[.bool false, .string ⟨#[101]⟩, .slice C3 2 c3] 125)).alloc (.cells #[.string ⟨#[116]⟩, .slice C2 2 c2, .slice (some ⟨w3.heap.size, 0, none⟩) 1 1] 56)) [.string ⟨#[116]⟩, .slice C2 2 c2, .slice (some ⟨w3.heap.size, 0, none⟩) 1 1] ⟨⟨⟨#[116]⟩, [⟨true, nX⟩, ⟨true, nY⟩]⟩, [⟨false, ⟨⟨#[101]⟩, [⟨true, nX⟩, ⟨true, nY⟩]⟩⟩]⟩ from
       ⟨_, _, rfl, hsm rfl, TermsR.ext (HV2.out.ext hx3) (((Ext.refl _).alloc _).alloc _), list_one (k := kPart) (S := From w1.heap.size) (show w1.heap.size ≤ w3.heap.size from Nat.le_trans hw2 hw3) ((Blk.new w3 125 _).alloc _) ⟨_, rfl, hsm rfl, TermsR.ext (TermsR.sub hv3 (fromLe hw2)) (((Ext.refl _).alloc _).alloc _)⟩⟩)
      clear hx3 hv3)
   | (at_builtin; refine wpList_appK (k := kRule) (S := From w.heap.size) (T := From w1.heap.size) (base := w.heap.size) (xs := []) (ys := [⟨⟨⟨#[116]⟩, [⟨true, nX⟩, ⟨true, nY⟩]⟩, [⟨false, ⟨⟨#[101]⟩, [⟨true, nX⟩, ⟨true, nY⟩]⟩⟩]⟩]) rfl (.tmp 12) (.tmp 18) 43 (by rfl) j0 _ 64 Tryz.underlying43 hj0 hy0 hy1 hy2 (by rfl) (by rfl) (((HO1.out.ext HX3.out).alloc _).alloc _) _ 1 1 (by rfl) (ElemsK.one (k := kRule) (Blk.at_new (by simp)) HEL.out) (fun b hb _ => Nat.le_trans hw1 hb) (fun g hg hT => absurd (HLOW.out g hg) (Nat.not_lt.2 hT)) (by unfold maxLen; simp) (by simp) (by go_size) ?_
      intro v4 w4 hap; obtain ⟨O4, n4, c4, rfl, hn4, ha4, hb4⟩ := hap.own.form2; have HO4 := Lib.hid hap.own; have HE4 := Lib.hid (((HE1.out.trans' (Else.of_ext ((HX3.out.alloc _).alloc _)))).below hap.below (Nat.le_refl _)); have HR4 := Lib.hid (((HR1.out.ext ((HX3.out.alloc _).alloc _))).below hap.below hrl)
      have hlow4 : ∀ g, (Value.slice O4 n4 c4).ownBlock = some g → g < w4.heap.size := (fun g hg => (hap.own.at_ g hg).2)
      have HLOW4 := Lib.hid hlow4; have hw4 := HE4.out.size
      clear hap hlow4)
   | (go_at_call 186; have _t := tok3; refine (l10Edge_any ⟨#[116]⟩ nX nZ _ (hsm rfl) (hsm rfl)).mono ?_; clear tok3 _t; rintro e w5 ⟨⟨v5, rfl, hv5⟩, hx5⟩
      obtain ⟨C5, c5, hv5e, _, _⟩ := SliceR.form hv5; have hv5e : v5 = .slice C5 2 c5 := hv5e; subst hv5e; have HV5 := Lib.hid hv5; have HX5 := Lib.hid hx5; have hw5 := hx5.size
      clear hx5 hv5)
   | (go_at_call 186; have _t := tok4; refine (l10Edge_any ⟨#[116]⟩ nX nY _ (hsm rfl) (hsm rfl)).mono ?_; clear tok4 _t; rintro e w6 ⟨⟨v6, rfl, hv6⟩, hx6⟩
      obtain ⟨C6, c6, hv6e, _, _⟩ := SliceR.form hv6; have hv6e : v6 = .slice C6 2 c6 := hv6e; subst hv6e; have HV6 := Lib.hid (TermsR.sub hv6 (fromLe hw5)); have HV56 := Lib.hid (HV5.out.ext hx6); have HX6 := Lib.hid (HX5.out.trans' hx6); have hw6 := HX6.out.size
      clear hx6 hv6)
   | (go_at_call 186; have _t := tok5; refine (l10Edge_any ⟨#[101]⟩ nY nZ _ (hsm rfl) (hsm rfl)).mono ?_; clear tok5 _t; rintro e w7 ⟨⟨v7, rfl, hv7⟩, hx7⟩
      obtain ⟨C7, c7, hv7e, _, _⟩ := SliceR.form hv7; have hv7e : v7 = .slice C7 2 c7 := hv7e; subst hv7e; have HX7 := Lib.hid (HX6.out.trans' hx7); have hw7 := HX7.out.size
      have HEM := Lib.hid (show kRule.E (From w4.heap.size) ((w7.alloc (.cells #[.bool false, .string ⟨#[116]⟩, .slice C6 2 c6, .bool false, .string ⟨#[101]⟩, .slice C7 2 c7] 125)).alloc (.cells #[.string ⟨#[116]⟩, .slice C5 2 c5, .slice (some ⟨w7.heap.size, 0, none⟩) 2 2] 56)) [.string ⟨#[116]⟩, .slice C5 2 c5, .slice (some ⟨w7.heap.size, 0, none⟩) 2 2] ⟨⟨⟨#[116]⟩, [⟨true, nX⟩, ⟨true, nZ⟩]⟩, [⟨false, ⟨⟨#[116]⟩, [⟨true, nX⟩, ⟨true, nY⟩]⟩⟩, ⟨false, ⟨⟨#[101]⟩, [⟨true, nY⟩, ⟨true, nZ⟩]⟩⟩]⟩ from
       ⟨_, _, rfl, hsm rfl, TermsR.ext (HV56.out.ext hx7) (((Ext.refl _).alloc _).alloc _), list_two (k := kPart) (S := From w4.heap.size) (l1 := [.bool false, .string ⟨#[116]⟩, .slice C6 2 c6]) (l2 := [.bool false, .string ⟨#[101]⟩, .slice C7 2 c7]) (show w4.heap.size ≤ w7.heap.size from hw7) ((Blk.new w7 125 _).alloc _)
        ⟨_, rfl, hsm rfl, TermsR.ext (HV6.out.ext hx7) (((Ext.refl _).alloc _).alloc _)⟩ ⟨_, rfl, hsm rfl, TermsR.ext (TermsR.sub hv7 (fromLe hw6)) (((Ext.refl _).alloc _).alloc _)⟩⟩)
      clear hx7 hv7)
   | (at_builtin; refine wpList_appK (k := kRule) (S := From w.heap.size) (T := From w4.heap.size) (base := w.heap.size) (xs := [] ++ [⟨⟨⟨#[116]⟩, [⟨true, nX⟩, ⟨true, nY⟩]⟩, [⟨false, ⟨⟨#[101]⟩, [⟨true, nX⟩, ⟨true, nY⟩]⟩⟩]⟩]) (ys := [⟨⟨⟨#[116]⟩, [⟨true, nX⟩, ⟨true, nZ⟩]⟩, [⟨false, ⟨⟨#[116]⟩, [⟨true, nX⟩, ⟨true, nY⟩]⟩⟩, ⟨false, ⟨⟨#[101]⟩, [⟨true, nY⟩, ⟨true, nZ⟩]⟩⟩]⟩]) rfl (.tmp 20) (.tmp 28) 43 (by rfl) j0 _ 64 Tryz.underlying43 hj0 hy0 hy1 hy2 (by rfl) (by rfl) (((HO4.out.ext HX7.out).alloc _).alloc _) _ 1 1 (by rfl) (ElemsK.one (k := kRule) (Blk.at_new (by simp)) HEM.out) (fun b hb _ => Nat.le_trans hw4 hb) (fun g hg hT => absurd (HLOW4.out g hg) (Nat.not_lt.2 hT)) (by unfold maxLen; simp) (by simp) (by go_size) ?_
      intro v8 w8 hap; have HO8 := Lib.hid hap.own; have HE8 := Lib.hid (((HE4.out.trans' (Else.of_ext ((HX7.out.alloc _).alloc _)))).below hap.below (Nat.le_refl _)); have HR8 := Lib.hid (((HR4.out.ext ((HX7.out.alloc _).alloc _))).below hap.below hrl)
      clear hap)
   | fail)
  all_goals go_meet
  · exact ⟨_, by simp, HO8, HR8, HE8⟩
  exact ⟨[], by simp, HO1, HR1, HE1⟩
 case rest =>
  obtain ⟨rules, hlen, ho, hr, he⟩ := hcut; obtain ⟨O, n0, c0, rfl, hn0, ha0, hb0⟩ := ho.out.form2; have HN0 := Lib.hid hn0.out; clear HO1 HR1 HE1 HLOW hw1 hn0
  go_upto_if 32 with (first
   | (go_at_call 73; refine (rdPick_any rb (m + 1) 3 _ (by omega) hr.out (by omega)).mono ?_; rintro e w2 ⟨⟨z2, hzz2, rfl⟩, hr2, he2⟩
      have HR2 := Lib.hid hr2; have HE2 := Lib.hid (he.out.trans' he2); have HO2 := Lib.hid (OwnK.else_ ho.out he2 hrl (fun h => absurd (show w.heap.size ≤ rb from h) (by omega))); have hw2 := HE2.out.size
      clear hr2 he2)
   | fail)
  have HLOW2 := Lib.hid (show ∀ g, (Value.slice O n0 c0).ownBlock = some g → g < w2.heap.size from fun g hg => (HO2.out.at_ g hg).2); have hr2l := HR2.out.lt
  go_cut [3] (fun s3 wx => ∃ rules : List GR, rules.length ≤ 3 ∧ Hid (OwnK kRule w.heap.size 56 (From w.heap.size) wx s3 rules) ∧ Hid (Rd wx rb (m + 3)) ∧ Hid (Else rb w wx))
  case first =>
   go_wp2_with (first
    | (go_at_call 60
       have HNM := Lib.hid (show StrsR (fun b => b ≠ rb) (((w2.alloc (.cells #[.bool true, .string ⟨#[88]⟩] 71)).alloc (.cells #[.bool true, .string ⟨#[88]⟩] 71)).alloc (.cells #[.string ⟨#[113]⟩, .string ⟨#[115]⟩] 9)) (.slice (some ⟨w2.heap.size + 1 + 1, 0, none⟩) 2 2) names2 from strs_at _ names2 rfl (by simp) (HR2.out.ext (((Ext.refl _).alloc _).alloc _)) (fun s hs => Nat.le_trans (names2_small s hs) (by omega)) (by simp [names2]) _ rfl); refine (of_any rb (m + 2) _ names2 _ HNM.out (by simp [names2]) (HR2.out.ext ((((Ext.refl _).alloc _).alloc _).alloc _)) (by omega)).mono ?_; rintro e w3 ⟨⟨s, hs, hs2, rfl⟩, hr3, he3⟩; have hx20 : Ext w2 (((w2.alloc (.cells #[.bool true, .string ⟨#[88]⟩] 71)).alloc (.cells #[.bool true, .string ⟨#[88]⟩] 71)).alloc (.cells #[.string ⟨#[113]⟩, .string ⟨#[115]⟩] 9)) := (((Ext.refl _).alloc _).alloc _).alloc _; have HB1 := Lib.hid (show Blk w3 w2.heap.size 71 #[.bool true, .string ⟨#[88]⟩] from (he3.agree _ (by omega) (by simp <;> omega)).trans (((Blk.new w2 71 #[.bool true, .string ⟨#[88]⟩]).alloc _).alloc _)); have HB2 := Lib.hid (show Blk w3 (w2.heap.size + 1) 71 #[.bool true, .string ⟨#[88]⟩] from (he3.agree _ (by omega) (by simp <;> omega)).trans (((Blk.at_new (w := w2.alloc (.cells #[.bool true, .string ⟨#[88]⟩] 71)) (by simp)).alloc _))); have HR3 := Lib.hid hr3; have HF3 := Lib.hid ((Else.of_ext (rb := rb) hx20).trans' he3); have HE3 := Lib.hid (HE2.out.trans' HF3.out); have HO3 := Lib.hid (OwnK.else_ HO2.out HF3.out hrl (fun h => absurd (show w.heap.size ≤ rb from h) (by omega)))
       have hw3 := HF3.out.size
       have HEL := Lib.hid (show kRule.E (From w2.heap.size) (((w3.alloc (.cells #[.bool true, .string ⟨#[88]⟩] 71)).alloc (.cells #[.bool false, .string ⟨#[112]⟩, .slice (some ⟨w2.heap.size + 1, 0, none⟩) 1 1, .bool true, .string s, .slice (some ⟨w3.heap.size, 0, none⟩) 1 1] 125)).alloc (.cells #[.string ⟨#[114]⟩, .slice (some ⟨w2.heap.size, 0, none⟩) 1 1, .slice (some ⟨w3.heap.size + 1, 0, none⟩) 2 2] 56)) [.string ⟨#[114]⟩, .slice (some ⟨w2.heap.size, 0, none⟩) 1 1, .slice (some ⟨w3.heap.size + 1, 0, none⟩) 2 2] ⟨⟨⟨#[114]⟩, [⟨true, nX⟩]⟩, [⟨false, ⟨⟨#[112]⟩, [⟨true, nX⟩]⟩⟩, ⟨true, ⟨s, [⟨true, nX⟩]⟩⟩]⟩ from
        ⟨_, _, rfl, hsm rfl, list_one (k := kTerm) (S := From w2.heap.size) (Nat.le_refl _) (((HB1.out.alloc _).alloc _).alloc _) ⟨rfl, hsm rfl⟩, list_two (k := kPart) (S := From w2.heap.size) (l1 := [.bool false, .string ⟨#[112]⟩, .slice (some ⟨w2.heap.size + 1, 0, none⟩) 1 1]) (l2 := [.bool true, .string s, .slice (some ⟨w3.heap.size, 0, none⟩) 1 1]) (show w2.heap.size ≤ w3.heap.size + 1 by omega) ((Blk.at_new (w := w3.alloc _) (by simp)).alloc _)
         ⟨_, rfl, hsm rfl, list_one (k := kTerm) (S := From w2.heap.size) (show w2.heap.size ≤ w2.heap.size + 1 by omega) (((HB2.out.alloc _).alloc _).alloc _) ⟨rfl, hsm rfl⟩⟩ ⟨_, rfl, hs2, list_one (k := kTerm) (S := From w2.heap.size) (show w2.heap.size ≤ w3.heap.size from hw3) (((Blk.new w3 71 _).alloc _).alloc _) ⟨rfl, hsm rfl⟩⟩⟩)
       clear hr3 he3 hx20 hs)
    | (at_builtin; refine wpList_appK (k := kRule) (S := From w.heap.size) (T := From w2.heap.size) (base := w.heap.size) (xs := rules) (ys := [⟨⟨⟨#[114]⟩, [⟨true, nX⟩]⟩, [⟨false, ⟨⟨#[112]⟩, [⟨true, nX⟩]⟩⟩, ⟨true, ⟨s, [⟨true, nX⟩]⟩⟩]⟩]) rfl (.tmp 33) (.tmp 50) 43 (by rfl) j0 _ 64 Tryz.underlying43 hj0 hy0 hy1 hy2 (by rfl) (by rfl) ((((HO3.out.alloc _).alloc _).alloc _)) _ 1 1 (by rfl) (ElemsK.one (k := kRule) (Blk.at_new (by simp)) HEL.out) (fun b hb _ => Nat.le_trans hw2 hb) (fun g hg hT => absurd (HLOW2.out g hg) (Nat.not_lt.2 hT)) (by unfold maxLen; omega) (by omega) (by go_size) ?_
       intro v8 w8 hap; have HO8 := Lib.hid hap.own; have HE8 := Lib.hid (((HE3.out.trans' (Else.of_ext ((((Ext.refl _).alloc _).alloc _).alloc _)))).below hap.below (Nat.le_refl _)); have HR8 := Lib.hid (((HR3.out.ext ((((Ext.refl _).alloc _).alloc _).alloc _))).below hap.below hrl)
       clear hap)
    | fail)
   all_goals go_meet
   · exact ⟨_, by simp; omega, HO8, Lib.hid (HR8.out.le (by omega)), HE8⟩
   exact ⟨rules, by omega, HO2, Lib.hid (HR2.out.le (by omega)), HE2⟩
  case rest =>
   clear HO2 HR2 HE2 HLOW2 hw2 ho hr he HN0; obtain ⟨rules1, hlen1, ho, hr, he⟩ := hcut; obtain ⟨O1, n1, c1, rfl, hn1, ha1, hb1⟩ := ho.out.form2; have HN1 := Lib.hid hn1.out; clear hn1
   go_wp2_with (first
    | (go_at_call 73; refine (rdPick_any rb (m + 3) 3 _ (by omega) hr.out (by omega)).mono ?_; rintro e w4 ⟨⟨z4, hz4, rfl⟩, hr4, he4⟩
       have HR4 := Lib.hid hr4; have HE4 := Lib.hid (he.out.trans' he4); have HO4 := Lib.hid (OwnK.else_ ho.out he4 hrl (fun h => absurd (show w.heap.size ≤ rb from h) (by omega)))
       clear hr4 he4)
    | fail)
   go_loopw [3, 4] (fun o i wr => ∃ (k : Nat) (rs : List GR), i = .int .i64 k ∧ k ≤ 2 ∧ rs.length + k ≤ 5 ∧ Hid (OwnK kRule w.heap.size 56 (From w.heap.size) wr o rs) ∧ Hid (Rd wr rb (m + 104 - 50 * k)) ∧ Hid (Else rb w wr)) (fun _ i _ => (intOf i).toNat)
   case atStart => exact ⟨z4, rules1, rfl, by omega, by omega, HO4, Lib.hid (HR4.out.le (by omega)), HE4⟩
   case round =>
    obtain ⟨k, rs, rfl, hk2, hlen2, ho2, hr2, he2⟩ := hrel; obtain ⟨O2, n2, c2, rfl, hn2, ha2, hb2⟩ := ho2.out.form2; have HN2 := Lib.hid hn2.out
    have hk0 : (0 : Int) ≤ (k : Int) := by omega
    by_cases hlt : 0 < k
    · have hlt' : (0 : Int) < (k : Int) := by omega
      obtain ⟨M, hM⟩ : ∃ M, M = m + 104 - 50 * k := ⟨_, rfl⟩
      rw [← hM] at hr2
      have hM1 : M + 50 ≤ 1000000 := by omega
      have HMM := Lib.hid hM; have hwr := he2.out.size; have hrlr := hr2.out.lt; clear hn2 hM; have HNM := Lib.hid (show StrsR (fun b => b ≠ rb) (wr.alloc (.cells #[.string ⟨#[113]⟩, .string ⟨#[115]⟩, .string ⟨#[114]⟩, .string ⟨#[117]⟩, .string ⟨#[116]⟩] 9)) (.slice (some ⟨wr.heap.size, 0, none⟩) 5 5) names5h from strs_at _ names5h rfl rfl hr2.out (fun s hs => Nat.le_trans (names5h_small s hs) (by omega)) (by simp [names5h]) _ rfl)
      go_upto_if 70 with (first
       | (go_at_call 60; refine (of_any rb M _ names5h _ HNM.out (by simp [names5h]) (hr2.out.ext ((Ext.refl _).alloc _)) (by omega)).mono ?_; rintro e w5 ⟨⟨s, hs, hs2, rfl⟩, hr5, he5⟩
          have hs9 := names5h_small s hs; have HR5 := Lib.hid hr5; have HF5 := Lib.hid ((Else.of_ext (rb := rb) ((Ext.refl wr).alloc (.cells #[.string ⟨#[113]⟩, .string ⟨#[115]⟩, .string ⟨#[114]⟩, .string ⟨#[117]⟩, .string ⟨#[116]⟩] 9))).trans' he5); have hw5 := HF5.out.size
          clear hr5 he5 hs)
       | (go_at_call 162; refine (l10AtomVars_any rb (M + 1) s _ (by omega) HR5.out (by omega)).mono ?_; rintro e w6 ⟨⟨v6, ts, rfl, ht6, hti⟩, hr6, he6⟩
          obtain ⟨T, n6, c6, rfl, hn6, ha6, hb6⟩ := ht6.form2; have HTI := Lib.hid hti; have HR6 := Lib.hid hr6; have HF6 := Lib.hid (HF5.out.trans' he6); have hw6 := HF6.out.size; have HT6 := Lib.hid (show TermsR (fun b => wr.heap.size ≤ b ∧ b < w6.heap.size) w6 (.slice T n6 c6) ts from ListK.sub (k := kTerm) (ListK.low (k := kTerm) (ht6.list (S' := From wr.heap.size) (fun _ h => h.elim) (fun b hb => Nat.le_trans (Nat.le_trans hw5 (Nat.le_add_right _ 2)) hb))) (fun b hb => hb)); have HN8 := Lib.hid (show StrsR (fun b => b ≠ rb) (w6.alloc (.cells #[.string ⟨#[101]⟩, .string ⟨#[112]⟩, .string ⟨#[101]⟩, .string ⟨#[116]⟩, .string ⟨#[113]⟩, .string ⟨#[104]⟩, .string ⟨#[122]⟩, .string ⟨#[115]⟩] 9)) (.slice (some ⟨w6.heap.size, 0, none⟩) 8 8) names8r from strs_at _ names8r rfl rfl hr6 (fun s hs => Nat.le_trans (names8r_small s hs) (by omega)) (by simp [names8r]) _ rfl)
          clear hr6 he6 ht6 hti hn6)
       | (go_at_call 118; refine (l10Body_any rb (M + 7) _ names8r _ HN8.out (by simp [names8r]) names8r_small (HR6.out.ext ((Ext.refl _).alloc _)) (by omega)).mono ?_; rintro e w7 ⟨⟨v7, ps, rfl, ho7, hl71, hl72, hm7⟩, hr7, he7⟩
          obtain ⟨Q, n7, c7, rfl, hn7, ha7, hb7⟩ := ho7.form2
          have hx67 : w6.heap.size + 1 ≤ w7.heap.size := by have := he7.size; simp at this; omega
          have HO7 := Lib.hid (show OwnK kPart wr.heap.size 125 (fun b => wr.heap.size ≤ b ∧ b ≠ w7.heap.size) w7 (.slice Q n7 c7) ps from ho7.low.sub (by simp; omega) (fun b hb => ⟨by have h : (w6.alloc _).heap.size ≤ b := hb.1; simp at h; omega, by have := hb.2; omega⟩)); have HOB7 := Lib.hid (show ∀ g, (Value.slice Q n7 c7).ownBlock = some g → w6.heap.size ≤ g ∧ g < w7.heap.size from fun g hg => ⟨by have h := (ho7.at_ g hg).1; simp at h; omega, (ho7.at_ g hg).2⟩); have HM7 := Lib.hid (show ∀ p ∈ ps, p.atom.args.length ≤ 3 from fun p hp => (hm7 p hp).2); have HF7i := (Else.of_ext (rb := rb) ((Ext.refl w6).alloc (.cells #[.string ⟨#[101]⟩, .string ⟨#[112]⟩, .string ⟨#[101]⟩, .string ⟨#[116]⟩, .string ⟨#[113]⟩, .string ⟨#[104]⟩, .string ⟨#[122]⟩, .string ⟨#[115]⟩] 9))).trans' he7; have HT7 := Lib.hid (show TermsR (fun b => wr.heap.size ≤ b ∧ b < w6.heap.size) w7 (.slice T n6 c6) ts from HT6.out.imp (fun _ h => h) (fun b hb hlt => HF7i.agree b (by omega) hlt) HF7i.size); have HF7 := Lib.hid (HF6.out.trans' HF7i); have HR7 := Lib.hid hr7
          clear hr7 he7 ho7 hm7 hn7 HF7i)
       | (go_at_call 73; refine (rdPick_any rb (M + 37) 8 _ (by omega) (HR7.out.ext ((Ext.refl _).alloc _)) (by omega)).mono ?_; rintro e w8 ⟨⟨z8, hz8, rfl⟩, hr8, he8⟩
          have hx78 : w7.heap.size + 1 ≤ w8.heap.size := by have := he8.size; simp at this; omega
          have HB8 := Lib.hid (show Blk w8 w7.heap.size 56 #[.string s, .slice T n6 c6, .slice Q n7 c7] from (he8.agree _ (by omega) (by simp <;> omega)).trans (Blk.new w7 56 #[.string s, .slice T n6 c6, .slice Q n7 c7])); have HF8i := (Else.of_ext (rb := rb) ((Ext.refl w7).alloc (.cells #[.string s, .slice T n6 c6, .slice Q n7 c7] 56))).trans' he8; have HT8 := Lib.hid (show TermsR (fun b => wr.heap.size ≤ b ∧ b < w6.heap.size) w8 (.slice T n6 c6) ts from HT7.out.imp (fun _ h => h) (fun b hb hlt => HF8i.agree b (by omega) hlt) HF8i.size); have HO8 := Lib.hid (OwnK.else_ HO7.out HF8i hrlr (fun h => absurd h.1 (by omega))); have HF8 := Lib.hid (HF7.out.trans' HF8i); have HR8 := Lib.hid hr8
          clear hr8 he8 HF8i)
       | fail)
      obtain ⟨gb, hgb⟩ : ∃ gb, gb = w7.heap.size := ⟨_, rfl⟩
      rw [← hgb] at HB8 HO8 HOB7 hx67 hx78 ⊢; have hgw : w6.heap.size + 1 ≤ gb := hx67; have hgw8 : gb + 1 ≤ w8.heap.size := hx78; have HOB8 := Lib.hid (show ∀ g, (Value.slice Q n7 c7).ownBlock = some g → w6.heap.size ≤ g ∧ g ≠ gb from fun g hg => ⟨(HOB7.out g hg).1, by have := (HOB7.out g hg).2; omega⟩); clear HO7 HT7 HT6 HR7 HR6 HR5 HN8 HNM HF5 HF6 HF7 HOB7 hx67 hx78 hgb
      go_cut [] (fun wx => ∃ (ps2 : List GP) (u2 : Value), ps2.length ≤ 3 ∧ Hid (Blk wx gb 56 #[.string s, .slice T n6 c6, u2]) ∧ Hid (OwnK kPart wr.heap.size 125 (fun b => wr.heap.size ≤ b ∧ b ≠ gb) wx u2 ps2) ∧ Hid (∀ g, u2.ownBlock = some g → w6.heap.size ≤ g ∧ g ≠ gb) ∧ Hid (TermsR (fun b => wr.heap.size ≤ b ∧ b < w6.heap.size) wx (.slice T n6 c6) ts) ∧ Hid (∀ p ∈ ps2, p.atom.args.length ≤ 3) ∧ Hid (Rd wx rb (M + 38)) ∧ Hid (Else rb wr wx))
      case first =>
       have b2 := HB8.out.cell 2; have bf2 := HB8.out.frozen 2; have bl := HB8.out.lt
       go_wp2_with fail
       all_goals go_meet
       · have hA : Agree (fun b => b ≠ gb) w8 (w8.setCell ⟨gb, 2, none⟩ (.slice (some ⟨w8.heap.size, 0, none⟩) 0 0)) := (Agree.refl _ _).setCell (fun h => h rfl) _
         have hszc : w8.heap.size ≤ (w8.setCell ⟨gb, 2, none⟩ (.slice (some ⟨w8.heap.size, 0, none⟩) 0 0)).heap.size := by go_size
         have hx8 : ∀ W : World, Ext W (W.alloc (.cells #[] 125)) := fun W => (Ext.refl W).alloc _
         exact ⟨[], .slice (some ⟨w8.heap.size, 0, none⟩) 0 0, by simp, Lib.hid ((HB8.out.set_ 2 _).alloc _), Lib.hid (OwnK.empty (by simp [World.setCell]) (by omega)), Lib.hid (fun g hg => by have h2 : some w8.heap.size = some g := hg; injection h2 with h2; subst h2; exact ⟨by omega, by omega⟩),
          Lib.hid (TermsR.ext (HT8.out.imp (fun _ h => h) (fun b hb hlt => hA b (by omega) hlt) hszc) (hx8 _)), Lib.hid (fun p hp => by cases hp), Lib.hid ((HR8.out.keep (fun b hb hlt => hA b (by have : b ≤ rb := hb; omega) hlt) hszc).ext (hx8 _)),
          Lib.hid ((HF8.out.below (Below.setCell (Below.refl gb w8) (Nat.le_refl _) _) (by omega)).trans' (Else.of_ext (hx8 _)))⟩
       exact ⟨ps, _, hl72, HB8, HO8, HOB8, HT8, HM7, HR8, HF8⟩
      case rest =>
       clear HB8 HO8 HT8 HR8 HF8 HOB8 HM7; obtain ⟨ps2, u2, hps2, hb2', hoo2, hob2, ht2, hpa2, hr3, hf3⟩ := hcut; obtain ⟨Q2, n3, c3, rfl, hn3, ha3, hb3⟩ := hoo2.out.form2; have q0 := hb2'.out.cell 0; have q1 := hb2'.out.cell 1; have q2 := hb2'.out.cell 2; have ql := hb2'.out.lt; have hgc : gb + 1 ≤ wc.heap.size := ql; have HTG := Lib.hid (l2Tight_gen ⟨⟨s, ts⟩, ps2⟩ (.slice T n6 c6) (.slice Q2 n3 c3) wc (by show s.size ≤ maxLen; exact hs2) ht2.out (hoo2.out.list (S' := From wr.heap.size) (fun _ h => h.1) (fun _ h => h)) ⟨by have := HTI.out.1; show ts.length ≤ 12; omega, by show ps2.length ≤ 4; omega, hpa2.out⟩)
       obtain ⟨tg, htg⟩ : ∃ tg, tg = tightB ⟨⟨s, ts⟩, ps2⟩ := ⟨_, rfl⟩
       rw [← htg] at HTG; have HN3 := Lib.hid hn3.out; clear htg hn3
       go_upto_if 75 with (first
        | (go_at_call 128; refine HTG.out.mono ?_; rintro e w9 ⟨rfl, hx9⟩
           have HX9 := Lib.hid hx9; have hw9 := hx9.size
           clear hx9)
        | fail)
       have hgw9 : gb + 1 ≤ w9.heap.size := by omega
       go_cut [] (fun wx => ∃ (ps4 : List GP) (u4 : Value), ps4.length ≤ 4 ∧ Hid (Blk wx gb 56 #[.string s, .slice T n6 c6, u4]) ∧ Hid (TermsR (From wr.heap.size) wx (.slice T n6 c6) ts) ∧ Hid (PartsR (From wr.heap.size) wx u4 ps4) ∧ Hid (Rd wx rb (M + 38)) ∧ Hid (Else rb wr wx))
       case first =>
        have HB9 := Lib.hid (hb2'.out.ext HX9.out); have HO9 := Lib.hid (hoo2.out.ext HX9.out); have HLO9 := Lib.hid (show ∀ g, (Value.slice Q2 n3 c3).ownBlock = some g → g < w9.heap.size from fun g hg => Nat.lt_of_lt_of_le (hoo2.out.at_ g hg).2 hw9); have p2 := HB9.out.cell 2
        go_wp2_with (first
         | (at_builtin; refine wpList_appK (k := kPart) (S := fun b => wr.heap.size ≤ b ∧ b ≠ gb) (T := From w9.heap.size) (base := wr.heap.size) (xs := ps2) (ys := [⟨false, ⟨⟨#[104]⟩, [⟨true, nX⟩, ⟨true, nY⟩, ⟨true, nZ⟩]⟩⟩]) rfl (.tmp 77) (.tmp 84) 49 (by rfl) i0 _ 48 Tryz.underlying49 hi0 hz0 hz1 hz2 (by rfl) (by rfl) ((HO9.out.alloc _).alloc _) _ 1 1 (by rfl)
              (ElemsK.one (k := kPart) (Blk.at_new (by simp)) ⟨_, rfl, hsm rfl, list_three (k := kTerm) (S := From w9.heap.size) (l1 := [.bool true, .string ⟨#[88]⟩]) (l2 := [.bool true, .string ⟨#[89]⟩]) (l3 := [.bool true, .string ⟨#[90]⟩]) (Nat.le_refl _) ((Blk.new w9 71 _).alloc _) ⟨rfl, hsm rfl⟩ ⟨rfl, hsm rfl⟩ ⟨rfl, hsm rfl⟩⟩)
              (fun b hb _ => ⟨by have : w9.heap.size ≤ b := hb; omega, by have : w9.heap.size ≤ b := hb; omega⟩) (fun g hg hT => absurd (HLO9.out g hg) (Nat.not_lt.2 hT)) (by unfold maxLen; omega) (by omega) (by go_size) ?_
            intro v10 w10 hap; obtain ⟨Q10, n10, c10, rfl, hn10, ha10, hb10⟩ := hap.own.form2; have HB10 := Lib.hid (hap.blk2 ((HB9.out.alloc _).alloc _) (fun e => (hob2.out _ e).2 rfl)); have r2 := HB10.out.cell 2; have rf2 := HB10.out.frozen 2; have rl := HB10.out.lt; have HAP := Lib.hid hap
            clear hap hn10)
         | fail)
        all_goals go_meet
        · have hxw : Ext w9 ((w9.alloc (.cells #[.bool true, .string ⟨#[88]⟩, .bool true, .string ⟨#[89]⟩, .bool true, .string ⟨#[90]⟩] 71)).alloc (.cells #[.bool false, .string ⟨#[104]⟩, .slice (some ⟨w9.heap.size, 0, none⟩) 3 3] 125)) := ((Ext.refl _).alloc _).alloc _
          have hA : Agree (fun b => b ≠ gb) w10 (w10.setCell ⟨gb, 2, none⟩ (.slice Q10 n10 c10)) := (Agree.refl _ _).setCell (fun h => h rfl) _
          have hszc : w10.heap.size ≤ (w10.setCell ⟨gb, 2, none⟩ (.slice Q10 n10 c10)).heap.size := by go_size
          have HT9 := (ht2.out.ext HX9.out).ext hxw; have HT10 := HT9.imp (fun _ h => h) (fun b hb hlt => HAP.out.grown.block b hlt (fun he => by have := (hob2.out b he.symm).1; omega)) HAP.out.grown.size; have HT11 := HT10.imp (fun _ h => h) (fun b hb hlt => hA b (by omega) hlt) hszc
          have hown : ∀ g, (Value.slice Q10 n10 c10).ownBlock = some g → g ≠ gb := fun g hg => by
           rcases HAP.out.at_ with h | h
           · exact (hob2.out g (h ▸ hg)).2
           rw [h] at hg
           injection hg with hg
           simp at hg; omega
          have HO11 := HAP.out.own.agree (fun b hb hlt => hA b hb.2 hlt) (fun g hg => hA g (hown g hg) (HAP.out.own.at_ g hg).2) hszc; have HR10 := ((hr3.out.ext HX9.out).ext hxw).below HAP.out.below hrlr; have HF10 := (hf3.out.trans' (Else.of_ext (HX9.out.trans' hxw))).below HAP.out.below (Nat.le_refl _)
          exact ⟨ps2 ++ [(⟨false, ⟨⟨#[104]⟩, [⟨true, nX⟩, ⟨true, nY⟩, ⟨true, nZ⟩]⟩⟩ : GP)], .slice Q10 n10 c10, by simp; omega, Lib.hid (HB10.out.set_ 2 _), Lib.hid (HT11.sub (fun b hb => hb.1)), Lib.hid (HO11.list (S' := From wr.heap.size) (fun _ h => h.1) (fun _ h => h)),
           Lib.hid (HR10.keep (fun b hb hlt => hA b (by have : b ≤ rb := hb; omega) hlt) hszc), Lib.hid (HF10.below (Below.setCell (Below.refl gb w10) (Nat.le_refl _) _) (by omega))⟩
        exact ⟨ps2, _, by omega, HB9, Lib.hid (TermsR.ext (TermsR.sub ht2.out (fun b hb => hb.1)) HX9.out), Lib.hid (HO9.out.list (S' := From wr.heap.size) (fun _ h => h.1) (fun _ h => h)), Lib.hid (hr3.out.ext HX9.out), Lib.hid (hf3.out.trans' (Else.of_ext HX9.out))⟩
       case rest =>
        clear HTG HX9 hb2' hoo2 hob2 ht2 hpa2 hr3 hf3 hw9 hgw9 q0 q1 q2 ql hgc; obtain ⟨ps4, u4, hps4, hb4', ht4, hp4, hr4', hf4⟩ := hcut; obtain ⟨Q4, c4, rfl, _, _⟩ := SliceR.form hp4.out; have HOO := Lib.hid (OwnK.else_ ho2.out hf4.out hrl (fun h => absurd (show w.heap.size ≤ rb from h) (by omega))); have hwc := hf4.out.size; have HBC := Lib.hid (fun (W : World) (hW : Ext wc W) => (show W.cell? ⟨gb, 0, none⟩ = some (.string s) ∧ W.cell? ⟨gb, 1, none⟩ = some (.slice T n6 c6) ∧ W.cell? ⟨gb, 2, none⟩ = some (.slice Q4 ps4.length c4) from ⟨(hb4'.out.ext hW).cell 0, (hb4'.out.ext hW).cell 1, (hb4'.out.ext hW).cell 2⟩))
        have HE1 := Lib.hid (show ∀ W, Ext wc W → ElemsK kRule (fun b => w.heap.size ≤ b ∧ b < wc.heap.size) W (.slice O2 n2 c2) rs from fun W hW =>
         ElemsK.ext ((ListK.elems (k := kRule) (ListK.low (k := kRule) (HOO.out.list (S' := From w.heap.size) (fun _ h => h) (fun _ h => h)))).sub (fun b hb _ => hb)) hW)
        have HE2 := Lib.hid (show ∀ W, Ext wc W → kRule.E (fun b => w.heap.size ≤ b ∧ b < wc.heap.size) W [.string s, .slice T n6 c6, .slice Q4 ps4.length c4] ⟨⟨s, ts⟩, ps4⟩ from fun W hW =>
         ⟨_, _, rfl, hs2, TermsR.impL ht4.out (fun b hb hlt => ⟨Nat.le_trans hwr hb, hlt⟩) (Agree.of_ext hW) hW.size, PartsR.impL hp4.out (fun b hb hlt => ⟨Nat.le_trans hwr hb, hlt⟩) (Agree.of_ext hW) hW.size⟩)
        have q0 := (HBC.out _ (Ext.refl _)).1; have q1 := (HBC.out _ (Ext.refl _)).2.1; have q2 := (HBC.out _ (Ext.refl _)).2.2; have ql := hb4'.out.lt
        have hn2l : n2 ≤ 5 := by rw [HN2.out]; omega
        have hrs : rs.length ≤ 5 := by omega
        go_upto_region 16 with fail
        go_cut [7] (fun s7 wx => Hid (OwnK kRule w.heap.size 56 (From w.heap.size) wx s7 (rs ++ [⟨⟨s, ts⟩, ps4⟩])) ∧ Hid (Ext wc wx))
        case first =>
         go_region_held3 (fun W => W.cell? ⟨gb, 0, none⟩ = some (.string s) ∧ W.cell? ⟨gb, 1, none⟩ = some (.slice T n6 c6) ∧ W.cell? ⟨gb, 2, none⟩ = some (.slice Q4 ps4.length c4))
          (first | exact HBC.out _ HY3.out | exact HBC.out _ HY2.out | exact HBC.out _ (HY2.out.alloc _) | exact HBC.out _ (Ext.drew (Ext.refl _)) | exact HBC.out _ (Ext.drew (Ext.alloc (Ext.refl _) _)) | exact HBC.out _ (Ext.drew (Ext.alloc (Ext.alloc (Ext.refl _) _) _)) | go_keep)
          (first
           | (refine step_appL (o := ⟨some 89, _, _, _, _, _⟩) (k := kRule) (S := fun b => w.heap.size ≤ b ∧ b < wc.heap.size) (T := fun b => w.heap.size ≤ b ∧ b < wc.heap.size) (base := wc.heap.size) (v := .slice (some ⟨_, 0, none⟩) 0 0) (xs := []) (ys := rs) (by rfl) (.tmp 87) (.tmp 88) 43 (by rfl) j0 _ 64 Tryz.underlying43 hj0 hy0 hy1 hy2 (by rfl) (by rfl)
               (by first | exact OwnK.drew (OwnK.empty rfl (Nat.le_refl _)) | exact OwnK.drew (OwnK.alloc (OwnK.empty rfl (Nat.le_refl _)) _) | exact OwnK.drew (OwnK.empty (w := wc.alloc _) (by simp) (by simp))) _ n2 c2 (by rfl) (HE1.out _ (by first | exact Ext.drew (Ext.alloc (Ext.refl _) _) | exact Ext.drew (Ext.alloc (Ext.alloc (Ext.refl _) _) _))) (fun b hb => ⟨hb, hb.2⟩) (by unfold maxLen; simp; omega) (by simp; omega) (by go_size) ?_
              intro v6' w6' hap1; obtain ⟨A1, m1, d1, rfl, hm1, hd11, hd12⟩ := hap1.own.form2; have HY2 := Lib.hid (hap1.toExt (w0 := wc) (by first | exact Ext.drew (Ext.alloc (Ext.refl _) _) | exact Ext.drew (Ext.alloc (Ext.alloc (Ext.refl _) _) _)) (Nat.le_refl _)); have HA1 := Lib.hid hap1; clear hap1)
           | (refine step_appL (o := ⟨some 92, _, _, _, _, _⟩) (k := kRule) (S := fun b => w.heap.size ≤ b ∧ b < wc.heap.size) (T := fun b => w.heap.size ≤ b ∧ b < wc.heap.size) (base := wc.heap.size) (xs := [] ++ rs) (ys := [⟨⟨s, ts⟩, ps4⟩]) (by rfl) (.tmp 89) (.tmp 91) 43 (by rfl) j0 _ 64 Tryz.underlying43 hj0 hy0 hy1 hy2 (by rfl) (by rfl)
               (by first | exact HA1.out.own | exact OwnK.alloc HA1.out.own _) _ 1 1 (by rfl) (ElemsK.one (k := kRule) (x := ⟨⟨s, ts⟩, ps4⟩) (by first | exact Blk.at_new rfl | exact HA1.out.blk2 (Blk.drew (Blk.at_new (w := wc.alloc _) (by simp))) (by simp [Value.ownBlock]) | exact HA1.out.blk2 (Blk.drew (Blk.alloc (Blk.at_new rfl) _)) (by simp [Value.ownBlock])) (HE2.out _ (by first | exact HY2.out | exact Ext.alloc HY2.out _))) (fun b hb => ⟨hb, hb.2⟩) (by unfold maxLen; simp; omega) (by simp; omega) (by have := HY2.out.size; go_size) ?_
              intro v7' w7' hap2; obtain ⟨A2, m2, d2, rfl, hm2, hd21, hd22⟩ := hap2.own.form2; have HY3 := Lib.hid (hap2.toExt (w0 := wc) (by first | exact HY2.out | exact Ext.alloc HY2.out _) (Nat.le_refl _)); have HA2 := Lib.hid hap2; clear hap2))
         all_goals
          go_wp2_with fail
          go_meet
          have hfin := HA2.out.own; rw [List.nil_append] at hfin; exact ⟨Lib.hid (hfin.sub (Nat.le_trans hwr hwc) (fun b hb => hb.1)), HY3⟩
        case rest =>
         rename World => wd
         obtain ⟨hoy, hxy⟩ := hcut; obtain ⟨O7, n7', c7', rfl, hn7', ha7', hb7'⟩ := hoy.out.form2; have HOO2 := Lib.hid (HOO.out.ext hxy.out); have HRY := Lib.hid (hr4'.out.ext hxy.out); have HFY := Lib.hid ((he2.out.trans' hf4.out).trans' (Else.of_ext hxy.out)); have HPC := Lib.hid (specProgCheck_any _ _ wd (hoy.out.list (S' := From w.heap.size) (fun _ h => h) (fun _ h => h)))
         obtain ⟨pc, hpc⟩ : ∃ pc, pc = progCheckN (rs ++ [⟨⟨s, ts⟩, ps4⟩]) := ⟨_, rfl⟩
         rw [← hpc] at HPC; clear hpc hn7' HOO HE1 HE2 HBC hb4' q0 q1 q2 ql
         have hpc0 : (0 : Int) ≤ (pc : Int) := by omega
         by_cases hp0 : pc = 0
         · have hpb : ((pc : Int) == 0) = true := by simp [hp0]
           go_wp2_with (first
            | (go_at_call 187; refine HPC.out.mono ?_; rintro e w10 ⟨rfl, hx10⟩
               have HX10 := Lib.hid hx10
               clear hx10)
            | fail)
           go_roundw
           case rel =>
            have HOF := Lib.hid (hoy.out.ext HX10.out); have HRF := Lib.hid ((HRY.out.ext HX10.out).le (show M + 38 ≤ m + 104 - 50 * (k - 1) by have := HMM.out; omega)); have HEF := Lib.hid (HFY.out.trans' (Else.of_ext HX10.out))
            first
             | exact ⟨k - 1, _, by congr 1; omega, by omega, by simp; omega, HOF, HRF, HEF⟩
             | ((repeat apply Exists.intro); exact ⟨⟨k - 1, _, by congr 1; omega, by omega, by simp; omega, HOF, HRF, HEF⟩, rfl⟩)
           case measure => simp [intOf]; omega
         have hpb : ((pc : Int) == 0) = false := by simp [hp0]
         go_wp2_with (first
          | (go_at_call 187; refine HPC.out.mono ?_; rintro e w10 ⟨rfl, hx10⟩
             have HX10 := Lib.hid hx10
             clear hx10)
          | (go_at_call 73; refine (rdPick_any rb (M + 38) 24 _ (by omega) (HRY.out.ext HX10.out) (by omega)).mono ?_; rintro e w11 ⟨⟨z11, hz11, rfl⟩, hr11, he11⟩
             have HR11 := Lib.hid hr11; have HF11 := Lib.hid ((HFY.out.trans' (Else.of_ext HX10.out)).trans' he11); have HOY11 := Lib.hid (OwnK.else_ (hoy.out.ext HX10.out) he11 hrl (fun h => absurd (show w.heap.size ≤ rb from h) (by omega))); have HOO11 := Lib.hid (OwnK.else_ (HOO2.out.ext HX10.out) he11 hrl (fun h => absurd (show w.heap.size ≤ rb from h) (by omega)))
             clear hr11 he11)
          | fail)
         all_goals go_roundw
         all_goals first
          | (simp [intOf]; omega; done)
          | (have HRF := Lib.hid (HR11.out.le (show M + 38 + 1 ≤ m + 104 - 50 * (k - 1) by have := HMM.out; omega))
             first
              | exact ⟨k - 1, _, by congr 1; omega, by omega, by simp; omega, HOY11, HRF, HF11⟩
              | exact ⟨k - 1, _, by congr 1; omega, by omega, by omega, HOO11, HRF, HF11⟩
              | ((repeat apply Exists.intro); exact ⟨⟨k - 1, _, by congr 1; omega, by omega, by simp; omega, HOY11, HRF, HF11⟩, rfl⟩)
              | ((repeat apply Exists.intro); exact ⟨⟨k - 1, _, by congr 1; omega, by omega, by omega, HOO11, HRF, HF11⟩, rfl⟩))
    have hlt' : ¬ (0 : Int) < (k : Int) := by omega
    go_wp2; go_ret; exact ⟨⟨_, rfl, rs, ho2.out.list (S' := From w.heap.size) (fun _ h => h) (fun _ h => h)⟩, hr2.out.le (by omega), he2.out⟩
end Go.Proofs.YtmihponoillihaaGreatDoor
