/- For all codes FnChangeText returns true: the walk. -/
import Derived.Test.YthndnkafckapnaaGreatDoorDrawZ
import Derived.Test.YthndnkafckapnaaGreatDoorFs
import Derived.Test.YthndnkafckapnaaGreatDoorReadI
import Derived.Test.YthndnkafckapnaaGreatDoorPut
namespace Go.Proofs.YthndnkafckapnaaGreatDoor
open Go.RowKit

/-- What reading a change hands back, be there one or not. -/
def GotC (N : Nat) (g : GC) (b : Bool) (n m : Nat) (e : Ending) (w' : World) : Prop :=
  ∃ (A B : Option Addr) (c d : Nat) (S T : Nat → Prop), e = .returned (.tuple #[.agg #[.slice A n c, .slice B m d], .bool b]) ∧ (n ≤ c ∧ c ≤ 9223372036854775807 ∧ m ≤ d ∧ d ≤ 9223372036854775807) ∧
    AtomsO S w' (.slice A n c) g.comes ∧ AtomsO T w' (.slice B m d) g.goes ∧ (∀ b, S b → N ≤ b ∧ b < w'.heap.size) ∧ (∀ b, T b → N ≤ b ∧ b < w'.heap.size) ∧ ∀ b, S b → ¬ T b
theorem GotChange.toC {N : Nat} {o : Option GC} {e : Ending} {w' : World} (h : GotChange N o e w') {n m : Nat} (hn : n = (o.getD noneC).comes.length) (hm : m = (o.getD noneC).goes.length) : GotC N (o.getD noneC) o.isSome n m e w' := by
  subst hn; subst hm
  cases o with
  | none => exact ⟨none, none, 0, 0, fun _ => False, fun _ => False, h, ⟨Nat.le_refl _, by omega, Nat.le_refl _, by omega⟩, SliceO.nil 0 (Nat.zero_le _) none, SliceO.nil 0 (Nat.zero_le _) none, fun _ h => h.elim, fun _ h => h.elim, fun _ h => h.elim⟩
  | some g =>
    obtain ⟨v, u, S, T, he, hv, hu, h1, h2, h3⟩ := h
    obtain ⟨A, c, rfl, k1, k2⟩ := SliceO.form hv
    obtain ⟨B, d, rfl, k3, k4⟩ := SliceO.form hu
    exact ⟨A, B, c, d, _, _, he, ⟨k1, k2, k3, k4⟩, SliceO.low hv, SliceO.low hu, fun b hb => ⟨h1 b hb.1, hb.2⟩, fun b hb => ⟨h2 b hb.1, hb.2⟩, fun b hb ht => h3 b hb.1 ht.1⟩
theorem putL_read (g : GC) : ∃ h, changeOf (changePutL g) = some h ∧ (changeOkB g = true → h = g) := by
  unfold changePutL
  by_cases hb : changeOkB g = true
  · rw [if_pos hb]
    exact ⟨g, changeOf_some hb, fun _ => rfl⟩
  · rw [if_neg hb]
    exact ⟨noneC, changeOf_some (g := noneC) (by rfl), fun h => absurd h hb⟩

set_option maxRecDepth 100000 in
set_option maxHeartbeats 4000000 in
theorem changeText_any (v u : Value) (xs ys : List UInt8) (w : World) {S T : Nat → Prop} (hv : BytesR S w v xs) (hu : BytesR T w u ys) (hm : MaxIs w) :
    Calls Tryz.prog 3 #[v, u] w fun e w' => e = .returned (.bool true) ∧ Ext w w' := by
  obtain ⟨A, c, rfl, hc1, hc2⟩ := SliceR.form hv
  obtain ⟨B, d, rfl, hd1, hd2⟩ := SliceR.form hu
  have HV := Lib.hid hv
  have HU := Lib.hid hu
  have HM := Lib.hid hm
  clear hv hu hm
  by_cases h1 : 1048576 < xs.length
  · go_enter Tryz.func3, Tryz.ntmps3
    go_wp2
    go_ret
    exact ⟨rfl, Ext.refl _⟩
  by_cases h2 : 1048576 < ys.length
  · go_enter Tryz.func3, Tryz.ntmps3
    go_wp2
    go_ret
    exact ⟨rfl, Ext.refl _⟩
  go_enter Tryz.func3, Tryz.ntmps3
  go_wp2_with (fail)
  refine (drawChangePut_any _ xs _ HV.out).mono ?_
  rintro e w1 ⟨⟨g, v1, u1, rfl, hv1, hu1, hsz⟩, hx1⟩
  obtain ⟨A1, c1, rfl, _, _⟩ := SliceR.form hv1
  obtain ⟨B1, d1, rfl, _, _⟩ := SliceR.form hu1
  obtain ⟨n, hn⟩ : ∃ n, n = g.comes.length := ⟨_, rfl⟩
  obtain ⟨m, hm⟩ : ∃ m, m = g.goes.length := ⟨_, rfl⟩
  rw [← hn] at hv1 ⊢
  rw [← hm] at hu1 ⊢
  obtain ⟨h, hh, hhg⟩ := putL_read g
  obtain ⟨s, hs⟩ : ∃ s, s = strOf (changePutL g) := ⟨_, rfl⟩
  have hss : s.size ≤ 4194304 := by
    rw [hs, strOf_size]
    unfold changePutL
    split
    · exact hsz
    · exact Nat.zero_le _
  have hsd : s.data.toList = changePutL g := by rw [hs, list_strOf]
  obtain ⟨n1, hn1⟩ : ∃ n1, n1 = h.comes.length := ⟨_, rfl⟩
  obtain ⟨m1, hm1⟩ : ∃ m1, m1 = h.goes.length := ⟨_, rfl⟩
  obtain ⟨b, hb⟩ : ∃ b, b = changeOkB g := ⟨_, rfl⟩
  have HX1 := Lib.hid hx1
  have HV1 := Lib.hid hv1
  have HU1 := Lib.hid hu1
  have HB1 := Lib.hid (Blk.new w1 25 #[.slice A1 n c1, .slice B1 m d1])
  have HP := Lib.hid (fun W (hW : Ext w1 W) => show Calls Tryz.prog 8 #[.agg #[.slice A1 n c1, .slice B1 m d1]] W fun e w' => e = .returned (.string s) ∧ Ext W w' from hs ▸ changePut_any g _ _ W (hv1.ext hW) (hu1.ext hW))
  have HSP := Lib.hid (fun W (hW : Ext w1 W) => show Calls Tryz.prog 10 #[.agg #[.slice A1 n c1, .slice B1 m d1]] W fun e w' => e = .returned (.string s) ∧ Ext W w' from hs ▸ specChangePut_any g _ _ W (hv1.ext hW) (hu1.ext hW))
  have HOK := Lib.hid (fun W (hW : Ext w1 W) => show Calls Tryz.prog 11 #[.agg #[.slice A1 n c1, .slice B1 m d1]] W fun e w' => e = .returned (.bool b) ∧ Ext W w' from hb ▸ specChangeOk_any g _ _ W (hv1.ext hW) (hu1.ext hW))
  have HG := Lib.hid (fun W (hW : Ext w W) => show Calls Tryz.prog 9 #[.string s] W fun e w' => GotC W.heap.size h true n1 m1 e w' ∧ Ext W w' from (changeGet_any s W hss (HM.out.ext hW)).mono fun e w' ⟨k1, k2⟩ => ⟨by
    rw [hsd, hh] at k1
    exact GotChange.toC k1 hn1 hm1, k2⟩)
  have HHG := Lib.hid (show b = true → h = g from fun e => hhg (hb ▸ e))
  have hstr : (s.toList == s.toList) = true := beq_self_eq_true _
  have tok : True := trivial
  clear hx1 hv1 hu1 hsz hh hhg hs hss hsd hn1 hm1 hb hn hm
  cases b
  all_goals
    go_wp2_with (first
      | (go_at_call 8; refine (HP.out _ ((Ext.refl _).alloc _)).mono ?_; rintro e w2 ⟨rfl, hx2⟩
         have HY2 := Lib.hid (((Ext.refl w1).alloc (.cells #[.slice A1 n c1, .slice B1 m d1] 25)).trans' hx2)
         have HB2 := Lib.hid (HB1.out.ext hx2)
         clear hx2)
      | (go_at_call 9; refine (HG.out _ (HX1.out.trans' HY2.out)).mono ?_; rintro e w3 ⟨⟨A3, B3, c3, d3, S3, T3, rfl, ⟨k31, k32, k33, k34⟩, hv3, hu3, hS3, hT3, _⟩, hx3⟩
         have HV3 := Lib.hid (AtomsO.read hv3)
         have HU3 := Lib.hid (AtomsO.read hu3)
         have HY3 := Lib.hid (HY2.out.trans' hx3)
         have HB3 := Lib.hid (HB2.out.ext hx3)
         have hb3 := HB3.out.alloc (.cells #[.slice A3 n1 c3, .slice B3 m1 d3] 25)
         have p0 := hb3.cell 0
         have p1 := hb3.cell 1
         have HC3 := Lib.hid (Blk.new w3 25 #[.slice A3 n1 c3, .slice B3 m1 d3])
         clear hx3 hv3 hu3 hS3 hT3 hb3)
      | (go_at_call 10; refine (HSP.out _ (HY3.out.alloc _)).mono ?_; rintro e w4 ⟨rfl, hx4⟩
         have HZ4 := Lib.hid hx4
         have HY4 := Lib.hid ((HY3.out.alloc _).trans' hx4)
         have HB4 := Lib.hid ((HB3.out.alloc _).ext hx4)
         have HC4 := Lib.hid (HC3.out.ext hx4)
         have q0 := HB4.out.cell 0
         have q1 := HB4.out.cell 1
         clear hx4)
      | (go_at_call 11; refine (HOK.out _ HY4.out).mono ?_; rintro e w5 ⟨rfl, hx5⟩
         have HZ5 := Lib.hid (HZ4.out.trans' hx5)
         have HY5 := Lib.hid (HY4.out.trans' hx5)
         have hb5 := HB4.out.ext hx5
         have hc5 := HC4.out.ext hx5
         have r0 := hb5.cell 0
         have r1 := hb5.cell 1
         have r2 := hc5.cell 0
         have r3 := hc5.cell 1
         clear hx5 hb5 hc5)
      | (go_at_call 12; have _t := tok; obtain rfl := HHG.out (by first | rfl | trivial); refine (fsChange_same h _ _ _ _ _ (HV3.out.ext (((Ext.refl _).alloc _).trans' HZ5.out)) (HU3.out.ext (((Ext.refl _).alloc _).trans' HZ5.out)) (HV1.out.ext HY5.out) (HU1.out.ext HY5.out)).mono ?_; clear tok _t; rintro e w6 ⟨rfl, hx6⟩
         have HY6 := Lib.hid (HY5.out.trans' hx6)
         clear hx6))
    refine (drawChangeGet_any _ ys _ (HU.out.ext (HX1.out.trans' (by first | exact HY6.out | exact HY5.out)))).mono ?_
    rintro e w7 ⟨⟨t, rfl, ht⟩, hx7⟩
    have HX7 := Lib.hid (HX1.out.trans' (Ext.trans' (by first | exact HY6.out | exact HY5.out) hx7))
    obtain ⟨y, hy⟩ : ∃ y, y = (changeOf t.data.toList).getD noneC := ⟨_, rfl⟩
    obtain ⟨b2, hb2⟩ : ∃ b2, b2 = (changeOf t.data.toList).isSome := ⟨_, rfl⟩
    obtain ⟨n2, hn2⟩ : ∃ n2, n2 = y.comes.length := ⟨_, rfl⟩
    obtain ⟨m2, hm2⟩ : ∃ m2, m2 = y.goes.length := ⟨_, rfl⟩
    have HS2 := Lib.hid (fun W => show Calls Tryz.prog 14 #[.string t] W fun e w' => GotC W.heap.size y b2 n2 m2 e w' ∧ Ext W w' from (specChangeGet_any t W (by omega)).mono fun e w' ⟨h1, h2⟩ => ⟨by
      have h := GotChange.toC h1 (hn2.trans (by rw [hy])) (hm2.trans (by rw [hy]))
      rw [← hy, ← hb2] at h; exact h, h2⟩)
    have HI2 := Lib.hid (fun W (hW : Ext w W) => show Calls Tryz.prog 9 #[.string t] W fun e w' => GotC W.heap.size y b2 n2 m2 e w' ∧ Ext W w' from (changeGet_any t W (by omega) (HM.out.ext hW)).mono fun e w' ⟨h1, h2⟩ => ⟨by
      have h := GotChange.toC h1 (hn2.trans (by rw [hy])) (hm2.trans (by rw [hy]))
      rw [← hy, ← hb2] at h; exact h, h2⟩)
    have HP2 := Lib.hid (show b2 = true → strOf (changePutL y) = t from fun e => by
      rw [hb2] at e
      obtain ⟨z, hz⟩ := Option.isSome_iff_exists.1 e
      rw [hy, hz]
      obtain ⟨h3, h4⟩ := changeOf_is hz
      show strOf (changePutL z) = t
      unfold changePutL
      rw [if_pos h3, h4, strOf_list])
    have hstr2 : (t.toList == t.toList) = true := beq_self_eq_true _
    clear hy hb2 hn2 hm2 hx7 ht
    cases b2
    all_goals
      go_wp2_with (first
        | (go_at_call 9; refine (HI2.out _ HX7.out).mono ?_; rintro e w8 ⟨⟨A8, B8, c8, d8, S8, T8, rfl, ⟨k81, k82, k83, k84⟩, hv8, hu8, _, _, _⟩, hx8⟩
           have HV8 := Lib.hid (AtomsO.read hv8)
           have HU8 := Lib.hid (AtomsO.read hu8)
           have HX8 := Lib.hid (HX7.out.trans' hx8)
           have HB8 := Lib.hid (Blk.new w8 25 #[.slice A8 n2 c8, .slice B8 m2 d8])
           clear hx8 hv8 hu8)
        | (go_at_call 14; refine (HS2.out _).mono ?_; rintro e w9 ⟨⟨A9, B9, c9, d9, S9, T9, rfl, ⟨k91, k92, k93, k94⟩, hv9, hu9, _, _, _⟩, hx9⟩
           have HV9 := Lib.hid (AtomsO.read hv9)
           have HU9 := Lib.hid (AtomsO.read hu9)
           have HX9 := Lib.hid ((HX8.out.alloc _).trans' hx9)
           have HZ9 := Lib.hid hx9
           have HB9 := Lib.hid ((HB8.out.ext hx9).alloc (.cells #[.slice A9 n2 c9, .slice B9 m2 d9] 25))
           have o0 := HB9.out.cell 0
           have o1 := HB9.out.cell 1
           clear hx9 hv9 hu9)
        | (go_at_call 12; refine (fsChange_same y _ _ _ _ _ (HV8.out.ext ((((Ext.refl _).alloc _).trans' HZ9.out).alloc _)) (HU8.out.ext ((((Ext.refl _).alloc _).trans' HZ9.out).alloc _)) (HV9.out.ext ((Ext.refl _).alloc _)) (HU9.out.ext ((Ext.refl _).alloc _))).mono ?_; rintro e w10 ⟨rfl, hx10⟩
           have HX10 := Lib.hid ((HX9.out.alloc _).trans' hx10)
           have HZ10 := Lib.hid ((((Ext.refl w8).alloc (.cells #[.slice A8 n2 c8, .slice B8 m2 d8] 25)).trans' HZ9.out).alloc (.cells #[.slice A9 n2 c9, .slice B9 m2 d9] 25) |>.trans' hx10)
           have hb10 := HB9.out.ext hx10
           have s0 := hb10.cell 0
           have s1 := hb10.cell 1
           clear hx10 hb10)
        | (go_at_call 8; refine (changePut_any y _ _ _ (HV8.out.ext HZ10.out) (HU8.out.ext HZ10.out)).mono ?_; rintro e w11 ⟨he11, hx11⟩; rw [HP2.out (by first | rfl | trivial)] at he11; subst he11
           have HX11 := Lib.hid (HX10.out.trans' hx11)
           clear hx11))
      go_ret
      exact ⟨rfl, by first | exact HX11.out | exact HX10.out⟩

end Go.Proofs.YthndnkafckapnaaGreatDoor
