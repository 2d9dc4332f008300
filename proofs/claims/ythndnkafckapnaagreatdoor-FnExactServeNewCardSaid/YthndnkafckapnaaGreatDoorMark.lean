/- The walks of the laws' markText, markTermS, markAtomS, markChange, heldTermS, heldAtomS, heldChange. -/
import Derived.Test.YthndnkafckapnaaGreatDoorDec
import Derived.Test.YthndnkafckapnaaGreatDoorMarkP
import Derived.Test.YthndnkafckapnaaGreatDoorCalm
namespace Go.Proofs.YthndnkafckapnaaGreatDoor
open Go.RowKit

def decOf (n : Nat) : List UInt8 := if n = 0 then [] else Lib.decDigits n
theorem decOf_pos {n : Nat} (h : 0 < n) : decOf n = decOf (n / 10) ++ [UInt8.ofNat (48 + n % 10)] := by
  unfold decOf
  rw [if_neg (by omega)]
  by_cases h1 : n < 10
  · rw [if_pos (by omega), Lib.decDigits_one h1, Nat.mod_eq_of_lt h1]; rfl
  · rw [if_neg (by omega), Lib.decDigits, dif_neg h1]

set_option maxRecDepth 100000 in
set_option maxHeartbeats 2000000 in
theorem markText_any (k : Nat) (w : World) (h1 : 1 ≤ k) (h2 : k ≤ 1000000000) :
    Calls Tryz.prog 58 #[.int .i64 k] w fun e w' => e = .returned (.string (mtext k)) ∧ Ext w w' := by
  have g0 : decide ((k : Int) ≤ 0) = false := decide_eq_false (by omega)
  go_enter Tryz.func58, Tryz.ntmps58
  go_wp2
  go_loopw [0, 3] (fun i s wr => ∃ (n : Nat) (l : List UInt8), i = .int .i64 n ∧ s = .string (strOf l) ∧ n ≤ k ∧ Hid (decOf n ++ l = Lib.decDigits k) ∧ Ext w wr) (fun i _ _ => (intOf i).toNat)
  case atStart => exact ⟨k, [], rfl, rfl, Nat.le_refl _, by show _ = _; unfold decOf; rw [if_neg (by omega), List.append_nil], Ext.refl _⟩
  case round =>
    obtain ⟨n, l, rfl, rfl, hn, hp, hx⟩ := hrel
    have hl : l.length ≤ 10 := by
      have := congrArg List.length hp.out
      rw [List.length_append] at this
      have := dec_len k h2
      omega
    have hls : (strOf l).size ≤ 10 := by rw [strOf_size]; exact hl
    by_cases h0 : 0 < n
    · have hb := byte_string (w := wr.alloc (.cells #[.int .u8 ((48 + n % 10 : Nat) : Int)] 5)) (48 + n % 10) (by omega) (Blk.new _ _ _)
      rw [show ((48 + n % 10 : Nat) : Int) = 48 + (n : Int) % 10 from by omega] at hb
      obtain ⟨c, hc⟩ : ∃ c : ByteArray, c = ⟨#[UInt8.ofNat (48 + n % 10)]⟩ := ⟨_, rfl⟩
      have hcs : c.size ≤ 10 := by rw [hc]; simp [ByteArray.size]
      have HC := Lib.hid (show c ++ strOf l = strOf (UInt8.ofNat (48 + n % 10) :: l) from by rw [hc, show (⟨#[UInt8.ofNat (48 + n % 10)]⟩ : ByteArray) = strOf [UInt8.ofNat (48 + n % 10)] from rfl, strOf_append]; rfl)
      have HP := Lib.hid (show decOf (n / 10) ++ (UInt8.ofNat (48 + n % 10) :: l) = Lib.decDigits k from by rw [← hp.out, decOf_pos h0, List.append_assoc]; rfl)
      rw [← hc] at hb
      have hm0 : 0 ≤ (n : Int) % 10 := by omega
      have hm1 : (n : Int) % 10 < 10 := by omega
      have hw : IntKind.u8.wrap (48 + (n : Int) % 10) = 48 + (n : Int) % 10 := u8_wrap (by omega) (by omega)
      clear hc hp hl
      go_wp2
      go_roundw
      case rel => exact ⟨n / 10, _, by simp, by rw [HC.out], by omega, HP, hx.alloc _⟩
      case measure => simp [intOf]; omega
    · have HF := Lib.hid (show strOf (109 :: l) = mtext k from by
        have := hp.out
        rw [show n = 0 from by omega] at this
        unfold mtext
        rw [← this]; rfl)
      clear hp
      go_wp2
      go_ret
      refine ⟨?_, hx⟩
      refine Eq.trans ?_ (ret_str (a := ⟨#[109]⟩ ++ strOf l) ?_)
      · rfl
      · rw [← HF.out, show (⟨#[109]⟩ : ByteArray) = strOf [109] from rfl, strOf_append]; rfl

theorem mtext_max (k : Nat) (h : k ≤ 1000000000) : (mtext k).size ≤ maxLen := by
  unfold mtext
  rw [strOf_size]
  have := dec_len k h
  exact maxOf (by simp; omega)

set_option maxRecDepth 100000 in
set_option maxHeartbeats 4000000 in
theorem markTermS_any (v : Value) (xs : List GT) (k : Nat) (w : World) {S : Nat → Prop} (hv : TermsO S w v xs) (h1 : 1 ≤ k) (h2 : k + 2 * xs.length ≤ 100000000) :
    Calls Tryz.prog 59 #[v, .int .i64 k] w fun e w' => (∃ q : Nat, q = k + 2 * xs.length ∧ e = .returned (.int .i64 q)) ∧ TermsO S w' v (mTerms k xs.length) ∧ Inside S w w' := by
  obtain ⟨A, c, rfl, hc1, hc2⟩ := SliceO.form hv
  have HV := Lib.hid hv
  clear hv
  go_enter Tryz.func59, Tryz.ntmps59
  go_wp2
  go_loopw [1, 5] (fun kk i wr => ∃ (j q : Nat), j ≤ xs.length ∧ i = .int .i64 j ∧ kk = .int .i64 q ∧ q ≤ 100000000 ∧ 1 ≤ q ∧ Hid (q = k + 2 * j) ∧ Hid (TermsO S wr (.slice A xs.length c) (mTerms k j ++ xs.drop j)) ∧ Hid (Inside S w wr)) (fun _ i _ => xs.length - (intOf i).toNat)
  case atStart => exact ⟨0, k, Nat.zero_le _, rfl, rfl, by omega, h1, by show _ = _; omega, HV, Inside.refl _ _⟩
  case round =>
    obtain ⟨j, q, hj, rfl, rfl, hq1, hq2, hq, ht, hin⟩ := hrel
    by_cases hlt : j < xs.length
    · obtain ⟨b, off, x, rfl, hb, hs, hx, f0, f1, c0, c1, hup⟩ := TermsO.upd ht.out (i := j) hlt
      have HU := Lib.hid hup
      have HS := Lib.hid hs
      have hq3 : q + 2 ≤ 100000000 := by have := hq.out; omega
      have HN := Lib.hid (mTerms_step (k := k) hlt)
      have HM := Lib.hid (fun (W : World) => markText_any (q + 1) W (by omega) (by omega))
      clear hup hs hx
      go_wp2_with (go_at_call 58; refine (HM.out _).mono ?_; rintro e w1 ⟨rfl, hx1⟩; have hz1 := hx1.size; have d1 := (hx1.cells.1 b (off + j * 2 + 1) (by go_size)).trans ((World.cell?_setCell_other _ _ _ _ (by simp)).trans c1); have e1 := (hx1.cells.2 b (off + j * 2 + 1) (by go_size)).trans ((frozen_set _ _ _ _).trans f1); have HX1 := Lib.hid hx1; clear hx1)
      go_roundw
      case rel =>
        have hT := HU.out w1 (mTerm (k + 2 * j)) (by rw [← hq.out]; exact HX1.out) (mtext_max _ (by have := hq.out; omega))
        rw [HN.out, ← hq.out] at hT
        refine ⟨j + 1, q + 1 + 1, by omega, by go_num, by go_num, by omega, by omega, by have := hq.out; show _ = _; omega, hT, ?_⟩
        exact (hin.out.trans' ((Inside.set _ _ _ HS.out).trans' (Inside.of_ext HX1.out))).trans' (Inside.set _ _ _ HS.out)
      case measure => simp [intOf]; omega
    · have hjj : j = xs.length := by omega
      have HF := Lib.hid (show mTerms k j ++ xs.drop j = mTerms k xs.length from by rw [hjj, List.drop_length, List.append_nil])
      have HQ := Lib.hid (show q = k + 2 * xs.length from by rw [hq.out, hjj])
      clear hjj
      go_wp2
      go_ret
      exact ⟨⟨q, HQ.out, rfl⟩, by rw [← HF.out]; exact ht.out, hin.out⟩

set_option maxRecDepth 100000 in
set_option maxHeartbeats 4000000 in
theorem markAtomS_any (v : Value) (xs : List GA) (k : Nat) (w : World) {S : Nat → Prop} (hv : AtomsO S w v xs) (h1 : 1 ≤ k) (h2 : k + costAs xs ≤ 100000000) :
    Calls Tryz.prog 61 #[v, .int .i64 k] w fun e w' => (∃ q : Nat, q = k + costAs xs ∧ e = .returned (.int .i64 q)) ∧ AtomsO S w' v (mAtoms k xs) ∧ Inside S w w' := by
  obtain ⟨A, c, rfl, hc1, hc2⟩ := SliceO.form hv
  have HV := Lib.hid hv
  clear hv
  go_enter Tryz.func61, Tryz.ntmps61
  go_wp2
  go_loopw [1, 5] (fun kk i wr => ∃ (j q : Nat), j ≤ xs.length ∧ i = .int .i64 j ∧ kk = .int .i64 q ∧ q ≤ 100000000 ∧ 1 ≤ q ∧ Hid (q = k + costAs (xs.take j)) ∧ Hid (AtomsO S wr (.slice A xs.length c) (mAtoms k (xs.take j) ++ xs.drop j)) ∧ Hid (Inside S w wr)) (fun _ i _ => xs.length - (intOf i).toNat)
  case atStart => exact ⟨0, k, Nat.zero_le _, rfl, rfl, by omega, h1, by show _ = _; simp [costAs], HV, Inside.refl _ _⟩
  case round =>
    obtain ⟨j, q, hj, rfl, rfl, hq1, hq2, hq, ht, hin⟩ := hrel
    by_cases hlt : j < xs.length
    · obtain ⟨b, off, F, x, u, rfl, hb, hs, hx, hF, f0, c0, c1, htm, hup⟩ := AtomsO.upd ht.out (i := j) hlt
      have hxj : xs[j]? = some x := by
        rw [List.getElem?_append_right (by rw [mAtoms_len, List.length_take]; omega), mAtoms_len, List.length_take, Nat.min_eq_left hj, Nat.sub_self, List.getElem?_drop, Nat.add_zero] at hx
        exact hx
      obtain ⟨B, d, rfl, hd1, hd2⟩ := SliceO.form htm
      have HU := Lib.hid hup
      have HS := Lib.hid hs
      have HF := Lib.hid hF
      have HT := Lib.hid htm
      have HK := Lib.hid (costAs_take hxj)
      have hq3 : q + 1 + 2 * x.args.length ≤ 100000000 := by
        have h3 := hq.out
        have h4 := HK.out
        have h5 := costAs_take_le xs (j + 1)
        unfold costA at h4
        omega
      have HN := Lib.hid (mAtoms_step (k := k) hxj)
      have HM := Lib.hid (fun (W : World) => markText_any q W hq2 (by omega))
      clear hup hs hx hF htm hxj
      go_wp2_with (first
        | (go_at_call 58; refine (HM.out _).mono ?_; rintro e w1 ⟨rfl, hx1⟩; have hz1 := hx1.size; have d0 := (hx1.cells.1 b (off + j * 2) hb).trans c0; have d1 := (hx1.cells.1 b (off + j * 2 + 1) hb).trans c1; have e0 := (hx1.cells.2 b (off + j * 2) hb).trans f0; have HX1 := Lib.hid hx1; clear hx1)
        | (go_at_call 59; refine (markTermS_any (S := F) _ x.args (q + 1) _ (SliceO.imp (HT.out.imp (fun _ h _ => h) (.of_ext HX1.out) HX1.out.size) (fun _ h _ => h) ((Agree.refl _ _).setCell (fun hb => (HF.out b hb).2.1 rfl) _) (by go_size)) (by omega) (by omega)).mono ?_; rintro e w2 ⟨⟨q2, hq2', rfl⟩, ht2, hin2⟩; have HQ2 := Lib.hid hq2'; have HT2 := Lib.hid ht2; have HI2 := Lib.hid hin2; have hq4 : q2 ≤ 100000000 := (by omega); have hq5 : 1 ≤ q2 := (by omega); clear hq2' ht2 hin2))
      go_roundw
      case rel =>
        have hT := HU.out w1 w2 (mAtom q x) HX1.out HI2.out (mtext_max _ (by omega)) HT2.out
        rw [hq.out, HN.out] at hT
        refine ⟨j + 1, q2, by omega, by go_num, rfl, hq4, hq5, by have h3 := HQ2.out; have h4 := HK.out; have h5 := hq.out; unfold costA at h4; show _ = _; omega, hT, ?_⟩
        exact (hin.out.trans' (Inside.of_ext HX1.out)).trans' ((Inside.set _ _ _ HS.out).trans' (HI2.out.sub (fun i hi _ => (HF.out i hi).1)))
      case measure => simp [intOf]; omega
    · have hjj : j = xs.length := by omega
      have HF := Lib.hid (show mAtoms k (xs.take j) ++ xs.drop j = mAtoms k xs from by rw [hjj, List.drop_length, List.append_nil, List.take_length])
      have HQ := Lib.hid (show q = k + costAs xs from by rw [hq.out, hjj, List.take_length])
      clear hjj
      go_wp2
      go_ret
      exact ⟨⟨q, HQ.out, rfl⟩, by rw [← HF.out]; exact ht.out, hin.out⟩

/-! ### held -/
set_option maxRecDepth 100000 in
set_option maxHeartbeats 4000000 in
theorem heldTermS_any (v : Value) (n k : Nat) (w : World) {S : Nat → Prop} (hv : TermsR S w v (mTerms k n)) (h1 : 1 ≤ k) (h2 : k + 2 * n ≤ 100000000) :
    Calls Tryz.prog 109 #[v, .int .i64 k] w fun e w' => (∃ q : Nat, q = k + 2 * n ∧ e = .returned (.int .i64 q)) ∧ Ext w w' := by
  obtain ⟨A, c, rfl, hc1, hc2⟩ := SliceR.form hv
  rw [mTerms_len] at hc1 hv ⊢
  have HV := Lib.hid hv
  clear hv
  go_enter Tryz.func109, Tryz.ntmps109
  go_wp2
  go_loopw [1, 5] (fun kk i wr => ∃ (j q : Nat), j ≤ n ∧ i = .int .i64 j ∧ kk = .int .i64 q ∧ q ≤ 100000000 ∧ 1 ≤ q ∧ Hid (q = k + 2 * j) ∧ Ext w wr) (fun _ i _ => n - (intOf i).toNat)
  case atStart => exact ⟨0, k, Nat.zero_le _, rfl, rfl, by omega, h1, by show _ = _; omega, Ext.refl _⟩
  case round =>
    obtain ⟨j, q, hj, rfl, rfl, hq1, hq2, hq, hx⟩ := hrel
    have hk0 : (0 : Int) ≤ (j : Int) := by omega
    by_cases hlt : j < n
    · obtain ⟨b, off, x, rfl, hb, hxj, hxs, c0, c1⟩ := TermsR.at_ (HV.out.ext hx) hlt
      rw [mTerms_at _ _ _ hlt] at hxj
      injection hxj with hxj
      rw [← hxj, ← hq.out] at c0 c1
      have hk1 : (j : Int) < (n : Int) := by omega
      have hq3 : q + 2 ≤ 100000000 := by have := hq.out; omega
      have hc0 : wr.cell? ⟨b, off + j * 2, none⟩ = some (.bool ((q : Int) % 3 == 0)) := c0
      obtain ⟨bb, hbb⟩ : ∃ bb : Bool, bb = ((q : Int) % 3 == 0) := ⟨_, rfl⟩
      have hc1' : wr.cell? ⟨b, off + j * 2 + 1, none⟩ = some (.string (mtext (q + 1))) := c1
      obtain ⟨s, hs⟩ : ∃ s, s = mtext (q + 1) := ⟨_, rfl⟩
      rw [← hs] at hc1'
      have HM := Lib.hid (fun (W : World) (_ : Ext wr W) => show Calls Tryz.prog 58 #[.int .i64 ((q : Int) + 1)] W fun e w' => e = .returned (.string s) ∧ Ext W w' from hs ▸ markText_any (q + 1) W (by omega) (by omega))
      clear c0 c1 hxj hxs hs hbb
      go_wp2_with (fail)
      refine calm_region (by kernel_rfl) (by kernel_rfl) ?_
      repeat (go_big_quiet_step ((go_at_call 58; exact calm_call (HM.out _ (Later.ext _)))))
      refine wpQuiet_nil ?_
      rintro w3 ⟨⟨_, hx3⟩, rfl⟩
      go_wp2
      go_roundw
      case rel => exact ⟨j + 1, q + 1 + 1, by omega, by go_num, by go_num, by omega, by omega, by have := hq.out; show _ = _; omega, hx.trans' hx3⟩
      case measure => simp [intOf]; omega
    · have HQ := Lib.hid (show q = k + 2 * n from by rw [hq.out, show j = n from by omega])
      go_wp2
      go_ret
      exact ⟨⟨q, HQ.out, rfl⟩, hx⟩

set_option maxRecDepth 100000 in
set_option maxHeartbeats 4000000 in
theorem heldAtomS_any (v : Value) (xs : List GA) (k : Nat) (w : World) {S : Nat → Prop} (hv : AtomsR S w v (mAtoms k xs)) (h1 : 1 ≤ k) (h2 : k + costAs xs ≤ 100000000) :
    Calls Tryz.prog 63 #[v, .int .i64 k] w fun e w' => (∃ q : Nat, q = k + costAs xs ∧ e = .returned (.int .i64 q)) ∧ Ext w w' := by
  obtain ⟨A, c, rfl, hc1, hc2⟩ := SliceR.form hv
  rw [mAtoms_len] at hc1 hv ⊢
  have HV := Lib.hid hv
  clear hv
  go_enter Tryz.func63, Tryz.ntmps63
  go_wp2
  go_loopw [1, 5] (fun kk i wr => ∃ (j q : Nat), j ≤ xs.length ∧ i = .int .i64 j ∧ kk = .int .i64 q ∧ q ≤ 100000000 ∧ 1 ≤ q ∧ Hid (q = k + costAs (xs.take j)) ∧ Ext w wr) (fun _ i _ => xs.length - (intOf i).toNat)
  case atStart => exact ⟨0, k, Nat.zero_le _, rfl, rfl, by omega, h1, by show _ = _; simp [costAs], Ext.refl _⟩
  case round =>
    obtain ⟨j, q, hj, rfl, rfl, hq1, hq2, hq, hx⟩ := hrel
    have hk0 : (0 : Int) ≤ (j : Int) := by omega
    by_cases hlt : j < xs.length
    · obtain ⟨b, off, y, u, rfl, hb, hyj, hys, ht, c0, c1⟩ := AtomsR.at_ (HV.out.ext hx) hlt
      obtain ⟨x, hxj⟩ : ∃ x, xs[j]? = some x := ⟨_, List.getElem?_eq_getElem hlt⟩
      rw [mAtoms_at _ _ _ _ hxj] at hyj
      injection hyj with hyj
      rw [← hq.out] at hyj
      subst hyj
      have HK := Lib.hid (costAs_take hxj)
      have hk1 : (j : Int) < (xs.length : Int) := by omega
      have hq3 : q + 1 + 2 * x.args.length ≤ 100000000 := by
        have h3 := hq.out
        have h4 := HK.out
        have h5 := costAs_take_le xs (j + 1)
        unfold costA at h4
        omega
      have ht' : TermsR S wr u (mTerms (q + 1) x.args.length) := ht
      obtain ⟨B, d, rfl, hd1, hd2⟩ := SliceR.form ht'
      obtain ⟨nn, hnn⟩ : ∃ nn, nn = (mTerms (q + 1) x.args.length).length := ⟨_, rfl⟩
      rw [← hnn] at ht' c1 hd1
      have HT := Lib.hid ht'
      have hc0 : wr.cell? ⟨b, off + j * 2, none⟩ = some (.string (mtext q)) := c0
      have hc1' : wr.cell? ⟨b, off + j * 2 + 1, none⟩ = some (.slice B nn d) := c1
      obtain ⟨s, hs⟩ : ∃ s, s = mtext q := ⟨_, rfl⟩
      rw [← hs] at hc0
      have HM := Lib.hid (fun (W : World) (_ : Ext wr W) => show Calls Tryz.prog 58 #[.int .i64 q] W fun e w' => e = .returned (.string s) ∧ Ext W w' from hs ▸ markText_any q W hq2 (by omega))
      clear c0 c1 hs hys ht ht' hxj hnn
      go_wp2_with (fail)
      refine calm_region (by kernel_rfl) (by kernel_rfl) ?_
      repeat (go_big_quiet_step ((go_at_call 58; exact calm_call (HM.out _ (Later.ext _)))))
      refine wpQuiet_nil ?_
      rintro w3 ⟨⟨_, hx3⟩, rfl⟩
      have d1 := (hx3.cells.1 b (off + j * 2 + 1) hb).trans hc1'
      go_wp2_with (go_at_call 109; refine (heldTermS_any _ x.args.length (q + 1) _ (HT.out.ext hx3) (by omega) (by omega)).mono ?_; rintro e w4 ⟨⟨q2, hq2', rfl⟩, hx4⟩; have HQ2 := Lib.hid hq2'; have hq4 : q2 ≤ 100000000 := (by omega); have hq5 : 1 ≤ q2 := (by omega); clear hq2')
      go_roundw
      case rel => exact ⟨j + 1, q2, by omega, by go_num, rfl, hq4, hq5, by have h3 := HQ2.out; have h4 := HK.out; have h5 := hq.out; unfold costA at h4; show _ = _; omega, (hx.trans' hx3).trans' hx4⟩
      case measure => simp [intOf]; omega
    · have HQ := Lib.hid (show q = k + costAs xs from by rw [hq.out, List.take_of_length_le (by omega)])
      go_wp2
      go_ret
      exact ⟨⟨q, HQ.out, rfl⟩, hx⟩

end Go.Proofs.YthndnkafckapnaaGreatDoor
