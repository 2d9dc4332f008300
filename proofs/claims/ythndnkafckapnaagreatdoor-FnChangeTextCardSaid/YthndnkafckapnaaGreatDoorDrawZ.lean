/- The walks of the draws: l10Cut, DrawChangeGet, l10AnyChange, DrawChangePut. -/
import Derived.Test.YthndnkafckapnaaGreatDoorDrawX
import Derived.Test.YthndnkafckapnaaGreatDoorDrawE
import Derived.Test.YthndnkafckapnaaGreatDoorDec
import Derived.Test.YthndnkafckapnaaGreatDoorDrawG
namespace Go.Proofs.YthndnkafckapnaaGreatDoor
open Go.RowKit

theorem Else.below {rb n : Nat} {a b c : World} (h : Else rb a b) (k : Below n b c) (hn : a.heap.size ≤ n) : Else rb a c :=
  ⟨k.os.trans h.os, k.tape.trans h.tape, k.output.trans h.output, Nat.le_trans h.size k.size, fun i hi hne => (k.block i (Nat.lt_of_lt_of_le hi hn)).trans (h.block i hi hne)⟩
theorem Rd.below {rb n m : Nat} {b c : World} (h : Rd b rb m) (k : Below n b c) (hn : rb < n) : Rd c rb m := h.keep (fun i hi hlt => k.block i (by have : i ≤ rb := hi; omega)) k.size
def mids (xs : List GA) : Prop := ∀ x ∈ xs, mid x
theorem small_mid {a : GA} (h : small a) : mid a := ⟨Nat.le_trans h.1 (by omega), Nat.le_trans h.2.1 (by omega), fun t ht => Nat.le_trans (h.2.2 t ht) (by omega)⟩
theorem mids_put {xs : List GA} {a : GA} (h : mids xs) (ha : mid a) : mids (putA xs a) := fun x hx => by
  rcases putA_mem hx with h1 | rfl
  · exact h x h1
  · exact ha
theorem mids_snoc {xs : List GA} {a : GA} (h : mids xs) (ha : mid a) : mids (xs ++ [a]) := fun x hx => by
  rcases List.mem_append.1 hx with h1 | h1
  · exact h x h1
  · simp at h1; subst h1; exact ha

theorem terms_two {w : World} {g : Nat} {x y : ByteArray} (hb : Blk w g 125 #[.bool false, .string x, .bool false, .string y]) (hx : x.size ≤ 1000) (hy : y.size ≤ 1000) :
    TermsR (From g) w (.slice (some ⟨g, 0, none⟩) 2 2) [⟨false, x⟩, ⟨false, y⟩] := by
  refine ⟨_, 2, rfl, Nat.le_refl _, maxOf (by omega), fun _ => ⟨g, 0, rfl, hb.lt, Nat.le_refl _, fun i t ht => ?_⟩⟩
  match i, ht with
  | 0, ht =>
    simp at ht; subst ht
    refine ⟨[.bool false, .string x], rfl, fun j u hu => ?_, rfl, maxOf (show x.size ≤ _ by omega)⟩
    match j, hu with
    | 0, hu => simp at hu; subst hu; rw [hb.cell]; rfl
    | 1, hu => simp at hu; subst hu; rw [hb.cell]; rfl
  | 1, ht =>
    simp at ht; subst ht
    refine ⟨[.bool false, .string y], rfl, fun j u hu => ?_, rfl, maxOf (show y.size ≤ _ by omega)⟩
    match j, hu with
    | 0, hu => simp at hu; subst hu; rw [hb.cell]; rfl
    | 1, hu => simp at hu; subst hu; rw [hb.cell]; rfl

def vName (i : Nat) : ByteArray := ⟨#[118, UInt8.ofNat (48 + i)]⟩
def vAtom (i k : Nat) : GA := ⟨⟨#[101]⟩, [⟨false, vName i⟩, ⟨false, vName k⟩]⟩
def manyL : Nat → List GA
  | 0 => []
  | t + 1 => putA (manyL t) (vAtom (t / 6) (t % 6))
theorem many_len : (manyL 42).length = 42 := by kernel_rfl
theorem many_le : ∀ t, (manyL t).length ≤ t
  | 0 => Nat.le_refl _
  | t + 1 => Nat.le_trans (putA_len _ _) (Nat.succ_le_succ (many_le t))
theorem mid_p : mid ⟨⟨#[112]⟩, [⟨false, ⟨#[97]⟩⟩, ⟨false, ⟨#[98]⟩⟩]⟩ := ⟨by decide, by decide, fun t ht => by
  simp only [List.mem_cons, List.not_mem_nil, or_false] at ht
  rcases ht with rfl | rfl <;> decide⟩
theorem vAtom_mid (i k : Nat) : mid (vAtom i k) := by
  refine ⟨by show 1 ≤ 9; omega, by show 2 ≤ 6; omega, fun t ht => ?_⟩
  simp only [vAtom, List.mem_cons, List.not_mem_nil, or_false] at ht
  rcases ht with rfl | rfl <;> exact (by show 2 ≤ 9; omega)
theorem many_mids : ∀ t, mids (manyL t)
  | 0 => fun x hx => by cases hx
  | t + 1 => mids_put (many_mids t) (vAtom_mid _ _)
theorem vName_dec (i : Nat) (h : i < 10) : (⟨#[118]⟩ : ByteArray) ++ strOf (Lib.decDigits i) = vName i := by
  rw [Lib.decDigits_one h, show (⟨#[118]⟩ : ByteArray) = strOf [118] from rfl, strOf_append]
  rfl

set_option maxRecDepth 100000 in
set_option maxHeartbeats 4000000 in
theorem l10AnyFacts_any (rb m : Nat) (w : World) (hr : Rd w rb m) (hp : m + 200 ≤ 1000000) :
    Calls Tryz.prog 76 #[.pointer (some ⟨rb, 0, none⟩)] w fun e w' =>
      (∃ (v : Value) (xs : List GA), e = .returned v ∧ AtomsR (From w.heap.size) w' v xs ∧ xs.length ≤ 41 ∧ mids xs) ∧ Rd w' rb (m + 200) ∧ Else rb w w' := by
  have hrl := hr.lt
  obtain ⟨i0, hi0, hz0, hz1, hz2⟩ := info_parts atom_info
  have HR := Lib.hid hr
  clear hr
  go_enter Tryz.func76, Tryz.ntmps76
  go_wp2_with (fail)
  refine (l10FactsK_any rb m 9 _ HR.out (by omega) (by omega)).mono ?_
  rintro e w1 ⟨⟨v, xs, rfl, hv1, hl1, hs1⟩, hr1, he1⟩
  obtain ⟨A, n, c, rfl, hn, hc1, hc2⟩ := hv1.form2
  have HR1 := Lib.hid hr1
  have HV1 := Lib.hid hv1
  have HE1 := Lib.hid he1
  have HM1 := Lib.hid (show mids xs from fun x hx => small_mid (hs1 x hx))
  have HN := Lib.hid hn.out
  clear hr1 hv1 he1 hs1 hn
  go_wp2_with (first
    | (go_at_call 74; refine (rdPick_any rb (m + 1 + 7 * 9) 20 _ (by omega) HR1.out (by omega)).mono ?_; rintro e w2 ⟨⟨z, hz, rfl⟩, hr2, he2⟩
       have HR2 := Lib.hid hr2
       have HV2 := Lib.hid (HV1.out.else_ he2 hrl (fun h => absurd (show w.heap.size ≤ rb from h) (by omega)))
       have HE2 := Lib.hid (HE1.out.trans' he2)
       have hz2' := (HE1.out.trans' he2).size
       clear hr2 he2))
  · -- one atom more
    refine (l10AnyAtom_any rb (m + 1 + 7 * 9 + 1) _ HR2.out (by omega)).mono ?_
    rintro e w3 ⟨⟨a, u, rfl, hu, ha⟩, hr3, he3⟩
    obtain ⟨B, d, rfl, hd1, hd2⟩ := SliceR.form hu
    have HA := Lib.hid ha
    have HU := Lib.hid hu
    have HR3 := Lib.hid hr3
    have HE3 := Lib.hid (HE2.out.trans' he3)
    have HV3 := Lib.hid (HV2.out.else_ he3 hrl (fun h => absurd (show w.heap.size ≤ rb from h) (by omega)))
    have HG := Lib.hid (HV2.out.at_)
    have hz3' := he3.size
    have has : a.n.size ≤ maxLen := maxOf (by have := ha.1; omega)
    clear hu hr3 he3 ha
    go_wp2_with (first
      | (at_builtin; refine wpList_appK (k := kAtom) (S := From w.heap.size) (T := From w2.heap.size) (base := w.heap.size) (xs := xs) (ys := [a]) rfl (.tmp 13) (.tmp 16) 23 (by rfl) i0 _ 40 Tryz.underlying23 hi0 hz0 hz1 hz2 (by rfl) (by rfl) (HV3.out.ext ((Ext.refl _).alloc _)) _ 1 1 (by rfl) (ElemsK.one (k := kAtom) (x := a) (Blk.new w3 67 #[.string a.n, .slice B a.args.length d]) ⟨_, rfl, has, HU.out.ext ((Ext.refl _).alloc _)⟩) (fun b hb _ => Nat.le_trans hz2' hb) (fun g hg hT => absurd (HG.out g hg).2 (Nat.not_lt.2 hT)) (maxOf (by omega)) (by omega) (by go_size) ?_
         intro v4 w4 hap
         obtain ⟨A4, n4, c4, rfl, hn4, ha4, hc4⟩ := hap.own.form2
         have HAP := Lib.hid hap
         clear hap))
    go_ret
    exact ⟨⟨_, xs ++ [a], rfl, HAP.out.own.list (S' := From w.heap.size) (fun _ h => h) (fun _ h => h), by simp; omega, mids_snoc HM1.out HA.out⟩, ((HR3.out.ext ((Ext.refl _).alloc _)).below HAP.out.below hrl).le (by omega), (HE3.out.trans' (Else.of_ext ((Ext.refl _).alloc _))).below HAP.out.below (Nat.le_refl _)⟩
  · -- one fact more
    refine (l10Fact_any rb (m + 1 + 7 * 9 + 1) _ HR2.out (by omega)).mono ?_
    rintro e w3 ⟨⟨a, u, rfl, hu, ha1, ha2⟩, hr3, he3⟩
    obtain ⟨B, d, rfl, hd1, hd2⟩ := SliceR.form hu
    have HA := Lib.hid (small_mid ⟨ha1, ha2⟩)
    have HU := Lib.hid hu
    have HR3 := Lib.hid hr3
    have HE3 := Lib.hid (HE2.out.trans' he3)
    have HV3 := Lib.hid (HV2.out.else_ he3 hrl (fun h => absurd (show w.heap.size ≤ rb from h) (by omega)))
    have HG := Lib.hid (HV2.out.at_)
    have hz3' := he3.size
    have has : a.n.size ≤ maxLen := maxOf (by omega)
    clear hu hr3 he3 ha1 ha2
    go_wp2_with (first
      | (at_builtin; refine wpList_appK (k := kAtom) (S := From w.heap.size) (T := From w2.heap.size) (base := w.heap.size) (xs := xs) (ys := [a]) rfl (.tmp 20) (.tmp 23) 23 (by rfl) i0 _ 40 Tryz.underlying23 hi0 hz0 hz1 hz2 (by rfl) (by rfl) (HV3.out.ext ((Ext.refl _).alloc _)) _ 1 1 (by rfl) (ElemsK.one (k := kAtom) (x := a) (Blk.new w3 67 #[.string a.n, .slice B a.args.length d]) ⟨_, rfl, has, HU.out.ext ((Ext.refl _).alloc _)⟩) (fun b hb _ => Nat.le_trans hz2' hb) (fun g hg hT => absurd (HG.out g hg).2 (Nat.not_lt.2 hT)) (maxOf (by omega)) (by omega) (by go_size) ?_
         intro v4 w4 hap
         obtain ⟨A4, n4, c4, rfl, hn4, ha4, hc4⟩ := hap.own.form2
         have HAP := Lib.hid hap
         clear hap))
    go_ret
    exact ⟨⟨_, xs ++ [a], rfl, HAP.out.own.list (S' := From w.heap.size) (fun _ h => h) (fun _ h => h), by simp; omega, mids_snoc HM1.out HA.out⟩, ((HR3.out.ext ((Ext.refl _).alloc _)).below HAP.out.below hrl).le (by omega), (HE3.out.trans' (Else.of_ext ((Ext.refl _).alloc _))).below HAP.out.below (Nat.le_refl _)⟩
  · -- a fact of a name with another number of terms
    have hb2 : Blk (w2.alloc (.cells #[.bool false, .string ⟨#[97]⟩, .bool false, .string ⟨#[98]⟩] 125)) w2.heap.size 125 #[.bool false, .string ⟨#[97]⟩, .bool false, .string ⟨#[98]⟩] := Blk.new _ _ _
    have ht : TermsR (From w2.heap.size) (w2.alloc (.cells #[.bool false, .string ⟨#[97]⟩, .bool false, .string ⟨#[98]⟩] 125)) (.slice (some ⟨w2.heap.size, 0, none⟩) 2 2) [⟨false, ⟨#[97]⟩⟩, ⟨false, ⟨#[98]⟩⟩] := terms_two hb2 (by decide) (by decide)
    refine (l3Put_any (S := From w.heap.size) (T := From w.heap.size) _ _ xs ⟨⟨#[112]⟩, [⟨false, ⟨#[97]⟩⟩, ⟨false, ⟨#[98]⟩⟩]⟩ _ ((HV2.out.list (S' := From w.heap.size) (fun _ h => h) (fun _ h => h)).ext ((Ext.refl _).alloc _)) (TermsR.sub ht (fromLe hz2')) (by decide) (by omega)).mono ?_
    rintro e w3 ⟨⟨v3, rfl, hv3⟩, hx3⟩
    have HV3 := Lib.hid (AtomsR.sub (S' := From w.heap.size) hv3 (fun b hb => hb.elim (fun h => Nat.le_trans hz2' (Nat.le_trans (by simp) h)) (fun h => h.elim id id)))
    have HX3 := Lib.hid (((Ext.refl w2).alloc (.cells #[.bool false, .string ⟨#[97]⟩, .bool false, .string ⟨#[98]⟩] 125)).trans' hx3)
    clear hv3 hx3 hb2 ht
    go_wp2
    go_ret
    have := putA_len xs ⟨⟨#[112]⟩, [⟨false, ⟨#[97]⟩⟩, ⟨false, ⟨#[98]⟩⟩]⟩
    exact ⟨⟨_, _, rfl, HV3.out, by omega, mids_put HM1.out mid_p⟩, (HR2.out.ext HX3.out).le (by omega), HE2.out.trans' (Else.of_ext HX3.out)⟩
  · -- many
    simp only [show ((z : Int) == 0) = false from by assumption, show ((z : Int) == 1) = false from by assumption, show ((z : Int) == 2) = false from by assumption, show ((z : Int) == 3) = true from by assumption]
    go_loopw [4, 5] (fun v i wr => ∃ k : Nat, i = .int .i64 k ∧ k ≤ 7 ∧ Hid (AtomsR (From w.heap.size) wr v (manyL (6 * k))) ∧ Ext w2 wr) (fun _ i _ => 7 - (intOf i).toNat)
    case atStart => exact ⟨0, rfl, by omega, SliceR.nil_ 0 (Nat.zero_le _) _, (Ext.refl w2).alloc _⟩
    case round =>
      obtain ⟨k, rfl, hk, hv, hx⟩ := hrel
      have hk0 : (0 : Int) ≤ (k : Int) := by omega
      obtain ⟨A1, c1, rfl, hc11, hc12⟩ := SliceR.form hv.out
      by_cases hlt : k < 7
      · obtain ⟨n1, hn1⟩ : ∃ n1, n1 = (manyL (6 * k)).length := ⟨_, rfl⟩
        rw [← hn1] at hv ⊢
        go_wp2
        simp only [show decide ((k : Int) < 7) = true from decide_eq_true (by omega)]
        go_loopw [4, 6] (fun v j wr => ∃ q : Nat, j = .int .i64 q ∧ q ≤ 6 ∧ Hid (AtomsR (From w.heap.size) wr v (manyL (6 * k + q))) ∧ Ext w2 wr) (fun _ j _ => 6 - (intOf j).toNat)
        case atStart => exact ⟨0, rfl, by omega, hv, hx⟩
        case round =>
          obtain ⟨q, rfl, hq, hv, hx⟩ := hrel
          have hq0 : (0 : Int) ≤ (q : Int) := by omega
          obtain ⟨A2, c2, rfl, hc21, hc22⟩ := SliceR.form hv.out
          obtain ⟨n2, hn2⟩ : ∃ n2, n2 = (manyL (6 * k + q)).length := ⟨_, rfl⟩
          have hml := many_le (6 * k + q)
          rw [← hn2] at hv hc21 ⊢
          by_cases hqt : q < 6
          · obtain ⟨d1, hd1⟩ : ∃ d1, d1 = strOf (Lib.decDigits k) := ⟨_, rfl⟩
            obtain ⟨d2, hd2⟩ : ∃ d2, d2 = strOf (Lib.decDigits q) := ⟨_, rfl⟩
            have hs1 : d1.size ≤ 10 := by rw [hd1, strOf_size]; exact dec_len k (by omega)
            have hs2 : d2.size ≤ 10 := by rw [hd2, strOf_size]; exact dec_len q (by omega)
            have HC1 := Lib.hid (fun W => show Calls Tryz.prog 113 #[.int .i64 k] W fun e w' => e = .returned (.string d1) ∧ Ext W w' from hd1 ▸ l1Dec_any k W hk0 (by omega))
            have HC2 := Lib.hid (fun W => show Calls Tryz.prog 113 #[.int .i64 q] W fun e w' => e = .returned (.string d2) ∧ Ext W w' from hd2 ▸ l1Dec_any q W hq0 (by omega))
            have HV1 := Lib.hid (show (⟨#[118]⟩ : ByteArray) ++ d1 = vName k from hd1 ▸ vName_dec k (by omega))
            have HV2' := Lib.hid (show (⟨#[118]⟩ : ByteArray) ++ d2 = vName q from hd2 ▸ vName_dec q (by omega))
            have hlen : n2 ≤ 4194304 := by omega
            have HL := Lib.hid hn2
            have HM2 := Lib.hid (show putA (manyL (6 * k + q)) (vAtom k q) = manyL (6 * k + (q + 1)) from by
              show _ = putA (manyL (6 * k + q)) (vAtom ((6 * k + q) / 6) ((6 * k + q) % 6))
              rw [show (6 * k + q) / 6 = k from by omega, show (6 * k + q) % 6 = q from by omega])
            have tok : True := trivial
            clear hd1 hd2 hn2
            go_wp2_with (first
              | (go_at_call 113; have _t := tok; refine (HC1.out _).mono ?_; clear tok _t; rintro e w3 ⟨rfl, hx3⟩
                 have HX3 := Lib.hid hx3
                 clear hx3)
              | (go_at_call 113; refine (HC2.out _).mono ?_; rintro e w4 ⟨rfl, hx4⟩
                 have HX4 := Lib.hid (HX3.out.trans' hx4)
                 have HB4 := Lib.hid (Blk.new w4 125 #[.bool false, .string (⟨#[118]⟩ ++ d1), .bool false, .string (⟨#[118]⟩ ++ d2)])
                 have HT4 := Lib.hid (show TermsR (From w4.heap.size) (w4.alloc (.cells #[.bool false, .string (⟨#[118]⟩ ++ d1), .bool false, .string (⟨#[118]⟩ ++ d2)] 125)) (.slice (some ⟨w4.heap.size, 0, none⟩) 2 2) (vAtom k q).args from by
                   have h := terms_two HB4.out (by rw [HV1.out]; show 2 ≤ 1000; omega) (by rw [HV2'.out]; show 2 ≤ 1000; omega)
                   unfold vAtom
                   rw [← HV1.out, ← HV2'.out]
                   exact h)
                 have hz4 := (HX3.out.trans' hx4).size
                 clear hx4)
              | (go_at_call 120; refine (l3Put_any (S := From w.heap.size) (T := From w.heap.size) _ _ (manyL (6 * k + q)) (vAtom k q) _ (hv.out.ext (HX4.out.alloc _)) (TermsR.sub HT4.out (fromLe (Nat.le_trans (Nat.le_trans hz2' hx.size) hz4))) (show 1 ≤ maxLen from maxOf (by omega)) (by rw [← HL.out]; exact hlen)).mono ?_; rintro e w5 ⟨⟨v5, rfl, hv5⟩, hx5⟩
                 have HV5 := Lib.hid (AtomsR.sub (S' := From w.heap.size) hv5 (fun b hb => hb.elim (fun h => Nat.le_trans (Nat.le_trans (Nat.le_trans hz2' hx.size) hz4) (Nat.le_trans (by simp) h)) (fun h => h.elim id id)))
                 have HX5 := Lib.hid ((HX4.out.alloc _).trans' hx5)
                 clear hv5 hx5))
            go_roundw
            case rel => exact ⟨q + 1, by go_num, by omega, (by rw [← HM2.out]; exact HV5), hx.trans' HX5.out⟩
            case measure => simp [intOf]; omega
          · have hq6 : q = 6 := by omega
            subst hq6
            have HV6 := Lib.hid (show AtomsR (From w.heap.size) wr (.slice A2 n2 c2) (manyL (6 * (k + 1))) from by
              rw [show 6 * (k + 1) = 6 * k + 6 from by omega]; exact hv.out)
            clear hn2
            go_wp2
            go_roundw
            case rel => exact ⟨k + 1, by go_num, by omega, HV6, hx⟩
            case measure => simp [intOf]; omega
      · have hk7 : k = 7 := by omega
        subst hk7
        have h42 : (manyL (6 * 7)).length = 42 := many_len
        rw [h42] at hc11 hv ⊢
        have HR5 := Lib.hid (HR2.out.ext hx)
        go_wp2_with (first
          | (go_at_call 74; refine (rdPick_any rb (m + 1 + 7 * 9 + 1) 2 _ (by omega) HR5.out (by omega)).mono ?_; rintro e w6 ⟨⟨z6, hz6, rfl⟩, hr6, he6⟩
             have HR6 := Lib.hid hr6
             have HE6 := Lib.hid ((HE2.out.trans' (Else.of_ext hx)).trans' he6)
             have HV6 := Lib.hid (AtomsR.imp hv.out (fun _ h => h) (he6.from_ hrl) he6.size)
             have hz60 : (0 : Int) ≤ (z6 : Int) := (by omega)
             have hz61 : (z6 : Int) ≤ 1 := (by omega)
             have hcc : (42 : Int) ≤ (c1 : Int) := (by omega)
             have hw6 : IntKind.i64.wrap (40 + (z6 : Int)) = 40 + (z6 : Int) := (by rw [IntKind.wrap_i64]; omega)
             clear hr6 he6))
        have hz6' : z6 ≤ 1 := by omega
        refine bodyPost_ret (v := .slice A1 (40 + z6) c1) (by simp [results, Tryz.results76, go_sem]) rfl ?_
        exact ⟨⟨_, (manyL (6 * 7)).take (40 + z6), rfl, SliceR.take HV6.out (40 + z6) (by omega), by rw [List.length_take]; omega, fun x hx => many_mids _ x (List.mem_of_mem_take hx)⟩, HR6.out.le (by omega), HE6.out⟩
  · refine bodyPost_ret (v := .slice A n c) (by simp [results, Tryz.results76, go_sem]) rfl ?_
    exact ⟨⟨_, xs, rfl, HV2.out.list (S' := From w.heap.size) (fun _ h => h) (fun _ h => h), by omega, HM1.out⟩, HR2.out.le (by omega), HE2.out⟩

theorem OwnK.low {α : Type} {k : Kind α} {S : Nat → Prop} {w : World} {v : Value} {xs : List α} {base : Nat} {e : TypeId} (h : OwnK k base e S w v xs) : OwnK k base e (fun b => S b ∧ b < w.heap.size) w v xs := by
  obtain ⟨rows, T, h1, h2, h3, h4⟩ := h
  exact ⟨rows, T, h1, h2, fun b hb => ⟨h3 b hb, (h3 b hb).2⟩, h4⟩
theorem mid_w {a : GA} (h : mid a) : wAtom a ≤ 69 := by
  obtain ⟨h1, h2, h3⟩ := h
  unfold wAtom wTerms
  have : (a.args.map wTerm).sum ≤ a.args.length * 9 := by
    generalize a.args = l at h2 h3
    clear h2
    induction l with
    | nil => simp
    | cons t l ih =>
      have := h3 t (by simp)
      have := ih (fun t ht => h3 t (List.mem_cons_of_mem _ ht))
      simp only [List.map_cons, List.sum_cons, List.length_cons, wTerm] at *
      omega
  omega
theorem signedL_mid {l : List GA} (c : UInt8) (h : mids l) : (signedL c l).length ≤ l.length * 73 := by
  induction l with
  | nil => simp [signedL]
  | cons a l ih =>
    have h1 := ih (fun t ht => h t (List.mem_cons_of_mem _ ht))
    have h2 := atomL_len a
    have h3 := mid_w (h a (by simp))
    unfold signedL at h1 ⊢
    simp only [List.map_cons, List.flatten_cons, List.length_append, List.length_cons, List.length_nil] at h1 ⊢
    omega
theorem mids_text {g : GC} (h1 : g.comes.length ≤ 41) (h2 : g.goes.length ≤ 6) (h3 : mids g.comes) (h4 : mids g.goes) : (changeL g).length ≤ 4194304 := by
  have h5 := signedL_mid 43 h3
  have h6 := signedL_mid 45 h4
  unfold changeL
  rw [List.length_append]
  omega

set_option maxRecDepth 100000 in
set_option maxHeartbeats 4000000 in
theorem l10Cut_any (rb m : Nat) (s : ByteArray) (w : World) (hs : s.size ≤ 100000) (hr : Rd w rb m) (hp : m + 3 ≤ 1000000) :
    Calls Tryz.prog 46 #[.pointer (some ⟨rb, 0, none⟩), .string s] w fun e w' => (∃ t : ByteArray, e = .returned (.string t) ∧ t.size ≤ s.size + 5) ∧ Rd w' rb (m + 3) ∧ Else rb w w' := by
  have hrl := hr.lt
  have HR := Lib.hid hr
  have HP1 := Lib.hid (fun W (hW : Rd W rb m) => show Calls Tryz.prog 74 #[.pointer (some ⟨rb, 0, none⟩), .int .i64 ((s.size : Int) + 1)] W fun e w' => (∃ z : Nat, z < s.size + 1 ∧ e = .returned (.int .i64 z)) ∧ Rd w' rb (m + 1) ∧ Else rb W w' from rdPick_any rb m (s.size + 1) W (by omega) hW (by omega))
  have tok : True := trivial
  clear hr
  go_enter Tryz.func46, Tryz.ntmps46
  go_wp2_with (first
    | (go_at_call 74; have _t := tok; refine (HP1.out _ HR.out).mono ?_; clear tok _t; rintro e w1 ⟨⟨k, hk, rfl⟩, hr1, he1⟩
       have HR1 := Lib.hid hr1
       have HE1 := Lib.hid he1
       have hk0 : (0 : Int) ≤ (k : Int) := (by omega)
       have hk1 : (k : Int) ≤ (s.size : Int) := (by omega)
       clear hr1 he1)
    | (go_at_call 74; refine (rdPick_any rb (m + 1) 5 _ (by omega) HR1.out (by omega)).mono ?_; rintro e w2 ⟨⟨z, hz, rfl⟩, hr2, he2⟩
       have HR2 := Lib.hid hr2
       have HE2 := Lib.hid (HE1.out.trans' he2)
       clear hr2 he2))
  · have hle1 : (s.extract 0 k).size ≤ 100000 := by rw [ByteArray.size_extract]; omega
    have hle2 : (s.extract k s.size).size ≤ 100000 := by rw [ByteArray.size_extract]; omega
    clear HR HP1 HR1 HE1
    go_region_law (go_simp; go_at_call 90; refine (of_any rb (m + 2) _ cuts12 _ (strs_at (w := w2.drew) (g := w2.heap.size) (t := 9) _ cuts12 rfl rfl (HR2.out.ext (Ext.refl w2).drew) (fun s hs => Nat.le_trans (cuts12_small s hs) (by omega)) (by simp [cuts12]) 12 rfl) (by simp [cuts12]) (HR2.out.ext ((Ext.refl w2).drew.alloc (.cells #[.string ⟨#[40]⟩, .string ⟨#[41]⟩, .string ⟨#[44]⟩, .string ⟨#[32]⟩, .string ⟨#[120]⟩, .string ⟨#[88]⟩, .string ⟨#[110, 111, 116, 32]⟩, .string ⟨#[32, 97, 110, 100, 32]⟩, .string ⟨#[10]⟩, .string ⟨#[49]⟩, .string ⟨#[43]⟩, .string ⟨#[45]⟩] 9))) (by omega)).mono ?_; rintro e w3 ⟨⟨x, hx, _, rfl⟩, hr3, he3⟩; have hxs := cuts12_small x hx; have hm1 : (9223372036854775807 < min k s.size + x.size) = False := (eq_false (by omega)); have hm2 : (9223372036854775807 < min k s.size + x.size + (s.size - k)) = False := (eq_false (by omega)); have HR3 := Lib.hid hr3; have HE3 := Lib.hid (HE2.out.trans' ((Else.of_ext (rb := rb) ((Ext.refl w2).drew.alloc (.cells #[.string ⟨#[40]⟩, .string ⟨#[41]⟩, .string ⟨#[44]⟩, .string ⟨#[32]⟩, .string ⟨#[120]⟩, .string ⟨#[88]⟩, .string ⟨#[110, 111, 116, 32]⟩, .string ⟨#[32, 97, 110, 100, 32]⟩, .string ⟨#[10]⟩, .string ⟨#[49]⟩, .string ⟨#[43]⟩, .string ⟨#[45]⟩] 9))).trans' he3)); clear hr3 he3 hx)
    all_goals
      go_wp2
      go_ret
      exact ⟨⟨_, rfl, by simp only [ByteArray.size_append, ByteArray.size_extract]; omega⟩, HR3.out, HE3.out⟩
  · go_ret
    exact ⟨⟨_, rfl, by simp only [ByteArray.size_extract]; omega⟩, HR2.out.le (by omega), HE2.out⟩
  · go_ret
    exact ⟨⟨_, rfl, by omega⟩, HR2.out.le (by omega), HE2.out⟩

set_option maxRecDepth 100000 in
set_option maxHeartbeats 2000000 in
theorem drawChangeGet_any (v : Value) (xs : List UInt8) (w : World) {S : Nat → Prop} (hv : BytesR S w v xs) :
    Calls Tryz.prog 13 #[v] w fun e w' => (∃ s : ByteArray, e = .returned (.string s) ∧ s.size ≤ 2000) ∧ Ext w w' := by
  obtain ⟨A, c, rfl, hc1, hc2⟩ := SliceR.form hv
  have HV := Lib.hid hv
  clear hv
  go_enter Tryz.func13, Tryz.ntmps13
  go_wp2_with (first
    | (go_at_call 35; refine (l1Open_any _ xs _ HV.out).mono ?_; rintro e w1 ⟨rb, rfl, hr1, hx1, hrb⟩; have HR1 := Lib.hid (show Rd w1 rb 0 from ⟨0, Nat.le_refl _, hr1⟩); have HX1 := Lib.hid hx1; clear hr1 hx1)
    | (go_at_call 47; refine (l10Change_any rb 0 _ HR1.out (by omega)).mono ?_; rintro e w2 ⟨⟨g, v2, u2, rfl, hv2, hu2, hl1, hl2, hs1, hs2⟩, hr2, he2⟩; obtain ⟨B, d, rfl, hd1, hd2⟩ := SliceR.form hv2; obtain ⟨C, f, rfl, hf1, hf2⟩ := SliceR.form hu2; have HV2 := Lib.hid hv2; have HU2 := Lib.hid hu2; have HR2 := Lib.hid hr2; have HX2 := Lib.hid (Else.toExt HX1.out he2 hrb); have HW := Lib.hid (show wChange g ≤ 1048576 from by have h1 := smalls_w hs1; have h2 := smalls_w hs2; unfold wChange; omega); have HL := Lib.hid (show (strOf (changeL g)).size ≤ 1000 from by rw [strOf_size]; have h1 := signedL_small 43 hs1; have h2 := signedL_small 45 hs2; unfold changeL; rw [List.length_append]; omega); clear hv2 hu2 hr2 he2 hs1 hs2)
    | (go_at_call 42; refine (l8Put_any g _ _ _ HV2.out HU2.out HW.out).mono ?_; rintro e w3 ⟨rfl, hx3⟩; have HR3 := Lib.hid (HR2.out.ext hx3); have HX3 := Lib.hid (HX2.out.trans' hx3); clear hx3)
    | (go_at_call 46; refine (l10Cut_any rb 72 _ _ (by have := HL.out; omega) HR3.out (by omega)).mono ?_; rintro e w4 ⟨⟨s, rfl, hs⟩, hr4, he4⟩; have HS := Lib.hid (show s.size ≤ 2000 from by have := HL.out; omega); have HE4 := Lib.hid he4; clear hs hr4 he4))
  go_ret
  exact ⟨⟨s, rfl, HS.out⟩, Else.toExt HX3.out HE4.out hrb⟩

set_option maxRecDepth 100000 in
set_option maxHeartbeats 8000000 in
theorem l10AnyChange_any (rb m : Nat) (w : World) (hr : Rd w rb m) (hp : m + 300 ≤ 1000000) :
    Calls Tryz.prog 34 #[.pointer (some ⟨rb, 0, none⟩)] w fun e w' =>
      (∃ (g : GC) (v u : Value), e = .returned (.agg #[v, u]) ∧ AtomsR (From w.heap.size) w' v g.comes ∧ AtomsR (From w.heap.size) w' u g.goes ∧ g.comes.length ≤ 41 ∧ g.goes.length ≤ 6 ∧ mids g.comes ∧ mids g.goes) ∧ Rd w' rb (m + 300) ∧ Else rb w w' := by
  have hrl := hr.lt
  obtain ⟨i0, hi0, hz0, hz1, hz2⟩ := info_parts atom_info
  have HR0 := Lib.hid (hr.ext ((Ext.refl w).alloc (.cells #[.slice none 0 0, .slice none 0 0] 25)))
  have HB := Lib.hid (Blk.new w 25 #[.slice none 0 0, .slice none 0 0])
  clear hr
  go_enter Tryz.func34, Tryz.ntmps34
  go_wp2_with (fail)
  refine (l10ChangeK_any rb m _ HR0.out (by omega)).mono ?_
  rintro e w1 ⟨⟨g, v, u, N, rfl, hv, hu, hN1, hN2, hl1, hl2, hs1, hs2⟩, hr1, he1⟩
  obtain ⟨A, c, rfl, hc1, hc2⟩ := SliceR.form hv
  obtain ⟨B, mm, d, rfl, hmm, hd1, hd2⟩ := hu.form2
  obtain ⟨nn, hnn⟩ : ∃ nn, nn = g.comes.length := ⟨_, rfl⟩
  rw [← hnn] at hv ⊢ hc1
  simp only [World.size_alloc] at hN1
  have HV1 := Lib.hid hv
  have HU1 := Lib.hid (show OwnK kAtom N 67 (fun b => w.heap.size + 1 ≤ b ∧ b < w1.heap.size) w1 (.slice B mm d) g.goes from hu.low.sub (Nat.le_refl _) (fun b hb => ⟨by have h : (w.alloc _).heap.size ≤ b := hb.1; simp only [World.size_alloc] at h; exact h, hb.2⟩))
  have HG := Lib.hid hu.at_
  have HR1 := Lib.hid hr1
  have HE1 := Lib.hid ((Else.of_ext (rb := rb) ((Ext.refl w).alloc _)).trans' he1)
  have HB1 := Lib.hid (HB.out.else_ he1 (by omega))
  have HM1 := Lib.hid (show mids g.comes from fun x hx => small_mid (hs1 x hx))
  have HM2 := Lib.hid (show mids g.goes from fun x hx => small_mid (hs2 x hx))
  have HL := Lib.hid (show g.comes.length ≤ 5 ∧ g.goes.length ≤ 5 ∧ mm = g.goes.length from ⟨hl1, hl2, hmm.out⟩)
  clear hv hu hr1 he1 hs1 hs2 hmm hnn
  go_wp2_with (fail)
  refine (rdPick_any rb (m + 72) 16 _ (by omega) (HR1.out.ext ((Ext.refl _).alloc _)) (by omega)).mono ?_
  rintro e w2 ⟨⟨z, hz, rfl⟩, hr2, he2⟩
  have hQ := (Else.of_ext (rb := rb) ((Ext.refl w1).alloc (.cells #[.slice A nn c, .slice B mm d] 25))).trans' he2
  have HR2 := Lib.hid hr2
  have HE2 := Lib.hid (HE1.out.trans' hQ)
  have HQ := Lib.hid hQ
  have hz1' := HE1.out.size
  have HC2 := Lib.hid ((Blk.new w1 25 #[.slice A nn c, .slice B mm d]).else_ he2 (by omega))
  have HB2 := Lib.hid (HB1.out.else_ hQ (by omega))
  have HV2 := Lib.hid (AtomsR.imp HV1.out (fun _ h => h) (fun b hb hlt => hQ.agree b (fun e => by have := hb.1; simp only [World.size_alloc] at this; omega) hlt) hQ.size)
  have HU2 := Lib.hid (HU1.out.else_ hQ (by omega) (fun h => absurd h.1 (by omega)))
  have hlt2 := HC2.out.lt
  have hlt0 := HB2.out.lt
  have p0 := HC2.out.cell 0
  have p1 := HC2.out.cell 1
  have f0 := HC2.out.frozen 0
  have f1 := HC2.out.frozen 1
  have r0 := HB2.out.cell 0
  have r1 := HB2.out.cell 1
  have g0 := HB2.out.frozen 0
  have g1 := HB2.out.frozen 1
  clear hr2 he2 hQ HR0 HR1 HB HV1 HU1 HB1 HE1
  go_wp2_with (fail)
  · -- one more that goes
    clear p0 r0 r1
    go_region_law (first
      | (go_simp; go_at_call 75; refine (l10AnyAtom_any rb (m + 73) _ (HR2.out.ext (Ext.refl w2).drew) (by omega)).mono ?_; rintro e w3 ⟨⟨a, y, rfl, hy, ha⟩, hr3, he3⟩; obtain ⟨C, k, rfl, hk1, hk2⟩ := SliceR.form hy; have hq3 := (Else.of_ext (rb := rb) (Ext.refl w2).drew).trans' he3; have HQ3 := Lib.hid hq3; have HR3 := Lib.hid hr3; have HY3 := Lib.hid hy; have HA3 := Lib.hid ha; have HC3 := Lib.hid (HC2.out.else_ hq3 (by omega)); have HU3 := Lib.hid (HU2.out.else_ hq3 (by omega) (fun h => absurd h.1 (by omega))); have q1 := HC3.out.cell 1; have hz3 := hq3.size; have hlt3 := HC3.out.lt; have q2 := (((Ext.refl w3).alloc (.cells #[.string a.n, .slice C a.args.length k] 67)).cells.1 _ 1 hlt3).trans q1; clear hy ha hr3 he3 hq3)
      | (refine step_appK (o := ⟨some 15, _, _, _, _, _⟩) (k := kAtom) (S := fun b => w.heap.size + 1 ≤ b ∧ b ≠ w1.heap.size) (T := From w2.heap.size) (base := N) (xs := g.goes) (ys := [a]) (by rfl) (.tmp 11) (.tmp 14) 23 (by rfl) i0 _ 40 Tryz.underlying23 hi0 hz0 hz1 hz2 (by rfl) (by rfl) ((HU3.out.sub (Nat.le_refl _) (fun b hb => ⟨hb.1, Nat.ne_of_lt hb.2⟩)).ext ((Ext.refl _).alloc _)) _ 1 1 (by rfl) (ElemsK.one (k := kAtom) (x := a) (Blk.new w3 67 #[.string a.n, .slice C a.args.length k]) ⟨_, rfl, maxOf (by have := HA3.out.1; omega), (TermsR.sub HY3.out (fun b hb => hb)).ext ((Ext.refl _).alloc _)⟩) (fun b hb _ => ⟨Nat.le_trans (show w.heap.size + 1 ≤ w2.heap.size by omega) hb, by have h : w2.heap.size ≤ b := hb; omega⟩) (fun x hx hT => absurd (HG.out x hx).2 (Nat.not_lt.2 (Nat.le_trans (by omega) hT))) (maxOf (by have := HL.out; omega)) (by have := HL.out; omega) (by go_size) ?_; intro v5 w5 hap; obtain ⟨A5, n5, c5, rfl, hn5, ha5, hc5⟩ := hap.own.form2; have HAP := Lib.hid hap; have hb5 : Blk w5 w1.heap.size 25 #[.slice A nn c, .slice B mm d] := (hap.grown.block _ (by simp only [World.size_alloc]; omega) (fun e => by have := (HG.out _ e.symm).2; omega)).trans (HC3.out.alloc _); have q5 := hb5.cell 1; have f5 := hb5.frozen 1; have hlt5 := hb5.lt; have HB5 := Lib.hid hb5; clear hap hb5))
    all_goals
      have hR5 : Blk w5 w.heap.size 25 #[.slice none 0 0, .slice none 0 0] := ((HB2.out.else_ HQ3.out (by omega)).alloc _).below HAP.out.below (by omega)
      have hR6 := hR5.far (p := ⟨w1.heap.size, 1, none⟩) (by simp only; omega) (.slice A5 n5 c5)
      have hC6 : Blk (w5.setCell ⟨w1.heap.size, 1, none⟩ (.slice A5 n5 c5)) w1.heap.size 25 #[.slice A nn c, .slice A5 n5 c5] := by simpa using HB5.out.set_ 1 (.slice A5 n5 c5)
      clear p1 f0 f1 g0 g1 q1 q2 q5 f5
      have p0 := hC6.cell 0
      have p1 := hC6.cell 1
      have r0 := hR6.cell 0
      have r1 := hR6.cell 1
      have g0 := hR6.frozen 0
      have g1 := hR6.frozen 1
      have hlt6 := hR6.lt
      have hz5 := HAP.out.grown.size
      have hz5' : w3.heap.size ≤ w5.heap.size := by simp only [World.size_alloc] at hz5; omega
      clear hR5 hR6 hC6
      go_wp2
      refine bodyPost_ret (v := .agg #[.slice A nn c, .slice A5 n5 c5]) (by simp [results, Tryz.results34, go_sem, r0, r1]) rfl ?_
      have hA : ∀ S : Nat → Prop, (¬ S w.heap.size) → (¬ S w1.heap.size) → Agree S w5 (((w5.setCell ⟨w1.heap.size, 1, none⟩ (.slice A5 n5 c5)).setCell ⟨w.heap.size, 0, none⟩ (.slice A nn c)).setCell ⟨w.heap.size, 1, none⟩ (.slice A5 n5 c5)) := fun S h1 h2 => (((Agree.refl _ _).setCell h2 _).setCell h1 _).setCell h1 _
      have hE5 : Else rb w w5 := ((HE2.out.trans' HQ3.out).trans' (Else.of_ext ((Ext.refl _).alloc _))).below HAP.out.below (by omega)
      have hV5 : AtomsR (fun b => w.heap.size + 1 ≤ b ∧ b < N) w5 (.slice A nn c) g.comes := by
        have h1 := AtomsR.imp HV2.out (S' := fun b => w.heap.size + 1 ≤ b ∧ b < N) (fun b hb => ⟨by have h := hb.1; simp only [World.size_alloc] at h; exact h, hb.2⟩) (fun b hb hlt => HQ3.out.agree b (fun e => by have := hb.1; simp only [World.size_alloc] at this; omega) hlt) HQ3.out.size
        have h2 := AtomsR.ext h1 ((Ext.refl _).alloc (.cells #[.string a.n, .slice C a.args.length k] 67))
        exact AtomsR.imp h2 (fun _ h => h) (fun b hb hlt => HAP.out.below.block b hb.2) hz5
      refine ⟨⟨⟨g.comes, g.goes ++ [a]⟩, _, _, rfl, ?_, ?_, by have := HL.out; show g.comes.length ≤ 41; omega, by have := HL.out; show (g.goes ++ [a]).length ≤ 6; simp; omega, HM1.out, mids_snoc HM2.out HA3.out⟩, ?_, ?_⟩
      · exact AtomsR.imp hV5 (fun b hb => by have := hb.1; show w.heap.size ≤ b; omega) (hA _ (fun h => by have := h.1; omega) (fun h => by have := h.2; omega)) (by go_size)
      · have h1 := HAP.out.own.agree (w' := ((w5.setCell ⟨w1.heap.size, 1, none⟩ (.slice A5 n5 c5)).setCell ⟨w.heap.size, 0, none⟩ (.slice A nn c)).setCell ⟨w.heap.size, 1, none⟩ (.slice A5 n5 c5)) (hA _ (fun h => by have := h.1; omega) (fun h => h.2 rfl)) (fun x hx => by
          have hx1 := (HAP.out.own.at_ x hx).1
          have hx2 : x ≠ w1.heap.size := by
            rcases HAP.out.at_ with e | e
            · rw [e] at hx; have := (HG.out x hx).2; omega
            · rw [e] at hx; injection hx with hx; simp only [World.size_alloc] at hx; omega
          exact ((Below.heap_setCell _ _ _ _ (by simp only; omega)).trans (Below.heap_setCell _ _ _ _ (by simp only; omega))).trans (Below.heap_setCell _ _ _ _ hx2)) (by go_size)
        exact h1.list (S' := From w.heap.size) (fun b hb => by have := hb.1; show w.heap.size ≤ b; omega) (fun b hb => by show w.heap.size ≤ b; omega)
      · exact (((HR3.out.ext ((Ext.refl _).alloc _)).below HAP.out.below (by omega)).keep (hA _ (by omega) (by omega)) (by go_size)).le (by omega)
      · exact ⟨hE5.os, hE5.tape, hE5.output, by have := hE5.size; go_size, fun k hk hne => (hA (fun b => b < w.heap.size) (by omega) (by omega) k hk (Nat.lt_of_lt_of_le hk hE5.size)).trans (hE5.block k hk hne)⟩
  · -- what comes anew
    refine (l10AnyFacts_any rb (m + 73) _ HR2.out (by omega)).mono ?_
    rintro e w3 ⟨⟨v3, xs, rfl, hv3, hl3, hs3⟩, hr3, he3⟩
    obtain ⟨C, k, rfl, hk1, hk2⟩ := SliceR.form hv3
    obtain ⟨n3, hn3⟩ : ∃ n3, n3 = xs.length := ⟨_, rfl⟩
    rw [← hn3] at hv3 hk1 ⊢
    have hz3 := he3.size
    have hR3 := HB2.out.else_ he3 (by omega)
    have hC3 := HC2.out.else_ he3 (by omega)
    have HV3 := Lib.hid hv3
    have HS3 := Lib.hid (show xs.length ≤ 41 ∧ mids xs from ⟨hl3, hs3⟩)
    have HR3 := Lib.hid hr3
    have HE3 := Lib.hid (HE2.out.trans' he3)
    have HU3 := Lib.hid (HU2.out.else_ he3 (by omega) (fun h => absurd h.1 (by omega)))
    have hC4 : Blk (w3.setCell ⟨w1.heap.size, 0, none⟩ (.slice C n3 k)) w1.heap.size 25 #[.slice C n3 k, .slice B mm d] := by simpa using hC3.set_ 0 (.slice C n3 k)
    have hR4 := hR3.far (p := ⟨w1.heap.size, 0, none⟩) (by simp only; omega) (.slice C n3 k)
    clear p0 p1 f0 f1 r0 r1 g0 g1 hv3 hr3 he3 hl3 hs3 hn3
    have hlt3 := hC3.lt
    have q0 := hC3.cell 0
    have f0 := hC3.frozen 0
    have p0 := hC4.cell 0
    have p1 := hC4.cell 1
    have r0 := hR4.cell 0
    have r1 := hR4.cell 1
    have g0 := hR4.frozen 0
    have g1 := hR4.frozen 1
    have hlt4 := hR4.lt
    clear hR3 hC3 hC4 hR4
    go_wp2
    refine bodyPost_ret (v := .agg #[.slice C n3 k, .slice B mm d]) (by simp [results, Tryz.results34, go_sem, r0, r1]) rfl ?_
    have hA : ∀ S : Nat → Prop, (¬ S w.heap.size) → (¬ S w1.heap.size) → Agree S w3 (((w3.setCell ⟨w1.heap.size, 0, none⟩ (.slice C n3 k)).setCell ⟨w.heap.size, 0, none⟩ (.slice C n3 k)).setCell ⟨w.heap.size, 1, none⟩ (.slice B mm d)) := fun S h1 h2 => (((Agree.refl _ _).setCell h2 _).setCell h1 _).setCell h1 _
    refine ⟨⟨⟨xs, g.goes⟩, _, _, rfl, ?_, ?_, HS3.out.1, by have := HL.out; show g.goes.length ≤ 6; omega, HS3.out.2, HM2.out⟩, (HR3.out.keep (hA _ (by omega) (by omega)) (by go_size)).le (by omega), ?_⟩
    · exact AtomsR.imp HV3.out (fromLe (by omega)) (hA _ (by simp; omega) (by simp; omega)) (by go_size)
    · have h1 := HU3.out.agree (w' := ((w3.setCell ⟨w1.heap.size, 0, none⟩ (.slice C n3 k)).setCell ⟨w.heap.size, 0, none⟩ (.slice C n3 k)).setCell ⟨w.heap.size, 1, none⟩ (.slice B mm d)) (hA _ (fun h => by have := h.1; omega) (fun h => by have := h.2; omega)) (fun x hx => by
        have hx1 := (HU3.out.at_ x hx).1
        have hx2 := (HG.out x hx).2
        exact ((Below.heap_setCell _ _ _ _ (by simp only; omega)).trans (Below.heap_setCell _ _ _ _ (by simp only; omega))).trans (Below.heap_setCell _ _ _ _ (by simp only; omega))) (by go_size)
      exact h1.list (S' := From w.heap.size) (fun b hb => by have := hb.1; show w.heap.size ≤ b; omega) (fun b hb => by show w.heap.size ≤ b; omega)
    · exact ⟨HE3.out.os, HE3.out.tape, HE3.out.output, by have := HE3.out.size; go_size, fun k hk hne => (hA (fun b => b < w.heap.size) (by omega) (by omega) k hk (Nat.lt_of_lt_of_le hk HE3.out.size)).trans (HE3.out.block k hk hne)⟩
  · -- as it is
    refine bodyPost_ret (v := .agg #[.slice A nn c, .slice B mm d]) (by simp [results, Tryz.results34, go_sem, r0, r1]) rfl ?_
    have hA : ∀ S : Nat → Prop, (¬ S w.heap.size) → Agree S w2 ((w2.setCell ⟨w.heap.size, 0, none⟩ (.slice A nn c)).setCell ⟨w.heap.size, 1, none⟩ (.slice B mm d)) := fun S h1 => ((Agree.refl _ _).setCell h1 _).setCell h1 _
    refine ⟨⟨g, _, _, rfl, ?_, ?_, by have := HL.out; omega, by have := HL.out; omega, HM1.out, HM2.out⟩, (HR2.out.keep (hA _ (by omega)) (by go_size)).le (by omega), ?_⟩
    · exact AtomsR.imp HV2.out (fun b hb => by have h := hb.1; simp only [World.size_alloc] at h; show w.heap.size ≤ b; omega) (hA _ (fun h => by have h := h.1; simp only [World.size_alloc] at h; omega)) (by go_size)
    · have h1 := HU2.out.agree (w' := (w2.setCell ⟨w.heap.size, 0, none⟩ (.slice A nn c)).setCell ⟨w.heap.size, 1, none⟩ (.slice B mm d)) (hA _ (fun h => by have := h.1; omega)) (fun x hx => by
        have hx1 := (HU2.out.at_ x hx).1
        exact (Below.heap_setCell _ _ _ _ (by simp only; omega)).trans (Below.heap_setCell _ _ _ _ (by simp only; omega))) (by go_size)
      exact h1.list (S' := From w.heap.size) (fun b hb => by have := hb.1; show w.heap.size ≤ b; omega) (fun b hb => by show w.heap.size ≤ b; omega)
    · exact ⟨HE2.out.os, HE2.out.tape, HE2.out.output, by have := HE2.out.size; go_size, fun k hk hne => (hA (fun b => b < w.heap.size) (by omega) k hk (Nat.lt_of_lt_of_le hk HE2.out.size)).trans (HE2.out.block k hk hne)⟩

set_option maxHeartbeats 1000000 in
theorem drawChangePut_any (v : Value) (xs : List UInt8) (w : World) {S : Nat → Prop} (hv : BytesR S w v xs) :
    Calls Tryz.prog 7 #[v] w fun e w' =>
      (∃ (g : GC) (v u : Value), e = .returned (.agg #[v, u]) ∧ AtomsR (From w.heap.size) w' v g.comes ∧ AtomsR (From w.heap.size) w' u g.goes ∧ (changeL g).length ≤ 4194304) ∧ Ext w w' := by
  obtain ⟨A, c, rfl, hc1, hc2⟩ := SliceR.form hv
  have HV := Lib.hid (hv.ext ((Ext.refl w).alloc (.cells #[.slice none 0 0, .slice none 0 0] 25)))
  have HB := Lib.hid (Blk.new w 25 #[.slice none 0 0, .slice none 0 0])
  clear hv
  go_enter Tryz.func7, Tryz.ntmps7
  go_wp2_with (first
    | (go_at_call 35; refine (l1Open_any _ xs _ HV.out).mono ?_; rintro e w1 ⟨rb, rfl, hr1, hx1, hrb⟩
       have HR1 := Lib.hid (show Rd w1 rb 0 from ⟨0, Nat.le_refl _, hr1⟩)
       have HX1 := Lib.hid (((Ext.refl w).alloc (.cells #[.slice none 0 0, .slice none 0 0] 25)).trans' hx1)
       have HB1 := Lib.hid (HB.out.ext hx1)
       simp only [World.size_alloc] at hrb
       clear hr1 hx1)
    | (go_at_call 34; refine (l10AnyChange_any rb 0 _ HR1.out (by omega)).mono ?_; rintro e w2 ⟨⟨g, v2, u2, rfl, hv2, hu2, hl1, hl2, hs1, hs2⟩, hr2, he2⟩
       obtain ⟨B, d, rfl, hd1, hd2⟩ := SliceR.form hv2
       obtain ⟨C, f, rfl, hf1, hf2⟩ := SliceR.form hu2
       have HV2 := Lib.hid hv2
       have HU2 := Lib.hid hu2
       have hb2 := HB1.out.else_ he2 (by omega)
       have q0 := hb2.cell 0
       have q1 := hb2.cell 1
       have g0 := hb2.frozen 0
       have g1 := hb2.frozen 1
       have hlt2 := hb2.lt
       have hlt1 := HB1.out.lt
       have HX2 := Lib.hid (Else.toExt HX1.out he2 (by omega))
       have HL := Lib.hid (show (changeL g).length ≤ 4194304 from mids_text hl1 hl2 hs1 hs2)
       clear hv2 hu2 hb2 hr2 he2 hs1 hs2))
  refine bodyPost_ret (v := .agg #[.slice B g.comes.length d, .slice C g.goes.length f]) (by simp [results, Tryz.results7, go_sem, q0, q1]) rfl ?_
  have hA : ∀ S : Nat → Prop, (¬ S w.heap.size) → Agree S w2 ((w2.setCell ⟨w.heap.size, 0, none⟩ (.slice B g.comes.length d)).setCell ⟨w.heap.size, 1, none⟩ (.slice C g.goes.length f)) := fun S hS => ((Agree.refl _ _).setCell hS _).setCell hS _
  exact ⟨⟨g, _, _, rfl, AtomsR.imp HV2.out (fromLe (by omega)) (hA _ (by simp; omega)) (by go_size), AtomsR.imp HU2.out (fromLe (by omega)) (hA _ (by simp; omega)) (by go_size), HL.out⟩, Ext.setNew (Ext.setNew HX2.out (Nat.le_refl _) _) (Nat.le_refl _) _⟩

end Go.Proofs.YthndnkafckapnaaGreatDoor
