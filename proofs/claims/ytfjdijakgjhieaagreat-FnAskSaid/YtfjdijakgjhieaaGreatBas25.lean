/- Part of the texts of a proof: own texts joined in the order of their building; what they say stands at each theorem. -/
import Derived.Test.YtfjdijakgjhieaaGreatBas24
import Derived.Test.YtfjdijakgjhieaaGreatBas21
import Derived.Test.YtfjdijakgjhieaaGreatBas04
import Derived.Test.YtfjdijakgjhieaaGreatBas02
import Derived.Test.YtfjdijakgjhieaaGreatBas23
import Derived.Test.YtfjdijakgjhieaaGreatBas07
import Derived.BigQuiet
import Derived.Deep.QuietTactic
set_option linter.unusedSimpArgs false
set_option linter.unusedVariables false
namespace Go.Proofs.YtfjdijakgjhieaaGreat
open Go.RowKit

theorem Else.below {rb n : Nat} {a b c : World} (h : Else rb a b) (k : Below n b c) (hn : a.heap.size ≤ n) : Else rb a c :=
 ⟨k.os.trans h.os, k.tape.trans h.tape, k.output.trans h.output, Nat.le_trans h.size k.size, fun i hi hne => (k.block i (Nat.lt_of_lt_of_le hi hn)).trans (h.block i hi hne)⟩
theorem Rd.below {rb n m : Nat} {b c : World} (h : Rd b rb m) (k : Below n b c) (hn : rb < n) : Rd c rb m := h.keep (fun i hi hlt => k.block i (by have : i ≤ rb := hi; omega)) k.size
def mids (xs : List GA) : Prop := ∀ x ∈ xs, mid x
theorem small_mid {a : GA} (h : small a) : mid a := ⟨Nat.le_trans h.1 (by omega), Nat.le_trans h.2.1 (by omega), fun t ht => Nat.le_trans (h.2.2 t ht) (by omega)⟩
theorem mids_put {xs : List GA} {a : GA} (h : mids xs) (ha : mid a) : mids (putA xs a) := fun x hx => by
 rcases putA_mem hx with h1 | rfl
 · exact h x h1
 · exact ha
theorem mids_snoc {xs : List GA} {a : GA} (h : mids xs) (ha : mid a) : mids (xs ++ [a]) := fun x hx => by
 rcases List.mem_append.1 hx with h1 | h1
 · exact h x h1
 · simp at h1; subst h1; exact ha

theorem terms_two {w : World} {g : Nat} {x y : ByteArray} (hb : Blk w g 33 #[.bool false, .string x, .bool false, .string y]) (hx : x.size ≤ 1000) (hy : y.size ≤ 1000) :
 TermsR (From g) w (.slice (some ⟨g, 0, none⟩) 2 2) [⟨false, x⟩, ⟨false, y⟩] := by
 refine ⟨_, 2, rfl, Nat.le_refl _, maxOf (by omega), fun _ => ⟨g, 0, rfl, hb.lt, Nat.le_refl _, fun i t ht => ?_⟩⟩
 match i, ht with
 | 0, ht =>
   simp at ht; subst ht
   refine ⟨[.bool false, .string x], rfl, fun j u hu => ?_, rfl, maxOf (show x.size ≤ _ by omega)⟩
   match j, hu with
   | 0, hu => simp at hu; subst hu; rw [hb.cell]; rfl
   | 1, hu => simp at hu; subst hu; rw [hb.cell]; rfl
 | 1, ht =>
   simp at ht; subst ht
   refine ⟨[.bool false, .string y], rfl, fun j u hu => ?_, rfl, maxOf (show y.size ≤ _ by omega)⟩
   match j, hu with
   | 0, hu => simp at hu; subst hu; rw [hb.cell]; rfl
   | 1, hu => simp at hu; subst hu; rw [hb.cell]; rfl

def vName (i : Nat) : ByteArray := ⟨#[118, UInt8.ofNat (48 + i)]⟩
def vAtom (i k : Nat) : GA := ⟨⟨#[101]⟩, [⟨false, vName i⟩, ⟨false, vName k⟩]⟩
def manyL : Nat → List GA
 | 0 => []
 | t + 1 => putA (manyL t) (vAtom (t / 6) (t % 6))
theorem many_len : (manyL 42).length = 42 := by kernel_rfl
theorem many_le : ∀ t, (manyL t).length ≤ t
 | 0 => Nat.le_refl _
 | t + 1 => Nat.le_trans (putA_len _ _) (Nat.succ_le_succ (many_le t))
theorem mid_p : mid ⟨⟨#[112]⟩, [⟨false, ⟨#[97]⟩⟩, ⟨false, ⟨#[98]⟩⟩]⟩ := ⟨by decide, by decide, fun t ht => by
 simp only [List.mem_cons, List.not_mem_nil, or_false] at ht
 rcases ht with rfl | rfl <;> decide⟩
theorem vAtom_mid (i k : Nat) : mid (vAtom i k) := by
 refine ⟨by show 1 ≤ 9; omega, by show 2 ≤ 6; omega, fun t ht => ?_⟩
 simp only [vAtom, List.mem_cons, List.not_mem_nil, or_false] at ht
 rcases ht with rfl | rfl <;> exact (by show 2 ≤ 9; omega)
theorem many_mids : ∀ t, mids (manyL t)
 | 0 => fun x hx => by cases hx
 | t + 1 => mids_put (many_mids t) (vAtom_mid _ _)
theorem vName_dec (i : Nat) (h : i < 10) : (⟨#[118]⟩ : ByteArray) ++ strOf (Lib.decDigits i) = vName i := by
 rw [Lib.decDigits_one h, show (⟨#[118]⟩ : ByteArray) = strOf [118] from rfl, strOf_append]
 rfl

set_option maxRecDepth 100000 in
set_option maxHeartbeats 4000000 in
theorem l10AnyFacts_any (rb m : Nat) (w : World) (hr : Rd w rb m) (hp : m + 200 ≤ 1000000) :
 Calls Tryz.prog 59 #[.pointer (some ⟨rb, 0, none⟩)] w fun e w' =>
  (∃ (v : Value) (xs : List GA), e = .returned v ∧ AtomsR (From w.heap.size) w' v xs ∧ xs.length ≤ 41 ∧ mids xs) ∧ Rd w' rb (m + 200) ∧ Else rb w w' := by
 have hrl := hr.lt
 obtain ⟨i0, hi0, hz0, hz1, hz2⟩ := info_parts atom_info
 have HR := Lib.hid hr
 clear hr
 go_enter Tryz.func59, Tryz.ntmps59
 go_wp2_with (fail)
 refine (l10FactsK_any rb m 9 _ HR.out (by omega) (by omega)).mono ?_
 rintro e w1 ⟨⟨v, xs, rfl, hv1, hl1, hs1⟩, hr1, he1⟩
 obtain ⟨A, n, c, rfl, hn, hc1, hc2⟩ := hv1.form2
 have HR1 := Lib.hid hr1
 have HV1 := Lib.hid hv1
 have HE1 := Lib.hid he1
 have HM1 := Lib.hid (show mids xs from fun x hx => small_mid (hs1 x hx))
 have HN := Lib.hid hn.out
 clear hr1 hv1 he1 hs1 hn
 go_wp2_with (first
  | (go_at_call 60; refine (rdPick_any rb (m + 1 + 7 * 9) 20 _ (by omega) HR1.out (by omega)).mono ?_; rintro e w2 ⟨⟨z, hz, rfl⟩, hr2, he2⟩
     have HR2 := Lib.hid hr2
     have HV2 := Lib.hid (HV1.out.else_ he2 hrl (fun h => absurd (show w.heap.size ≤ rb from h) (by omega)))
     have HE2 := Lib.hid (HE1.out.trans' he2)
     have hz2' := (HE1.out.trans' he2).size
     clear hr2 he2))
 · -- one atom more
   refine (l10AnyAtom_any rb (m + 1 + 7 * 9 + 1) _ HR2.out (by omega)).mono ?_
   rintro e w3 ⟨⟨a, u, rfl, hu, ha⟩, hr3, he3⟩
   obtain ⟨B, d, rfl, hd1, hd2⟩ := SliceR.form hu
   have HA := Lib.hid ha
   have HU := Lib.hid hu
   have HR3 := Lib.hid hr3
   have HE3 := Lib.hid (HE2.out.trans' he3)
   have HV3 := Lib.hid (HV2.out.else_ he3 hrl (fun h => absurd (show w.heap.size ≤ rb from h) (by omega)))
   have HG := Lib.hid (HV2.out.at_)
   have hz3' := he3.size
   have has : a.n.size ≤ maxLen := maxOf (by have := ha.1; omega)
   clear hu hr3 he3 ha
   go_wp2_with (first
    | (at_builtin; refine wpList_appK (k := kAtom) (S := From w.heap.size) (T := From w2.heap.size) (base := w.heap.size) (xs := xs) (ys := [a]) rfl (.tmp 13) (.tmp 16) 23 (by rfl) i0 _ 40 Tryz.underlying23 hi0 hz0 hz1 hz2 (by rfl) (by rfl) (HV3.out.ext ((Ext.refl _).alloc _)) _ 1 1 (by rfl) (ElemsK.one (k := kAtom) (x := a) (Blk.new w3 26 #[.string a.n, .slice B a.args.length d]) ⟨_, rfl, has, HU.out.ext ((Ext.refl _).alloc _)⟩) (fun b hb _ => Nat.le_trans hz2' hb) (fun g hg hT => absurd (HG.out g hg).2 (Nat.not_lt.2 hT)) (maxOf (by omega)) (by omega) (by go_size) ?_
       intro v4 w4 hap
       obtain ⟨A4, n4, c4, rfl, hn4, ha4, hc4⟩ := hap.own.form2
       have HAP := Lib.hid hap
       clear hap))
   go_ret
   exact ⟨⟨_, xs ++ [a], rfl, HAP.out.own.list (S' := From w.heap.size) (fun _ h => h) (fun _ h => h), by simp; omega, mids_snoc HM1.out HA.out⟩, ((HR3.out.ext ((Ext.refl _).alloc _)).below HAP.out.below hrl).le (by omega), (HE3.out.trans' (Else.of_ext ((Ext.refl _).alloc _))).below HAP.out.below (Nat.le_refl _)⟩
 · -- one fact more
   refine (l10Fact_any rb (m + 1 + 7 * 9 + 1) _ HR2.out (by omega)).mono ?_
   rintro e w3 ⟨⟨a, u, rfl, hu, ha1, ha2⟩, hr3, he3⟩
   obtain ⟨B, d, rfl, hd1, hd2⟩ := SliceR.form hu
   have HA := Lib.hid (small_mid ⟨ha1, ha2⟩)
   have HU := Lib.hid hu
   have HR3 := Lib.hid hr3
   have HE3 := Lib.hid (HE2.out.trans' he3)
   have HV3 := Lib.hid (HV2.out.else_ he3 hrl (fun h => absurd (show w.heap.size ≤ rb from h) (by omega)))
   have HG := Lib.hid (HV2.out.at_)
   have hz3' := he3.size
   have has : a.n.size ≤ maxLen := maxOf (by omega)
   clear hu hr3 he3 ha1 ha2
   go_wp2_with (first
    | (at_builtin; refine wpList_appK (k := kAtom) (S := From w.heap.size) (T := From w2.heap.size) (base := w.heap.size) (xs := xs) (ys := [a]) rfl (.tmp 20) (.tmp 23) 23 (by rfl) i0 _ 40 Tryz.underlying23 hi0 hz0 hz1 hz2 (by rfl) (by rfl) (HV3.out.ext ((Ext.refl _).alloc _)) _ 1 1 (by rfl) (ElemsK.one (k := kAtom) (x := a) (Blk.new w3 26 #[.string a.n, .slice B a.args.length d]) ⟨_, rfl, has, HU.out.ext ((Ext.refl _).alloc _)⟩) (fun b hb _ => Nat.le_trans hz2' hb) (fun g hg hT => absurd (HG.out g hg).2 (Nat.not_lt.2 hT)) (maxOf (by omega)) (by omega) (by go_size) ?_
       intro v4 w4 hap
       obtain ⟨A4, n4, c4, rfl, hn4, ha4, hc4⟩ := hap.own.form2
       have HAP := Lib.hid hap
       clear hap))
   go_ret
   exact ⟨⟨_, xs ++ [a], rfl, HAP.out.own.list (S' := From w.heap.size) (fun _ h => h) (fun _ h => h), by simp; omega, mids_snoc HM1.out HA.out⟩, ((HR3.out.ext ((Ext.refl _).alloc _)).below HAP.out.below hrl).le (by omega), (HE3.out.trans' (Else.of_ext ((Ext.refl _).alloc _))).below HAP.out.below (Nat.le_refl _)⟩
 · -- a fact of a name with another number of terms
   have hb2 : Blk (w2.alloc (.cells #[.bool false, .string ⟨#[97]⟩, .bool false, .string ⟨#[98]⟩] 33)) w2.heap.size 33 #[.bool false, .string ⟨#[97]⟩, .bool false, .string ⟨#[98]⟩] := Blk.new _ _ _
   have ht : TermsR (From w2.heap.size) (w2.alloc (.cells #[.bool false, .string ⟨#[97]⟩, .bool false, .string ⟨#[98]⟩] 33)) (.slice (some ⟨w2.heap.size, 0, none⟩) 2 2) [⟨false, ⟨#[97]⟩⟩, ⟨false, ⟨#[98]⟩⟩] := terms_two hb2 (by decide) (by decide)
   refine (l3Put_any (S := From w.heap.size) (T := From w.heap.size) _ _ xs ⟨⟨#[112]⟩, [⟨false, ⟨#[97]⟩⟩, ⟨false, ⟨#[98]⟩⟩]⟩ _ ((HV2.out.list (S' := From w.heap.size) (fun _ h => h) (fun _ h => h)).ext ((Ext.refl _).alloc _)) (TermsR.sub ht (fromLe hz2')) (by decide) (by omega)).mono ?_
   rintro e w3 ⟨⟨v3, rfl, hv3⟩, hx3⟩
   have HV3 := Lib.hid (AtomsR.sub (S' := From w.heap.size) hv3 (fun b hb => hb.elim (fun h => Nat.le_trans hz2' (Nat.le_trans (by simp) h)) (fun h => h.elim id id)))
   have HX3 := Lib.hid (((Ext.refl w2).alloc (.cells #[.bool false, .string ⟨#[97]⟩, .bool false, .string ⟨#[98]⟩] 33)).trans' hx3)
   clear hv3 hx3 hb2 ht
   go_wp2
   go_ret
   have := putA_len xs ⟨⟨#[112]⟩, [⟨false, ⟨#[97]⟩⟩, ⟨false, ⟨#[98]⟩⟩]⟩
   exact ⟨⟨_, _, rfl, HV3.out, by omega, mids_put HM1.out mid_p⟩, (HR2.out.ext HX3.out).le (by omega), HE2.out.trans' (Else.of_ext HX3.out)⟩
 · -- many
   simp only [show ((z : Int) == 0) = false from by assumption, show ((z : Int) == 1) = false from by assumption, show ((z : Int) == 2) = false from by assumption, show ((z : Int) == 3) = true from by assumption]
   go_loopw [4, 5] (fun v i wr => ∃ k : Nat, i = .int .i64 k ∧ k ≤ 7 ∧ Hid (AtomsR (From w.heap.size) wr v (manyL (6 * k))) ∧ Ext w2 wr) (fun _ i _ => 7 - (intOf i).toNat)
   case atStart => exact ⟨0, rfl, by omega, SliceR.nil_ 0 (Nat.zero_le _) _, (Ext.refl w2).alloc _⟩
   case round =>
    obtain ⟨k, rfl, hk, hv, hx⟩ := hrel
    have hk0 : (0 : Int) ≤ (k : Int) := by omega
    obtain ⟨A1, c1, rfl, hc11, hc12⟩ := SliceR.form hv.out
    by_cases hlt : k < 7
    · obtain ⟨n1, hn1⟩ : ∃ n1, n1 = (manyL (6 * k)).length := ⟨_, rfl⟩
      rw [← hn1] at hv ⊢
      go_wp2
      simp only [show decide ((k : Int) < 7) = true from decide_eq_true (by omega)]
      go_loopw [4, 6] (fun v j wr => ∃ q : Nat, j = .int .i64 q ∧ q ≤ 6 ∧ Hid (AtomsR (From w.heap.size) wr v (manyL (6 * k + q))) ∧ Ext w2 wr) (fun _ j _ => 6 - (intOf j).toNat)
      case atStart => exact ⟨0, rfl, by omega, hv, hx⟩
      case round =>
       obtain ⟨q, rfl, hq, hv, hx⟩ := hrel
       have hq0 : (0 : Int) ≤ (q : Int) := by omega
       obtain ⟨A2, c2, rfl, hc21, hc22⟩ := SliceR.form hv.out
       obtain ⟨n2, hn2⟩ : ∃ n2, n2 = (manyL (6 * k + q)).length := ⟨_, rfl⟩
       have hml := many_le (6 * k + q)
       rw [← hn2] at hv hc21 ⊢
       by_cases hqt : q < 6
       · obtain ⟨d1, hd1⟩ : ∃ d1, d1 = strOf (Lib.decDigits k) := ⟨_, rfl⟩
         obtain ⟨d2, hd2⟩ : ∃ d2, d2 = strOf (Lib.decDigits q) := ⟨_, rfl⟩
         have hs1 : d1.size ≤ 10 := by rw [hd1, strOf_size]; exact dec_len k (by omega)
         have hs2 : d2.size ≤ 10 := by rw [hd2, strOf_size]; exact dec_len q (by omega)
         have HC1 := Lib.hid (fun W => show Calls Tryz.prog 94 #[.int .i64 k] W fun e w' => e = .returned (.string d1) ∧ Ext W w' from hd1 ▸ l1Dec_any k W hk0 (by omega))
         have HC2 := Lib.hid (fun W => show Calls Tryz.prog 94 #[.int .i64 q] W fun e w' => e = .returned (.string d2) ∧ Ext W w' from hd2 ▸ l1Dec_any q W hq0 (by omega))
         have HV1 := Lib.hid (show (⟨#[118]⟩ : ByteArray) ++ d1 = vName k from hd1 ▸ vName_dec k (by omega))
         have HV2' := Lib.hid (show (⟨#[118]⟩ : ByteArray) ++ d2 = vName q from hd2 ▸ vName_dec q (by omega))
         have hlen : n2 ≤ 4194304 := by omega
         have HL := Lib.hid hn2
         have HM2 := Lib.hid (show putA (manyL (6 * k + q)) (vAtom k q) = manyL (6 * k + (q + 1)) from by
          show _ = putA (manyL (6 * k + q)) (vAtom ((6 * k + q) / 6) ((6 * k + q) % 6))
          rw [show (6 * k + q) / 6 = k from by omega, show (6 * k + q) % 6 = q from by omega])
         have tok : True := trivial
         clear hd1 hd2 hn2
         go_wp2_with (first
          | (go_at_call 94; have _t := tok; refine (HC1.out _).mono ?_; clear tok _t; rintro e w3 ⟨rfl, hx3⟩
             have HX3 := Lib.hid hx3
             clear hx3)
          | (go_at_call 94; refine (HC2.out _).mono ?_; rintro e w4 ⟨rfl, hx4⟩
             have HX4 := Lib.hid (HX3.out.trans' hx4)
             have HB4 := Lib.hid (Blk.new w4 33 #[.bool false, .string (⟨#[118]⟩ ++ d1), .bool false, .string (⟨#[118]⟩ ++ d2)])
             have HT4 := Lib.hid (show TermsR (From w4.heap.size) (w4.alloc (.cells #[.bool false, .string (⟨#[118]⟩ ++ d1), .bool false, .string (⟨#[118]⟩ ++ d2)] 33)) (.slice (some ⟨w4.heap.size, 0, none⟩) 2 2) (vAtom k q).args from by
              have h := terms_two HB4.out (by rw [HV1.out]; show 2 ≤ 1000; omega) (by rw [HV2'.out]; show 2 ≤ 1000; omega)
              unfold vAtom
              rw [← HV1.out, ← HV2'.out]
              exact h)
             have hz4 := (HX3.out.trans' hx4).size
             clear hx4)
          | (go_at_call 93; refine (l3Put_any (S := From w.heap.size) (T := From w.heap.size) _ _ (manyL (6 * k + q)) (vAtom k q) _ (hv.out.ext (HX4.out.alloc _)) (TermsR.sub HT4.out (fromLe (Nat.le_trans (Nat.le_trans hz2' hx.size) hz4))) (show 1 ≤ maxLen from maxOf (by omega)) (by rw [← HL.out]; exact hlen)).mono ?_; rintro e w5 ⟨⟨v5, rfl, hv5⟩, hx5⟩
             have HV5 := Lib.hid (AtomsR.sub (S' := From w.heap.size) hv5 (fun b hb => hb.elim (fun h => Nat.le_trans (Nat.le_trans (Nat.le_trans hz2' hx.size) hz4) (Nat.le_trans (by simp) h)) (fun h => h.elim id id)))
             have HX5 := Lib.hid ((HX4.out.alloc _).trans' hx5)
             clear hv5 hx5))
         go_roundw
         case rel => exact ⟨q + 1, by go_num, by omega, (by rw [← HM2.out]; exact HV5), hx.trans' HX5.out⟩
         case measure => simp [intOf]; omega
       · have hq6 : q = 6 := by omega
         subst hq6
         have HV6 := Lib.hid (show AtomsR (From w.heap.size) wr (.slice A2 n2 c2) (manyL (6 * (k + 1))) from by
          rw [show 6 * (k + 1) = 6 * k + 6 from by omega]; exact hv.out)
         clear hn2
         go_wp2
         go_roundw
         case rel => exact ⟨k + 1, by go_num, by omega, HV6, hx⟩
         case measure => simp [intOf]; omega
    · have hk7 : k = 7 := by omega
      subst hk7
      have h42 : (manyL (6 * 7)).length = 42 := many_len
      rw [h42] at hc11 hv ⊢
      have HR5 := Lib.hid (HR2.out.ext hx)
      go_wp2_with (first
       | (go_at_call 60; refine (rdPick_any rb (m + 1 + 7 * 9 + 1) 2 _ (by omega) HR5.out (by omega)).mono ?_; rintro e w6 ⟨⟨z6, hz6, rfl⟩, hr6, he6⟩
          have HR6 := Lib.hid hr6
          have HE6 := Lib.hid ((HE2.out.trans' (Else.of_ext hx)).trans' he6)
          have HV6 := Lib.hid (AtomsR.imp hv.out (fun _ h => h) (he6.from_ hrl) he6.size)
          have hz60 : (0 : Int) ≤ (z6 : Int) := (by omega)
          have hz61 : (z6 : Int) ≤ 1 := (by omega)
          have hcc : (42 : Int) ≤ (c1 : Int) := (by omega)
          have hw6 : IntKind.i64.wrap (40 + (z6 : Int)) = 40 + (z6 : Int) := (by rw [IntKind.wrap_i64]; omega)
          clear hr6 he6))
      have hz6' : z6 ≤ 1 := by omega
      refine bodyPost_ret (v := .slice A1 (40 + z6) c1) (by simp [results, Tryz.results59, go_sem]) rfl ?_
      exact ⟨⟨_, (manyL (6 * 7)).take (40 + z6), rfl, SliceR.take HV6.out (40 + z6) (by omega), by rw [List.length_take]; omega, fun x hx => many_mids _ x (List.mem_of_mem_take hx)⟩, HR6.out.le (by omega), HE6.out⟩
 · refine bodyPost_ret (v := .slice A n c) (by simp [results, Tryz.results59, go_sem]) rfl ?_
   exact ⟨⟨_, xs, rfl, HV2.out.list (S' := From w.heap.size) (fun _ h => h) (fun _ h => h), by omega, HM1.out⟩, HR2.out.le (by omega), HE2.out⟩

theorem OwnK.low {α : Type} {k : Kind α} {S : Nat → Prop} {w : World} {v : Value} {xs : List α} {base : Nat} {e : TypeId} (h : OwnK k base e S w v xs) : OwnK k base e (fun b => S b ∧ b < w.heap.size) w v xs := by
 obtain ⟨rows, T, h1, h2, h3, h4⟩ := h
 exact ⟨rows, T, h1, h2, fun b hb => ⟨h3 b hb, (h3 b hb).2⟩, h4⟩
end Go.Proofs.YtfjdijakgjhieaaGreat

namespace Go.Proofs.YtfjdijakgjhieaaGreat
open Go.RowKit

def midP (ps : List GP) : Prop := ∀ p ∈ ps, mid p.atom ∧ p.atom.args.length ≤ 3
theorem midP_snoc {ps : List GP} {p : GP} (h : midP ps) (hp : mid p.atom ∧ p.atom.args.length ≤ 3) : midP (ps ++ [p]) := fun x hx => by
 rcases List.mem_append.1 hx with h1 | h1
 · exact h x h1
 · simp at h1; subst h1; exact hp

set_option maxRecDepth 100000 in
set_option maxHeartbeats 4000000 in
theorem l10Body_any (rb m : Nat) (v : Value) (xs : List ByteArray) (w : World) (hv : StrsR (fun b => b ≠ rb) w v xs) (hn : 1 ≤ xs.length ∧ xs.length ≤ 1000000) (hs : ∀ s ∈ xs, s.size ≤ 9) (hr : Rd w rb m) (hp : m + 30 ≤ 1000000) :
 Calls Tryz.prog 64 #[.pointer (some ⟨rb, 0, none⟩), v] w fun e w' =>
  (∃ (u : Value) (ps : List GP), e = .returned u ∧ OwnK kPart w.heap.size 37 (From w.heap.size) w' u ps ∧ 1 ≤ ps.length ∧ ps.length ≤ 3 ∧ midP ps) ∧ Rd w' rb (m + 30) ∧ Else rb w w' := by
 obtain ⟨A, c, rfl, hc1, hc2⟩ := SliceR.form hv
 have hrl := hr.lt
 obtain ⟨i0, hi0, hz0, hz1, hz2⟩ := info_parts part_info
 have HR := Lib.hid hr
 have HV := Lib.hid hv
 have HS := Lib.hid hs
 clear hr hv hs
 go_enter Tryz.func64, Tryz.ntmps64
 go_wp2_with (first
  | (go_at_call 60; refine (rdPick_any rb m 3 _ (by omega) (HR.out.ext ((Ext.refl _).alloc _)) (by omega)).mono ?_; rintro e w1 ⟨⟨z, hz, rfl⟩, hr1, he1⟩
     have HR1 := Lib.hid hr1
     have HE1 := Lib.hid ((Else.of_ext (rb := rb) ((Ext.refl w).alloc (.cells #[] 37))).trans' he1)
     have HO1 := Lib.hid (OwnK.else_ (OwnK.empty (k := kPart) (w := w) (e := 37) (S := From w.heap.size) rfl (Nat.le_refl _)) he1 hrl (fun h => absurd (show w.heap.size ≤ rb from h) (by omega)))
     have hzi : IntKind.i64.wrap (1 + (z : Int)) = 1 + (z : Int) := (by rw [IntKind.wrap_i64]; omega)
     clear hr1 he1)
  | fail)
 go_loopw [5, 6] (fun o i wr => ∃ (k : Nat) (ps : List GP), i = .int .i64 k ∧ ps.length + k ≤ 3 ∧ 1 ≤ ps.length + k ∧ Hid (OwnK kPart w.heap.size 37 (From w.heap.size) wr o ps) ∧ Hid (midP ps) ∧ Hid (Rd wr rb (m + 1 + 8 * ps.length)) ∧ Hid (Else rb w wr)) (fun _ i _ => (intOf i).toNat)
 case atStart => exact ⟨1 + z, [], by simp, by simp; omega, by simp, HO1, Lib.hid (fun p hp => by cases hp), Lib.hid (HR1.out.le (by omega)), HE1⟩
 case round =>
  obtain ⟨k, ps, rfl, hk, hkp, ho, hm, hr, he⟩ := hrel
  have hk0 : (0 : Int) ≤ (k : Int) := by omega
  obtain ⟨O, n0, c0, rfl, hn0, ha0, hb0⟩ := ho.out.form2
  by_cases hlt : 0 < k
  · have hlt' : (0 : Int) < (k : Int) := by omega
    obtain ⟨M, hM⟩ : ∃ M, M = m + 1 + 8 * ps.length := ⟨_, rfl⟩
    rw [← hM] at hr
    have hM1 : M + 8 ≤ 1000000 := by omega
    have hwr := he.out.size
    have HN0 := Lib.hid hn0.out
    have hn1 : n0 ≤ 3 := by rw [hn0.out]; omega
    clear hn0
    go_wp2_with (first
     | (go_at_call 60; refine (rdPick_any rb M 6 _ (by omega) hr.out (by omega)).mono ?_; rintro e w1 ⟨⟨z6, hz6, rfl⟩, hr1, he1⟩
        have HR2 := Lib.hid hr1
        have HE2 := Lib.hid (he.out.trans' he1)
        have HF2 := Lib.hid he1
        clear hr1 he1)
     | (go_at_call 98; refine (of_any rb (M + 1) _ xs _ (StrsR.imp HV.out (fun _ h => h) HE2.out.agree HE2.out.size) hn HR2.out (by omega)).mono ?_; rintro e w2 ⟨⟨s, hs, hs2, rfl⟩, hr2, he2⟩
        have hs9 := HS.out s hs
        have HR3 := Lib.hid hr2
        have HE3 := Lib.hid (HE2.out.trans' he2)
        have HF3 := Lib.hid (HF2.out.trans' he2)
        clear hr2 he2 hs)
     | (go_at_call 99; refine (l10AtomVars_any rb (M + 2) s _ (by omega) HR3.out (by omega)).mono ?_; rintro e w3 ⟨⟨v3, ts, rfl, ht3, hti⟩, hr3, he3⟩
        obtain ⟨T, n3, c3, rfl, hn3, ha3, hb3⟩ := ht3.form2
        have HT3 := Lib.hid ht3
        have HTI := Lib.hid hti
        have HR4 := Lib.hid hr3
        have HE4 := Lib.hid (HE3.out.trans' he3)
        have HF4 := Lib.hid (HF3.out.trans' he3)
        have HO4 := Lib.hid (OwnK.else_ ho.out (HF3.out.trans' he3) hrl (fun h => absurd (show w.heap.size ≤ rb from h) (by omega)))
        have HLOW := Lib.hid (show ∀ g, (Value.slice O n0 c0).ownBlock = some g → g < wr.heap.size from fun g hg => (ho.out.at_ g hg).2)
        have hw4 := (HF3.out.trans' he3).size
        have hw2 := HF3.out.size
        have hw3 := he3.size
        clear ht3 hti hr3 he3)
     | (at_builtin; refine wpList_appK (k := kPart) (S := From w.heap.size) (T := From wr.heap.size) (base := w.heap.size) (xs := ps) (ys := [⟨_, ⟨s, ts⟩⟩]) rfl (.tmp 15) (.tmp 30) 38 (by rfl) i0 _ 48 Tryz.underlying38 hi0 hz0 hz1 hz2 (by rfl) (by rfl) (HO4.out.alloc _) _ 1 1 (by rfl) (ElemsK.one (k := kPart) (x := ⟨_, ⟨s, ts⟩⟩) (Blk.new w3 37 #[.bool _, .string s, .slice T n3 c3]) ⟨_, rfl, hs2, (HT3.out.list (S' := From wr.heap.size) (fun _ h => h.elim) (fun b hb => by show wr.heap.size ≤ b; have : w2.heap.size + 2 ≤ b := hb; omega)).ext ((Ext.refl _).alloc _)⟩) (fun b hb _ => Nat.le_trans hwr hb) (fun g hg hT => absurd (HLOW.out g hg) (Nat.not_lt.2 hT)) (by unfold maxLen; omega) (by omega) (by go_size) ?_
        intro v5 w5 hap
        have HAP := Lib.hid hap
        clear hap))
    all_goals go_roundw
    all_goals first
     | (exact ⟨k - 1, _, by congr 1; omega, by rw [List.length_append]; simp; omega, by rw [List.length_append]; simp; omega, Lib.hid HAP.out.own, Lib.hid (midP_snoc hm.out ⟨⟨by omega, by have := HTI.out.1; show ts.length ≤ 6; omega, fun t ht => Nat.le_trans (HTI.out.2 t ht) (by omega)⟩, HTI.out.1⟩), Lib.hid (((HR4.out.ext ((Ext.refl _).alloc _)).below HAP.out.below hrl).le (by rw [List.length_append]; simp; omega)), Lib.hid ((HE4.out.trans' (Else.of_ext ((Ext.refl _).alloc _))).below HAP.out.below (Nat.le_refl _))⟩)
     | (simp [intOf]; omega)
  · have hlt' : ¬ (0 : Int) < (k : Int) := by omega
    go_wp2
    go_ret
    exact ⟨⟨_, rfl, ps, ho.out, by omega, by omega, hm.out⟩, hr.out.le (by omega), he.out⟩

end Go.Proofs.YtfjdijakgjhieaaGreat

namespace Go.Proofs.YtfjdijakgjhieaaGreat
open Go.RowKit

theorem OwnK.elem {α : Type} {k : Kind α} {base : Nat} {e : TypeId} {S : Nat → Prop} {w : World} {A : Option Addr} {n c : Nat} {xs : List α} (h : OwnK k base e S w (.slice A n c) xs) {i : Nat} (hi : i < n) :
 ∃ (T : Nat → Prop) (b off : Nat) (x : α) (cs : List Value), A = some ⟨b, off, none⟩ ∧ b < w.heap.size ∧ xs[i]? = some x ∧ (∀ (j : Nat) (u : Value), cs[j]? = some u → w.cell? ⟨b, off + (i * k.size + j), none⟩ = some u) ∧ k.E T w cs x ∧ (∀ b, T b → S b ∧ b < w.heap.size) ∧ ∀ g, (Value.slice A n c).ownBlock = some g → ¬ T g := by
 obtain ⟨rows, T, k1, k2, k3, k4⟩ := h
 obtain ⟨b, off, x, cs, hA, hb, hx, _, hc, hE⟩ := SliceR.at_ (own_slice (E := k.E T) k1 k2 rfl) hi
 exact ⟨T, b, off, x, cs, hA, hb, hx, hc, hE, k3, k4⟩
def lenV : Value → Nat
 | .slice _ n _ => n
 | _ => 0

def namesB : List ByteArray := [⟨#[101]⟩, ⟨#[112]⟩, ⟨#[116]⟩, ⟨#[113]⟩, ⟨#[114]⟩, ⟨#[122]⟩, ⟨#[101]⟩]
theorem namesB_small : ∀ s ∈ namesB, s.size ≤ 9 := by decide

set_option maxRecDepth 100000 in
set_option maxHeartbeats 4000000 in
theorem l10AnyBody_any (rb m : Nat) (w : World) (hr : Rd w rb m) (hp : m + 90 ≤ 1000000) :
 Calls Tryz.prog 65 #[.pointer (some ⟨rb, 0, none⟩)] w fun e w' =>
  (∃ (u : Value) (ps : List GP), e = .returned u ∧ PartsR (From w.heap.size) w' u ps ∧ ps.length ≤ 6) ∧ Rd w' rb (m + 90) ∧ Else rb w w' := by
 have hrl := hr.lt
 obtain ⟨i0, hi0, hz0, hz1, hz2⟩ := info_parts part_info
 have HR := Lib.hid hr
 have HNM := Lib.hid (show StrsR (fun b => b ≠ rb) (w.alloc (.cells #[.string ⟨#[101]⟩, .string ⟨#[112]⟩, .string ⟨#[116]⟩, .string ⟨#[113]⟩, .string ⟨#[114]⟩, .string ⟨#[122]⟩, .string ⟨#[101]⟩] 9)) (.slice (some ⟨w.heap.size, 0, none⟩) 7 7) namesB from strs_at _ namesB rfl rfl hr (fun s hs => Nat.le_trans (namesB_small s hs) (by omega)) (by simp [namesB]) _ rfl)
 clear hr
 go_enter Tryz.func65, Tryz.ntmps65
 go_wp2_with (first
  | (go_at_call 64; refine (l10Body_any rb m _ namesB _ HNM.out (by simp [namesB]) namesB_small (HR.out.ext ((Ext.refl _).alloc _)) (by omega)).mono ?_; rintro e w1 ⟨⟨v1, ps, rfl, ho1, hl1, hl2, hm1⟩, hr1, he1⟩
     obtain ⟨O, n0, c0, rfl, hn0, ha0, hb0⟩ := ho1.form2
     have HO1 := Lib.hid (ho1.sub (base' := w.heap.size) (S' := From w.heap.size) (by simp) (fun b hb => by have : _ ≤ b := hb; simp at this; show w.heap.size ≤ b; omega))
     have HR1 := Lib.hid hr1
     have HM1 := Lib.hid hm1
     have HN0 := Lib.hid hn0.out
     have hn1 : 1 ≤ n0 ∧ n0 ≤ 3 := by rw [hn0.out]; exact ⟨hl1, hl2⟩
     have HE1 := Lib.hid ((Else.of_ext (rb := rb) ((Ext.refl w).alloc _)).trans' he1)
     clear ho1 hr1 hm1 hn0 he1)
  | fail)
 have hw1 := HE1.out.size
 go_wp2_with (first
  | (go_at_call 60; refine (rdPick_any rb (m + 30) 12 _ (by omega) HR1.out (by omega)).mono ?_; rintro e w2 ⟨⟨z, hz, rfl⟩, hr2, he2⟩
     have HR2 := Lib.hid hr2
     have HO2 := Lib.hid (OwnK.else_ HO1.out he2 hrl (fun h => absurd (show w.heap.size ≤ rb from h) (by omega)))
     have HE2 := Lib.hid (HE1.out.trans' he2)
     have hw2 := (HE1.out.trans' he2).size
     have HLOW := Lib.hid (show ∀ g, (Value.slice O n0 c0).ownBlock = some g → g < w2.heap.size from fun g hg => Nat.lt_of_lt_of_le (HO1.out.at_ g hg).2 he2.size)
     clear hr2 he2)
  | (go_at_call 72; refine (l10AnyAtom_any rb (m + 31) _ HR2.out (by omega)).mono ?_; rintro e w3 ⟨⟨a, u, rfl, hu, hma⟩, hr3, he3⟩
     obtain ⟨T, c3, rfl, ha3, hb3⟩ := SliceR.form hu
     have HR3 := Lib.hid hr3
     have HE3 := Lib.hid (HE2.out.trans' he3)
     have HO3 := Lib.hid (OwnK.else_ HO2.out he3 hrl (fun h => absurd (show w.heap.size ≤ rb from h) (by omega)))
     have HU := Lib.hid hu
     have has : a.n.size ≤ maxLen := maxOf (by have := hma.1; omega)
     have hw3 := he3.size
     clear hr3 he3 hu)
  | (at_builtin; refine wpList_appK (k := kPart) (S := From w.heap.size) (T := From w2.heap.size) (base := w.heap.size) (xs := ps) (ys := [⟨true, a⟩]) rfl (.tmp 14) (.tmp 18) 38 (by rfl) i0 _ 48 Tryz.underlying38 hi0 hz0 hz1 hz2 (by rfl) (by rfl) (HO3.out.alloc _) _ 1 1 (by rfl) (ElemsK.one (k := kPart) (x := ⟨true, a⟩) (Blk.new w3 37 #[.bool true, .string a.n, .slice T a.args.length c3]) ⟨_, rfl, has, HU.out.ext ((Ext.refl _).alloc _)⟩) (fun b hb _ => Nat.le_trans hw2 hb) (fun g hg hT => absurd (HLOW.out g hg) (Nat.not_lt.2 hT)) (by have := HN0.out; unfold maxLen; omega) (by have := HN0.out; omega) (by go_size) ?_
     intro v5 w5 hap
     have HAP := Lib.hid hap
     clear hap)
  | fail)
 · -- none
   refine bodyPost_ret (v := .slice (some ⟨w2.heap.size, 0, none⟩) 0 0) (by simp [results, Tryz.results65, go_sem]) rfl ?_
   exact ⟨⟨_, [], rfl, SliceR.nil_ 0 (Nat.zero_le _) _, by simp⟩, (HR2.out.ext ((Ext.refl _).alloc _)).le (by omega), HE2.out.trans' (Else.of_ext ((Ext.refl _).alloc _))⟩
 · -- one more, any
   refine bodyPost_ret (v := v5) (by simp [results, Tryz.results65, go_sem]) rfl ?_
   exact ⟨⟨_, _, rfl, HAP.out.own.list (S' := From w.heap.size) (fun _ h => h) (fun _ h => h), by simp; omega⟩, ((HR3.out.ext ((Ext.refl _).alloc _)).below HAP.out.below hrl).le (by omega), (HE3.out.trans' (Else.of_ext ((Ext.refl _).alloc _))).below HAP.out.below (Nat.le_refl _)⟩
 · -- too many
   simp only [show ((z : Int) == 0) = false from by assumption, show ((z : Int) == 1) = false from by assumption, show ((z : Int) == 2) = true from by assumption]
   have HN2 := HN0.out
   subst HN2
   go_loopw [3] (fun o wr => ∃ qs : List GP, 1 ≤ qs.length ∧ qs.length ≤ 5 ∧ Hid (OwnK kPart w.heap.size 37 (From w.heap.size) wr o qs) ∧ Hid (Rd wr rb (m + 31 + qs.length)) ∧ Hid (Else rb w wr)) (fun o _ => 6 - lenV o)
   case atStart => exact ⟨ps, by omega, by omega, HO2, Lib.hid (HR2.out.le (by omega)), HE2⟩
   case round =>
    obtain ⟨qs, hq1, hq5, ho, hr, he⟩ := hrel
    obtain ⟨Q, n1, c1, rfl, hn1', ha1, hb1⟩ := ho.out.form2
    obtain rfl := hn1'.out
    obtain ⟨M, hM⟩ : ∃ M, M = m + 31 + qs.length := ⟨_, rfl⟩
    rw [← hM] at hr
    have HMM := Lib.hid hM
    have hM1 : M ≤ m + 36 := by omega
    clear hM
    go_wp2_with (first
     | (go_at_call 60; refine (rdPick_any rb M 2 _ (by omega) hr.out (by omega)).mono ?_; rintro e w6 ⟨⟨z2, hzz2, rfl⟩, hr6, he6⟩
        have HR6 := Lib.hid hr6
        have HE6 := Lib.hid (he.out.trans' he6)
        have ho6 := OwnK.else_ ho.out he6 hrl (fun h => absurd (show w.heap.size ≤ rb from h) (by omega))
        obtain ⟨T, b, off, x, cs, rfl, hbl, hxk, hcs, ⟨vx, rfl, hxn, hxt⟩, hT1, hT2⟩ := ho6.elem (i := 0) (by omega)
        obtain ⟨X, cx, rfl, hcx1, hcx2⟩ := SliceR.form hxt
        have d0 := hcs 0 _ rfl
        have d1 := hcs 1 _ rfl
        have d2 := hcs 2 _ rfl
        simp only [Nat.zero_mul, Nat.zero_add, Nat.add_zero] at d0 d1 d2
        have hq0 : (0 : Int) < (qs.length : Int) := (by omega)
        have HO6 := Lib.hid ho6
        have HT := Lib.hid hxt
        have HT1 := Lib.hid hT1
        have HT2 := Lib.hid hT2
        have hw6' := HE6.out.size
        have hwz : IntKind.i64.wrap (4 + (z2 : Int)) = 4 + (z2 : Int) := (by rw [IntKind.wrap_i64]; omega)
        clear hr6 he6 ho6 hxt hT1 hT2 hcs hxk)
     | (at_builtin; refine wpList_appK (k := kPart) (S := From w.heap.size) (T := T) (base := w.heap.size) (xs := qs) (ys := [x]) rfl (.tmp 28) (.tmp 32) 38 (by rfl) i0 _ 48 Tryz.underlying38 hi0 hz0 hz1 hz2 (by rfl) (by rfl) (HO6.out.alloc _) _ 1 1 (by rfl) (ElemsK.one (k := kPart) (x := x) (Blk.new w6 37 #[.bool x.no, .string x.atom.n, .slice X x.atom.args.length cx]) ⟨_, rfl, hxn, HT.out.ext ((Ext.refl _).alloc _)⟩) (fun b hb _ => (HT1.out b hb).1) (fun g hg hT => HT2.out g hg hT) (by unfold maxLen; omega) (by omega) (by go_size) ?_
        intro v7 w7 hap
        obtain ⟨Q7, n7, c7, rfl, hn7, ha7, hb7⟩ := hap.own.form2
        have HAP := Lib.hid hap
        clear hap)
     | fail)
    · go_roundw
      case rel => exact ⟨qs ++ [x], by simp, by simp; omega, Lib.hid HAP.out.own, Lib.hid (((HR6.out.ext ((Ext.refl _).alloc _)).below HAP.out.below hrl).le (by rw [HMM.out]; simp; omega)), Lib.hid ((HE6.out.trans' (Else.of_ext ((Ext.refl _).alloc _))).below HAP.out.below (Nat.le_refl _))⟩
      case measure =>
       have h7 := hn7.out
       simp only [List.length_append, List.length_singleton] at h7
       show 6 - n7 < 6 - qs.length
       omega
    · refine bodyPost_ret (v := .slice (some ⟨b, off, none⟩) qs.length c1) (by simp [results, Tryz.results65, go_sem]) rfl ?_
      exact ⟨⟨_, qs, rfl, HO6.out.list (S' := From w.heap.size) (fun _ h => h) (fun _ h => h), by omega⟩, HR6.out.le (by have := HMM.out; omega), HE6.out⟩
 · -- as it is
   refine bodyPost_ret (v := .slice O n0 c0) (by simp [results, Tryz.results65, go_sem]) rfl ?_
   exact ⟨⟨_, ps, rfl, HO2.out.list (S' := From w.heap.size) (fun _ h => h) (fun _ h => h), by omega⟩, HR2.out.le (by omega), HE2.out⟩

end Go.Proofs.YtfjdijakgjhieaaGreat

namespace Go.Proofs.YtfjdijakgjhieaaGreat
open Go.RowKit

theorem terms_vars {w : World} {g : Nat} {x y : ByteArray} (hb : Blk w g 33 #[.bool true, .string x, .bool true, .string y]) (hx : x.size ≤ maxLen) (hy : y.size ≤ maxLen) :
 TermsR (From g) w (.slice (some ⟨g, 0, none⟩) 2 2) [⟨true, x⟩, ⟨true, y⟩] := by
 refine ⟨_, 2, rfl, Nat.le_refl _, by unfold maxLen; omega, fun _ => ⟨g, 0, rfl, hb.lt, Nat.le_refl _, fun i t hi => ?_⟩⟩
 rcases i with _ | _ | i
 · simp at hi; subst hi
   exact ⟨[.bool true, .string x], rfl, fun j u hu => by
    rcases j with _ | _ | j
    · simp at hu; subst hu; exact hb.cell 0
    · simp at hu; subst hu; exact hb.cell 1
    · simp at hu, rfl, hx⟩
 · simp at hi; subst hi
   exact ⟨[.bool true, .string y], rfl, fun j u hu => by
    rcases j with _ | _ | j
    · simp at hu; subst hu; exact hb.cell 2
    · simp at hu; subst hu; exact hb.cell 3
    · simp at hu, rfl, hy⟩
 · simp at hi

set_option maxRecDepth 100000 in
set_option maxHeartbeats 2000000 in
theorem l10Edge_any (n x y : ByteArray) (w : World) (hx : x.size ≤ maxLen) (hy : y.size ≤ maxLen) :
 Calls Tryz.prog 97 #[.string n, .string x, .string y] w fun e w' =>
  (∃ v, e = .returned (.agg #[.string n, v]) ∧ TermsR (From w.heap.size) w' v [⟨true, x⟩, ⟨true, y⟩]) ∧ Ext w w' := by
 go_enter Tryz.func97, Tryz.ntmps97
 go_wp2
 obtain ⟨W, hW⟩ : ∃ W, W = (w.alloc (.cells #[.string n, .slice (some ⟨w.heap.size + 1, 0, none⟩) 2 2] 26)).alloc (.cells #[.bool true, .string x, .bool true, .string y] 33) := ⟨_, rfl⟩
 have hb0 : Blk W w.heap.size 26 #[.string n, .slice (some ⟨w.heap.size + 1, 0, none⟩) 2 2] := by rw [hW]; exact (Blk.new _ _ _).alloc _
 have hb1 : Blk W (w.heap.size + 1) 33 #[.bool true, .string x, .bool true, .string y] := by rw [hW]; exact Blk.at_new (by simp)
 have hx1 : Ext w W := by rw [hW]; exact ((Ext.refl w).alloc _).alloc _
 rw [← hW]
 have q0 := hb0.cell 0
 have q1 := hb0.cell 1
 refine bodyPost_ret (v := .agg #[.string n, .slice (some ⟨w.heap.size + 1, 0, none⟩) 2 2]) (by simp [results, Tryz.results97, go_sem, q0, q1]) rfl ?_
 exact ⟨⟨_, rfl, TermsR.sub (terms_vars hb1 hx hy) (fromLe (by omega))⟩, hx1⟩

end Go.Proofs.YtfjdijakgjhieaaGreat

namespace Go.Proofs.YtfjdijakgjhieaaGreat
open Go.RowKit

theorem atomsOf_take {l : List GR} {k : Nat} {x : GR} (h : l[k]? = some x) : atomsOf (l.take (k + 1)) = atomsOf (l.take k) ++ ([x.head] ++ x.body.map (·.atom)) := by
 obtain ⟨hk, rfl⟩ := List.getElem?_eq_some_iff.1 h
 unfold atomsOf
 rw [List.take_succ_eq_append_getElem hk, List.map_append, List.flatten_append]
 simp [ruleAtoms]
theorem atomsOf_few : ∀ {l : List GR}, (∀ r ∈ l, r.body.length ≤ 4) → (atomsOf l).length ≤ 5 * l.length
 | [], _ => Nat.le_refl _
 | r :: l, h => by
   have h1 := atomsOf_few (l := l) (fun x hx => h x (List.mem_cons_of_mem _ hx))
   have h2 := h r (by simp)
   have e : atomsOf (r :: l) = ruleAtoms r ++ atomsOf l := by simp [atomsOf]
   rw [e, List.length_append]
   unfold ruleAtoms
   simp only [List.length_cons, List.length_map]
   omega

set_option maxRecDepth 100000 in
set_option maxHeartbeats 4000000 in
theorem l2Atoms_any (v : Value) (l : List GR) (w : World) {S : Nat → Prop} (hv : RulesR S w v l) (hl : l.length ≤ 8) (hb : ∀ r ∈ l, r.body.length ≤ 4) :
 Calls Tryz.prog 162 #[v] w fun e w' => (∃ v', e = .returned v' ∧ AtomsR Any w' v' (atomsOf l)) ∧ Ext w w' := by
 obtain ⟨A, c, rfl, hc1, hc2⟩ := SliceR.form hv
 obtain ⟨i0, hi0, hz0, hz1, hz2⟩ := info_parts atom_info
 have HV := Lib.hid (show RulesR (fun b => b < w.heap.size) w (.slice A l.length c) l from ListK.sub (k := kRule) (ListK.low (k := kRule) hv) (fun b hb => hb.2))
 have HBD := Lib.hid hb
 clear hv hb
 go_enter Tryz.func162, Tryz.ntmps162
 go_wp2
 go_loopw [3, 4] (fun o i wr => ∃ k : Nat, k ≤ l.length ∧ i = .int .i64 k ∧ Hid (OwnK kAtom w.heap.size 26 (fun b => b < w.heap.size) wr o (atomsOf (l.take k))) ∧ Ext w wr) (fun _ i _ => l.length - (intOf i).toNat)
 case atStart => exact ⟨0, Nat.zero_le _, rfl, OwnK.empty rfl (Nat.le_refl _), (Ext.refl _).alloc _⟩
 case round =>
  obtain ⟨k, hk, rfl, ho, hx⟩ := hrel
  have hk0 : (0 : Int) ≤ (k : Int) := by omega
  have hsz := hx.size
  have hfew : (atomsOf (l.take k)).length ≤ 40 := by
   have h := atomsOf_few (l := l.take k) (fun r hr => HBD.out r (List.mem_of_mem_take hr))
   rw [List.length_take] at h; omega
  obtain ⟨B, n0, d, rfl, hn0, hd1, hd2⟩ := ho.out.form2
  by_cases hlt : k < l.length
  · obtain ⟨b, off, x, v1, u1, rfl, hb, hxk, hxs, ht, hu, p0, p1, p2⟩ := RulesR.at_ HV.out hlt
    obtain ⟨C, e, rfl, he1, he2⟩ := SliceR.form ht
    obtain ⟨D, f, rfl, hf1, hf2⟩ := SliceR.form hu
    have r0 := (hx.cells.1 b (off + k * 3) hb).trans p0
    have r1 := (hx.cells.1 b (off + k * 3 + 1) hb).trans p1
    have r2 := (hx.cells.1 b (off + k * 3 + 2) hb).trans p2
    have P2 := Lib.hid p2
    clear p0 p1 p2
    have hb4 := HBD.out x (List.mem_of_getElem? hxk)
    have HT := Lib.hid ht
    have HU := Lib.hid hu
    have HST := Lib.hid (atomsOf_take hxk)
    have hk1 : (k : Int) < (l.length : Int) := by omega
    clear hxk ht hu
    go_wp2_with (first
     | (at_builtin; refine wpList_appK (k := kAtom) (S := fun b => b < w.heap.size) (T := fun b => b < w.heap.size) (base := w.heap.size) (xs := atomsOf (l.take k)) (ys := [x.head]) rfl (.tmp 13) (.tmp 19) 23 (by rfl) i0 _ 40 Tryz.underlying23 hi0 hz0 hz1 hz2 (by rfl) (by rfl) (ho.out.ext ((Ext.refl _).alloc _)) _ 1 1 (by rfl) (ElemsK.one (k := kAtom) (x := x.head) (Blk.new wr 26 #[.string x.head.n, .slice C x.head.args.length e]) ⟨_, rfl, hxs, HT.out.ext (hx.alloc _)⟩) (fun b hb _ => hb) (fun g hg hT => absurd (ho.out.at_ g hg).1 (Nat.not_le.2 hT)) (maxOf (by omega)) (by omega) (by go_size) ?_
        intro v2 w2 hap
        obtain ⟨B2, n2, d2, rfl, hn2, hd21, hd22⟩ := hap.own.form2
        have HO2 := Lib.hid hap.own
        have HX2 := Lib.hid (show Ext w w2 from hap.toExt (hx.alloc _) (Nat.le_refl _))
        clear hap))
    go_loopw [3, 5] (fun o i wr => ∃ j : Nat, j ≤ x.body.length ∧ i = .int .i64 j ∧ Hid (OwnK kAtom w.heap.size 26 (fun b => b < w.heap.size) wr o ((atomsOf (l.take k) ++ [x.head]) ++ (x.body.take j).map (·.atom))) ∧ Ext w wr) (fun _ i _ => x.body.length - (intOf i).toNat)
    case atStart => exact ⟨0, Nat.zero_le _, rfl, Lib.hid (by simpa using HO2.out), HX2.out⟩
    case round =>
     obtain ⟨j, hj, rfl, ho, hx⟩ := hrel
     have hj0 : (0 : Int) ≤ (j : Int) := by omega
     have hsz := hx.size
     have hlen : ((atomsOf (l.take k) ++ [x.head]) ++ (x.body.take j).map (·.atom)).length ≤ 45 := by
      simp only [List.length_append, List.length_map, List.length_take, List.length_cons, List.length_nil]; omega
     obtain ⟨B, n0, d, rfl, hn0, hd1, hd2⟩ := ho.out.form2
     have r2' := (hx.cells.1 b (off + k * 3 + 2) hb).trans P2.out
     by_cases hjt : j < x.body.length
     · obtain ⟨b', off', y, v3, rfl, hb', hyk, hys, hty, q0, q1, q2⟩ := PartsR.at_ HU.out hjt
       obtain ⟨E, g, rfl, hg1, hg2⟩ := SliceR.form hty
       have s0 := (hx.cells.1 b' (off' + j * 3) hb').trans q0
       have s1 := (hx.cells.1 b' (off' + j * 3 + 1) hb').trans q1
       have s2 := (hx.cells.1 b' (off' + j * 3 + 2) hb').trans q2
       have HTY := Lib.hid hty
       have HST2 := Lib.hid (show (x.body.take (j + 1)).map (·.atom) = (x.body.take j).map (·.atom) ++ [y.atom] from by
        obtain ⟨hj', rfl⟩ := List.getElem?_eq_some_iff.1 hyk
        rw [List.take_succ_eq_append_getElem hj', List.map_append]; rfl)
       clear hyk hty q0 q1 q2
       go_wp2_with (first
        | (at_builtin; refine wpList_appK (k := kAtom) (S := fun b => b < w.heap.size) (T := fun b => b < w.heap.size) (base := w.heap.size) (xs := (atomsOf (l.take k) ++ [x.head]) ++ (x.body.take j).map (·.atom)) (ys := [y.atom]) rfl (.tmp 31) (.tmp 41) 23 (by rfl) i0 _ 40 Tryz.underlying23 hi0 hz0 hz1 hz2 (by rfl) (by rfl) (ho.out.ext ((Ext.refl _).alloc _)) _ 1 1 (by rfl) (ElemsK.one (k := kAtom) (x := y.atom) (Blk.new _ 26 #[.string y.atom.n, .slice E y.atom.args.length g]) ⟨_, rfl, hys, HTY.out.ext (hx.alloc _)⟩) (fun b hb _ => hb) (fun g hg hT => absurd (ho.out.at_ g hg).1 (Nat.not_le.2 hT)) (maxOf (by omega)) (by omega) (by go_size) ?_
           intro v4 w4 hap
           obtain ⟨B4, n4, d4, rfl, hn4, hd41, hd42⟩ := hap.own.form2
           have HO4 := Lib.hid hap.own
           have HX4 := Lib.hid (show Ext w w4 from hap.toExt (hx.alloc _) (Nat.le_refl _))
           clear hap))
       go_roundw
       case rel => exact ⟨j + 1, by omega, by go_num, Lib.hid (by rw [HST2.out, ← List.append_assoc]; exact HO4.out), HX4.out⟩
       case measure => simp [intOf]; omega
     · have HE := Lib.hid (show (atomsOf (l.take k) ++ [x.head]) ++ (x.body.take j).map (·.atom) = atomsOf (l.take (k + 1)) from by
         rw [HST.out, List.take_of_length_le (show x.body.length ≤ j by omega), List.append_assoc])
       go_wp2
       go_roundw
       case rel => exact ⟨k + 1, by omega, by go_num, Lib.hid (by rw [← HE.out]; exact ho.out), hx⟩
       case measure => simp [intOf]; omega
  · have HP := Lib.hid (show atomsOf (l.take k) = atomsOf l from by rw [List.take_of_length_le (by omega)])
    go_wp2
    go_ret
    exact ⟨⟨_, rfl, by rw [← HP.out]; exact ho.out.list (fun _ _ => trivial) (fun _ _ => trivial)⟩, hx⟩

set_option maxRecDepth 100000 in
set_option maxHeartbeats 4000000 in
theorem l2Args_any (v : Value) (l : List GR) (w : World) {S : Nat → Prop} (hv : RulesR S w v l) (hl : l.length ≤ 8) (hb : ∀ r ∈ l, r.body.length ≤ 4) :
 Calls Tryz.prog 133 #[v] w fun e w' => e = .returned (.bool (argsB (atomsOf l))) ∧ Ext w w' := by
 have hc := l2Atoms_any v l w hv hl hb
 obtain ⟨A, c, rfl, hc1, hc2⟩ := SliceR.form hv
 have HC := Lib.hid hc
 obtain ⟨as1, has⟩ : ∃ as1, as1 = atomsOf l := ⟨_, rfl⟩
 have hfew : as1.length ≤ 40 := by have := atomsOf_few hb; rw [has]; omega
 rw [← has] at HC ⊢
 clear hv hc hb has
 go_enter Tryz.func133, Tryz.ntmps133
 go_wp2_with (go_at_call 162; refine HC.out.mono ?_; rintro e w1 ⟨⟨v1, rfl, hv1⟩, hx1⟩; obtain ⟨B, d, rfl, hd1, hd2⟩ := SliceR.form hv1; have HV := Lib.hid hv1; have HX := Lib.hid hx1; clear hv1 hx1)
 go_loopw [4, 5] (fun i _ wr => ∃ k : Nat, k ≤ as1.length ∧ i = .int .i64 k ∧ Hid (∀ (i j : Nat) (a b : GA), i < k → as1[i]? = some a → as1[j]? = some b → j < i → a.n = b.n → a.args.length = b.args.length) ∧ Ext w1 wr) (fun i _ _ => as1.length - (intOf i).toNat)
 case atStart => exact ⟨0, Nat.zero_le _, rfl, Lib.hid (fun i j a b h => absurd h (Nat.not_lt_zero _)), Ext.refl _⟩
 case round =>
  obtain ⟨k, hk, rfl, hp, hx⟩ := hrel
  have hk0 : (0 : Int) ≤ (k : Int) := by omega
  by_cases hlt : k < as1.length
  · obtain ⟨b, off, x, u, rfl, hb, hxk, hxs, ht, p0, p1⟩ := AtomsR.at_ HV.out hlt
    obtain ⟨C, e, rfl, he1, he2⟩ := SliceR.form ht
    have HXK := Lib.hid hxk
    have hk1 : (k : Int) < (as1.length : Int) := by omega
    have P0 := Lib.hid p0
    have P1 := Lib.hid p1
    clear hxk ht p0 p1
    go_wp2
    try simp only [show decide ((k : Int) < (as1.length : Int)) = true from decide_eq_true hk1]
    go_loopw [5] (fun j wr => ∃ q : Nat, q ≤ k ∧ j = .int .i64 q ∧ Hid (∀ (j : Nat) (b : GA), j < q → as1[j]? = some b → x.n = b.n → x.args.length = b.args.length) ∧ Ext w1 wr) (fun j _ => k - (intOf j).toNat)
    case atStart => exact ⟨0, Nat.zero_le _, rfl, Lib.hid (fun j b h => absurd h (Nat.not_lt_zero _)), hx⟩
    case round =>
     obtain ⟨q, hq, rfl, hpq, hx⟩ := hrel
     have hq0 : (0 : Int) ≤ (q : Int) := by omega
     by_cases hqt : q < k
     · obtain ⟨b', off', y, u', hA', hb', hyk, hys, hty, q0, q1⟩ := AtomsR.at_ HV.out (k := q) (show q < as1.length by omega)
       injection hA' with hA'
       injection hA' with e1 e2
       subst e1; subst e2
       obtain ⟨E, g, rfl, hg1, hg2⟩ := SliceR.form hty
       have hq1 : (q : Int) < (as1.length : Int) := by omega
       have r0 := (hx.cells.1 b (off + k * 2) hb).trans P0.out
       have r1 := (hx.cells.1 b (off + k * 2 + 1) hb).trans P1.out
       have s0 := (hx.cells.1 b (off + q * 2) hb').trans q0
       have s1 := (hx.cells.1 b (off + q * 2 + 1) hb').trans q1
       have HYK := Lib.hid hyk
       clear hyk hty q0 q1
       have hsame : ∀ (hg : x.n = y.n → x.args.length = y.args.length), ∀ (j : Nat) (b : GA), j < q + 1 → as1[j]? = some b → x.n = b.n → x.args.length = b.args.length := fun hg j b hj hb e => by
        rcases Nat.lt_or_ge j q with h | h
        · exact hpq.out j b h hb e
        · rw [show j = q from by omega, HYK.out] at hb; injection hb with hb; subst hb; exact hg e
       by_cases hn : x.n = y.n
       · have hn1 : (x.n.toList == y.n.toList) = true := by rw [hn]; exact beq_self_eq_true _
         by_cases hlen : x.args.length = y.args.length
         · have hl1 : ((x.args.length : Int) == (y.args.length : Int)) = true := by rw [hlen]; exact beq_self_eq_true _
           have HS := Lib.hid (hsame (fun _ => hlen))
           clear hsame hn hlen
           go_wp2_with fail
           go_quiet (fail)
           go_wp2
           go_roundw
           case rel => exact ⟨q + 1, by omega, by go_num, HS, hx.drewN _⟩
           case measure => simp [intOf]; omega
         · have hl1 : ((x.args.length : Int) == (y.args.length : Int)) = false := by rw [beq_eq_false_iff_ne]; omega
           have HF := Lib.hid (show argsB as1 = false from by
            cases h : argsB as1
            · rfl
            · exact absurd ((argsB_pairs as1).1 h k q x y HXK.out HYK.out hqt hn) hlen)
           clear hsame hn hlen
           go_wp2_with fail
           go_quiet (fail)
           go_wp2
           go_ret
           exact ⟨by rw [HF.out]; rfl, HX.out.trans' (hx.drewN _)⟩
       · have hn1 : (x.n.toList == y.n.toList) = false := str_ne' hn
         have HS := Lib.hid (hsame (fun h => absurd h hn))
         clear hsame hn
         go_wp2_with fail
         go_quiet (fail)
         go_wp2
         go_roundw
         case rel => exact ⟨q + 1, by omega, by go_num, HS, hx.drewN _⟩
         case measure => simp [intOf]; omega
     · have HS := Lib.hid (show ∀ (i j : Nat) (a b : GA), i < k + 1 → as1[i]? = some a → as1[j]? = some b → j < i → a.n = b.n → a.args.length = b.args.length from fun i j a b hi ha hb hji e => by
         rcases Nat.lt_or_ge i k with h | h
         · exact hp.out i j a b h ha hb hji e
         · have hik : i = k := by omega
           subst hik
           rw [HXK.out] at ha; injection ha with ha; subst ha
           exact hpq.out j b (by omega) hb e)
       go_wp2
       go_roundw
       case rel => exact ⟨k + 1, by omega, by go_num, HS, hx⟩
       case measure => simp [intOf]; omega
  · have HF := Lib.hid (show argsB as1 = true from (argsB_pairs as1).2 (fun i j a b ha hb hji e => hp.out i j a b (by have := (List.getElem?_eq_some_iff.1 ha).1; omega) ha hb hji e))
    go_wp2
    go_ret
    exact ⟨by rw [HF.out]; rfl, HX.out.trans' hx⟩

end Go.Proofs.YtfjdijakgjhieaaGreat
