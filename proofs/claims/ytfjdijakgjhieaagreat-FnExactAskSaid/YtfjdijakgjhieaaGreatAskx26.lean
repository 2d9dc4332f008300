/- Texts of the proof: EvZ, EvU, AskI. -/
import Derived.Test.YtfjdijakgjhieaaGreatAskx15
import Derived.Test.YtfjdijakgjhieaaGreatAskx23
import Derived.Test.YtfjdijakgjhieaaGreatAskx24
import Derived.Test.YtfjdijakgjhieaaGreatAskx25
import Derived.Test.YtfjdijakgjhieaaGreatAskx11
import Derived.Test.YtfjdijakgjhieaaGreatAskx05
namespace Go.Proofs.YtfjdijakgjhieaaGreat
set_option linter.unusedSimpArgs false
set_option linter.unusedVariables false
open Go.RowKit

theorem tight_ask (nm : ByteArray) (ps : List GP) : tightB (ruleN nm ps) = bodyTight ps := by
  have h0 : varsOf (ruleN nm ps).head = varsN ps := by
    unfold varsOf ruleN
    induction varsN ps with
    | nil => rfl
    | cons x l ih => simpa [varT] using ih
  unfold tightB ruleAtoms
  rw [List.all_cons, h0, Bool.eq_iff_iff]
  simp only [Bool.and_eq_true, List.all_eq_true, List.mem_map, bodyTight]
  constructor
  · rintro ⟨_, h⟩ p hp x hx
    exact h _ ⟨p, hp, rfl⟩ x hx
  · intro h
    refine ⟨fun x hx => ?_, ?_⟩
    · obtain ⟨p, hp, hx2⟩ := varsN_mem.1 hx
      exact h p hp x hx2
    · rintro _ ⟨p, hp, rfl⟩ x hx
      exact h p hp x hx
theorem askOk_false {ps : List GP} {k : Nat} {p : GP} (h : ps[k]? = some p) (hp : atomOkB p.atom = false) : askOkB ps = false := by
  unfold askOkB
  rw [all_false (fun p => atomOkB p.atom) ps k p h hp]; simp

set_option maxRecDepth 100000 in
set_option maxHeartbeats 2000000 in
theorem specAskOk_any (ps : List GP) (u : Value) (w : World) {S : Nat → Prop} (hu : PartsR S w u ps) :
    Calls Tryz.prog 29 #[u] w fun e w' => e = .returned (.bool (askOkB ps)) ∧ Ext w w' := by
  obtain ⟨B, d, rfl, hd1, hd2⟩ := SliceR.form hu
  have HU := Lib.hid hu
  clear hu
  go_enter Tryz.func29, Tryz.ntmps29
  go_wp2
  go_loopw [3] (fun i wr => ∃ k : Nat, k ≤ ps.length ∧ i = .int .i64 k ∧ Hid ((ps.take k).all (fun p => atomOkB p.atom) = true) ∧ Ext w wr) (fun i _ => ps.length - (intOf i).toNat)
  case atStart => exact ⟨0, Nat.zero_le _, rfl, Lib.hid rfl, Ext.refl _⟩
  case round =>
    obtain ⟨k, hk, rfl, hall, hx⟩ := hrel
    have hk0 : (0 : Int) ≤ (k : Int) := by omega
    by_cases hlt : k < ps.length
    · have hk1 : (k : Int) < (ps.length : Int) := by omega
      obtain ⟨bp, op, p, vp, rfl, hbp, hpk, hpn, hpt, hp0, hp1, hp2⟩ := PartsR.at_ HU.out hlt
      obtain ⟨G, cg, rfl, hcg1, hcg2⟩ := SliceR.form hpt
      have r1 := (hx.cells.1 bp (op + k * 3 + 1) hbp).trans hp1
      have r2 := (hx.cells.1 bp (op + k * 3 + 2) hbp).trans hp2
      have HPT := Lib.hid (hpt.ext hx)
      have HPN := Lib.hid hpn
      have HPK := Lib.hid hpk
      have hway := bool_ways (specAtomOk_any p.atom _ wr hpn HPT.out)
      clear hp0 hp1 hp2 hpt hpn hpk
      cases hok : atomOkB p.atom
      · have HW := Lib.hid (hway.2 hok)
        have HF := Lib.hid (askOk_false HPK.out hok)
        clear hok hway
        go_wp2_with (go_at_call 13; refine HW.out.mono ?_; rintro e w1 ⟨rfl, hx1⟩)
        go_ret
        exact ⟨by rw [HF.out]; rfl, hx.trans' hx1⟩
      · have HW := Lib.hid (hway.1 hok)
        have HA := Lib.hid (show (ps.take (k + 1)).all (fun p => atomOkB p.atom) = true from by rw [all_snoc _ _ k p HPK.out, hall.out, hok]; rfl)
        clear hok hway
        go_wp2_with (go_at_call 13; refine HW.out.mono ?_; rintro e w1 ⟨rfl, hx1⟩)
        go_roundw
        case rel => exact ⟨k + 1, by omega, by go_num, HA, hx.trans' hx1⟩
        case measure => simp [intOf]; omega
    · have HAL := Lib.hid (show ∀ p ∈ ps, atomOkB p.atom = true from by
        have h := hall.out
        rw [List.take_of_length_le (by omega)] at h
        exact List.all_eq_true.1 h)
      by_cases hin : 1 ≤ ps.length ∧ ps.length ≤ 4
      · have hi1 : inB (ps.length : Int) 1 4 = true := inB_yes (by omega) (by omega)
        have HI := Lib.hid (show Calls Tryz.prog 66 #[.int .i64 ps.length, .int .i64 1, .int .i64 4] wr fun e w' => e = .returned (.bool true) ∧ w' = wr from by rw [← hi1]; exact l1In_any _ _ _ _)
        have HPS := Lib.hid (show ∀ p ∈ ps, p.atom.args.length ≤ 3 from fun p hp => atomOk_few (HAL.out p hp))
        have HF := Lib.hid (show askOkB ps = bodyTight ps from by
          unfold askOkB
          rw [decide_eq_true hin, List.all_eq_true.2 HAL.out]; rfl)
        have HVF := Lib.hid (show ((varsN ps).map varT).length ≤ 12 from by rw [List.length_map]; exact varsN_few HPS.out hin.2)
        have hpl := hin.2
        clear hi1 hin
        go_wp2_with (first
          | (go_at_call 66; refine HI.out.mono ?_; rintro e w1 ⟨rfl, rfl⟩)
          | (go_at_call 68; refine (l5Rule_any _ ps _ _ (HU.out.ext hx) (fun p hp => Nat.le_trans (HPS.out p hp) (by omega)) hpl).mono ?_; rintro e w2 ⟨⟨v2, rfl, hv2⟩, hx2⟩; have HX2 := Lib.hid hx2; have HV2 := Lib.hid hv2; clear hv2)
          | (go_at_call 67; refine (l2Tight_gen (ruleN _ ps) _ _ _ (by show (1 : Nat) ≤ maxLen; unfold maxLen; omega) HV2.out (HU.out.ext (hx.trans' HX2.out)) ⟨HVF.out, hpl, HPS.out⟩).mono ?_; rintro e w3 ⟨rfl, hx3⟩; have HX3 := Lib.hid hx3))
        go_ret
        exact ⟨by rw [HF.out, tight_ask]; rfl, (hx.trans' HX2.out).trans' HX3.out⟩
      · have hi1 : inB (ps.length : Int) 1 4 = false := by
          rcases Nat.lt_or_ge ps.length 1 with h | h
          · exact inB_low (by omega)
          · exact inB_high (by omega)
        have HI := Lib.hid (show Calls Tryz.prog 66 #[.int .i64 ps.length, .int .i64 1, .int .i64 4] wr fun e w' => e = .returned (.bool false) ∧ w' = wr from by rw [← hi1]; exact l1In_any _ _ _ _)
        have HF := Lib.hid (show askOkB ps = false from by unfold askOkB; rw [decide_eq_false hin]; rfl)
        clear hi1 hin
        go_wp2_with (go_at_call 66; refine HI.out.mono ?_; rintro e w1 ⟨rfl, rfl⟩)
        go_ret
        exact ⟨by rw [HF.out]; rfl, hx⟩

theorem cmp5_drop {a b : List ByteArray} {k : Nat} {x y : ByteArray} (ha : a[k]? = some x) (hb : b[k]? = some y) : cmp5 (a.drop k) (b.drop k) = if cmpS x y = 0 then cmp5 (a.drop (k + 1)) (b.drop (k + 1)) else cmpS x y := by
  rw [drop_cons ha, drop_cons hb]; rfl
theorem cmp5_end {a b : List ByteArray} {k : Nat} (h : a.length ≤ k ∨ b.length ≤ k) : cmp5 (a.drop k) (b.drop k) = 0 := by
  rcases h with h | h
  · rw [List.drop_eq_nil_of_le h]; rfl
  · rw [List.drop_eq_nil_of_le h]; cases a.drop k <;> rfl

set_option maxRecDepth 100000 in
set_option maxHeartbeats 2000000 in
theorem l5Cmp_any (a b : List ByteArray) (v u : Value) (w : World) {S T : Nat → Prop} (hv : StrsR S w v a) (hu : StrsR T w u b) :
    Calls Tryz.prog 121 #[v, u] w fun e w' => e = .returned (.int .i64 (cmp5 a b)) ∧ Ext w w' := by
  obtain ⟨A, c, rfl, hc1, hc2⟩ := SliceR.form hv
  obtain ⟨B, d, rfl, hd1, hd2⟩ := SliceR.form hu
  have HV := Lib.hid hv
  have HU := Lib.hid hu
  clear hv hu
  go_enter Tryz.func121, Tryz.ntmps121
  go_wp2
  go_loopw [5] (fun i wr => ∃ k : Nat, k ≤ a.length ∧ k ≤ b.length ∧ i = .int .i64 k ∧ Hid (cmp5 a b = cmp5 (a.drop k) (b.drop k)) ∧ Ext w wr) (fun i _ => a.length - (intOf i).toNat)
  case atStart => exact ⟨0, Nat.zero_le _, Nat.zero_le _, rfl, Lib.hid rfl, Ext.refl _⟩
  case round =>
    obtain ⟨k, hka, hkb, rfl, hz, hx⟩ := hrel
    have hk0 : (0 : Int) ≤ (k : Int) := by omega
    by_cases ha : k < a.length
    · have ha1 : (k : Int) < (a.length : Int) := by omega
      by_cases hb : k < b.length
      · have hb1 : (k : Int) < (b.length : Int) := by omega
        obtain ⟨ba, oa, x, rfl, hba, hxk, hxs, hx0⟩ := StrsR.at_ (HV.out.ext hx) ha
        obtain ⟨bb, ob, y, rfl, hbb, hyk, hys, hy0⟩ := StrsR.at_ (HU.out.ext hx) hb
        have HST := Lib.hid (hz.out.trans (cmp5_drop hxk hyk))
        obtain ⟨z, hze⟩ : ∃ z, z = cmpS x y := ⟨_, rfl⟩
        have HC := Lib.hid (fun (W : World) => show Calls Tryz.prog 109 #[.string x, .string y] W fun e w' => e = .returned (.int .i64 z) ∧ w' = W from by rw [hze]; exact l1Texts_any x y W)
        rw [← hze] at HST
        clear hxk hyk hze
        by_cases hq : z = 0
        · subst hq
          have HS2 := Lib.hid (show cmp5 a b = cmp5 (a.drop (k + 1)) (b.drop (k + 1)) from by rw [HST.out, if_pos rfl])
          go_wp2_with fail
          refine calm_region (by kernel_rfl) (by kernel_rfl) ?_
          repeat (go_big_quiet_step ((go_at_call 109; exact calm_same (HC.out _))))
          refine wpQuiet_nil ?_
          rintro w1 ⟨⟨_, hx1⟩, rfl⟩
          go_wp2
          go_roundw
          case rel => exact ⟨k + 1, by omega, by omega, by go_num, HS2, hx.trans' hx1⟩
          case measure => simp [intOf]; omega
        · have HS2 := Lib.hid (show cmp5 a b = z from by rw [HST.out, if_neg hq])
          have hq0 : ((z : Int) == 0) = false := by simp [hq]
          have hq1 : ((z : Int) != 0) = true := by simp [hq]
          clear hq
          go_wp2_with fail
          refine calm_region (by kernel_rfl) (by kernel_rfl) ?_
          repeat (go_big_quiet_step ((go_at_call 109; exact calm_same (HC.out _))))
          refine wpQuiet_nil ?_
          rintro w1 ⟨⟨_, hx1⟩, rfl⟩
          go_wp2
          go_ret
          exact ⟨by rw [HS2.out]; rfl, hx.trans' hx1⟩
      · have HZ := Lib.hid (hz.out.trans (cmp5_end (.inr (by omega))))
        go_wp2
        go_ret
        exact ⟨by rw [HZ.out]; rfl, hx⟩
    · have HZ := Lib.hid (hz.out.trans (cmp5_end (.inl (by omega))))
      go_wp2
      go_ret
      exact ⟨by rw [HZ.out]; rfl, hx⟩

theorem row_info : (Tryz.prog.info? 56).map (fun i => (i.zero, i.size, i.bytes)) = some (some (.slice none 0 0), 1, 24) := by kernel_rfl

set_option maxRecDepth 100000 in
set_option maxHeartbeats 4000000 in
theorem l5Put_any (rows : List (List ByteArray)) (row : List ByteArray) (v u : Value) (w : World) {S T : Nat → Prop} (hv : RowsR S w v rows) (hu : StrsR T w u row) (hn : rows.length ≤ 1000000000000) :
    Calls Tryz.prog 90 #[v, u] w fun e w' => (∃ v', e = .returned v' ∧ RowsR Any w' v' (insC cmp5 rows row)) ∧ Ext w w' := by
  obtain ⟨A, c, rfl, hc1, hc2⟩ := SliceR.form hv
  obtain ⟨B, d, rfl, hd1, hd2⟩ := SliceR.form hu
  obtain ⟨i0, hi0, hz0, hz1, hz2⟩ := info_parts row_info
  have HV := Lib.hid hv
  have HU := Lib.hid hu
  clear hv hu
  go_enter Tryz.func90, Tryz.ntmps90
  go_wp2
  go_loopw [5] (fun i wr => ∃ k : Nat, k ≤ rows.length ∧ i = .int .i64 k ∧ Hid (∀ i x, i < k → rows[i]? = some x → cmp5 x row < 0) ∧ Ext w wr) (fun i _ => rows.length - (intOf i).toNat)
  case atStart => exact ⟨0, Nat.zero_le _, rfl, Lib.hid (fun i x h => absurd h (Nat.not_lt_zero _)), Ext.refl _⟩
  case round =>
    obtain ⟨k, hk, rfl, hlow, hx⟩ := hrel
    have hk0 : (0 : Int) ≤ (k : Int) := by omega
    have hk1 : (k : Int) ≤ (c : Int) := by omega
    have hk2 : (k : Int) ≤ (rows.length : Int) := by omega
    have hend : ∀ hw : whileC cmp5 rows row = k, isC cmp5 rows row = false → insC cmp5 rows row = rows.take k ++ [row] ++ rows.drop k := fun hw hne => by rw [insC_eq, hw, hne]; rfl
    by_cases hlt : k < rows.length
    · have hk3 : (k : Int) < (rows.length : Int) := by omega
      obtain ⟨b, off, x, vx, rfl, hb, hxk, hxs, p0⟩ := RowsR.at_ (HV.out.ext hx) hlt
      obtain ⟨X, cx, rfl, hcx1, hcx2⟩ := SliceR.form hxs
      obtain ⟨z, hze⟩ : ∃ z, z = cmp5 x row := ⟨_, rfl⟩
      have HC := Lib.hid (fun (W : World) (hW : Ext wr W) => show Calls Tryz.prog 121 #[.slice X x.length cx, .slice B row.length d] W fun e w' => e = .returned (.int .i64 z) ∧ Ext W w' from by rw [hze]; exact l5Cmp_any x row _ _ W (hxs.ext hW) (HU.out.ext (hx.trans' hW)))
      by_cases hq : z < 0
      · have HL := Lib.hid (show ∀ i y, i < k + 1 → rows[i]? = some y → cmp5 y row < 0 from fun i y hi hy => by
          rcases Nat.lt_or_ge i k with h | h
          · exact hlow.out i y h hy
          · rw [show i = k from by omega, hxk] at hy; injection hy with hy; subst hy; rw [← hze]; exact hq)
        clear hend hxk hlow hze hxs
        go_wp2_with (go_at_call 121; refine (HC.out _ (Ext.refl _)).mono ?_; rintro e w1 ⟨rfl, hx1⟩)
        go_roundw
        case rel => exact ⟨k + 1, by omega, by go_num, HL, hx.trans' hx1⟩
        case measure => simp [intOf]; omega
      · have hw : whileC cmp5 rows row = k := whileC_is hk hlow.out (fun y hy => by rw [hxk] at hy; injection hy with hy; subst hy; rw [← hze]; exact hq)
        by_cases he : z = 0
        · subst he
          have HP := Lib.hid (show insC cmp5 rows row = rows from by rw [insC_eq, show isC cmp5 rows row = true from by unfold isC; rw [hw, hxk]; simp [← hze]]; rfl)
          clear hw hend hxk hlow hze hxs hq
          go_wp2_with (go_at_call 121; refine (HC.out _ (by first | exact Ext.refl _ | exact HX.out)).mono ?_; rintro e w9 ⟨rfl, hx9⟩; have HX := Lib.hid (show Ext wr w9 from by first | exact HX.out.trans' hx9 | exact hx9); have p9 := (HX.out.cells.1 b (off + k) hb).trans p0; have hb9 := Nat.lt_of_lt_of_le hb HX.out.size)
          go_ret
          exact ⟨⟨_, rfl, by rw [HP.out]; exact RowsR.sub (HV.out.ext (hx.trans' HX.out)) (fun _ _ => trivial)⟩, hx.trans' HX.out⟩
        · have HP := Lib.hid (hend hw (by unfold isC; rw [hw, hxk]; simp [← hze, he]))
          have hq0 : ((z : Int) == 0) = false := by simp [he]
          have hqz : ¬ z < 0 := hq
          clear hw hend hxk hlow hze hxs hq he
          go_wp2_with (go_at_call 121; refine (HC.out _ (by first | exact Ext.refl _ | exact HX.out)).mono ?_; rintro e w9 ⟨rfl, hx9⟩; have HX := Lib.hid (show Ext wr w9 from by first | exact HX.out.trans' hx9 | exact hx9); have p9 := (HX.out.cells.1 b (off + k) hb).trans p0; have hb9 := Nat.lt_of_lt_of_le hb HX.out.size)
          clear p0 hb p9 hb9 hx9
          try clear p9 hb9 hx9
          generalize (some (⟨b, off, none⟩ : Addr)) = A at HV ⊢
          have HE1 := Lib.hid (show ∀ W, Ext w9 W → ElemsK kRow (fun b => b < w9.heap.size) W (.slice A k c) (rows.take k) from fun W hW =>
            ElemsK.ext ((ListK.elems (k := kRow) (SliceR.fst (HV.out.ext (hx.trans' HX.out)) k hk)).sub (fun b hb hlt => hlt)) hW)
          have HE2 := Lib.hid (show ∀ W, Ext w9 W → kRow.E (fun b => b < w9.heap.size) W [.slice B row.length d] row from fun W hW => ⟨_, rfl, StrsR.impL (HU.out.ext (hx.trans' HX.out)) (fun b hb hlt => hlt) (.of_ext hW) hW.size⟩)
          have HE3 := Lib.hid (show ∀ W, Ext w9 W → ElemsK kRow (fun b => b < w9.heap.size) W (.slice (if c = k then A else A.map (·.add k)) (rows.length - k) (c - k)) (rows.drop k) from fun W hW =>
            ElemsK.ext ((ListK.elems (k := kRow) (by have h := SliceR.drop (HV.out.ext (hx.trans' HX.out)) k hk; simp only [Nat.mul_one] at h; exact h)).sub (fun b hb hlt => hlt)) hW)
          have hlk : (rows.take k).length = k := by rw [List.length_take]; omega
          go_region_held3 (fun _ => True) (exact trivial)
            (first
              | (refine step_appL (o := ⟨some 39, _, _, _, _, _⟩) (k := kRow) (S := fun b => b < w9.heap.size) (T := fun b => b < w9.heap.size) (base := w9.heap.size) (v := .slice (some ⟨_, 0, none⟩) 0 0) (xs := []) (ys := rows.take k) (by rfl) (.tmp 35) (.tmp 38) 34 (by rfl) i0 _ 24 Tryz.underlying34 hi0 hz0 hz1 hz2 (by rfl) (by rfl)
                  (by first | exact OwnK.drew (OwnK.empty rfl (Nat.le_refl _)) | exact OwnK.drew (OwnK.alloc (OwnK.empty rfl (Nat.le_refl _)) _) | exact OwnK.drew (OwnK.empty (w := w9.alloc _) (by simp) (by simp))) A k c (by rfl) (HE1.out _ (by first | exact Ext.drew (Ext.alloc (Ext.refl _) _) | exact Ext.drew (Ext.alloc (Ext.alloc (Ext.refl _) _) _))) (fun b hb => ⟨hb, hb⟩) (by unfold maxLen; simp; omega) (by simp; omega) (by go_size) ?_
                 intro v1 w2 hap1; obtain ⟨A1, n1, c1, rfl, hn1, hd11, hd12⟩ := hap1.own.form2; have HX2 := Lib.hid (hap1.toExt (w0 := w9) (by first | exact Ext.drew (Ext.alloc (Ext.refl _) _) | exact Ext.drew (Ext.alloc (Ext.alloc (Ext.refl _) _) _)) (Nat.le_refl _)); have HA1 := Lib.hid hap1; clear hap1)
              | (refine step_appL (o := ⟨some 42, _, _, _, _, _⟩) (k := kRow) (S := fun b => b < w9.heap.size) (T := fun b => b < w9.heap.size) (base := w9.heap.size) (xs := [] ++ rows.take k) (ys := [row]) (by rfl) (.tmp 39) (.tmp 41) 34 (by rfl) i0 _ 24 Tryz.underlying34 hi0 hz0 hz1 hz2 (by rfl) (by rfl)
                  (by first | exact HA1.out.own | exact OwnK.alloc HA1.out.own _) _ 1 1 (by rfl) (ElemsK.one (k := kRow) (x := row) (by first | exact Blk.at_new rfl | exact HA1.out.blk2 (Blk.drew (Blk.at_new (w := w9.alloc _) (by simp))) (by simp [Value.ownBlock]) | exact HA1.out.blk2 (Blk.drew (Blk.alloc (Blk.at_new rfl) _)) (by simp [Value.ownBlock])) (HE2.out _ (by first | exact HX2.out | exact Ext.alloc HX2.out _))) (fun b hb => ⟨hb, hb⟩) (by unfold maxLen; simp; omega) (by simp; omega) (by have := HX2.out.size; go_size) ?_
                 intro v2 w3 hap2; obtain ⟨A2, n2, c2, rfl, hn2, hd21, hd22⟩ := hap2.own.form2; have HX3 := Lib.hid (hap2.toExt (w0 := w9) (by first | exact HX2.out | exact Ext.alloc HX2.out _) (Nat.le_refl _)); have HA2 := Lib.hid hap2; clear hap2)
              | (refine step_appL (o := ⟨some 46, _, _, _, _, _⟩) (k := kRow) (S := fun b => b < w9.heap.size) (T := fun b => b < w9.heap.size) (base := w9.heap.size) (xs := ([] ++ rows.take k) ++ [row]) (ys := rows.drop k) (by rfl) (.tmp 42) (.tmp 45) 34 (by rfl) i0 _ 24 Tryz.underlying34 hi0 hz0 hz1 hz2 (by rfl) (by rfl)
                  (by exact HA2.out.own) _ _ _ (by rfl) (HE3.out _ HX3.out) (fun b hb => ⟨hb, hb⟩) (by unfold maxLen; simp; omega) (by simp; omega) (by have := HX3.out.size; go_size) ?_
                 intro v3 w4 hap3; obtain ⟨A3, n3, c3, rfl, hn3, hd31, hd32⟩ := hap3.own.form2; have HX4 := Lib.hid (hap3.toExt (w0 := w9) HX3.out (Nat.le_refl _)); have HA3 := Lib.hid hap3; clear hap3))
          all_goals go_wp2
          all_goals
            go_ret
            refine ⟨⟨_, rfl, ?_⟩, (hx.trans' HX.out).trans' HX4.out⟩
            rw [HP.out]
            have h := HA3.out.own.list (S' := Any) (fun b hb => trivial) (fun b hb => trivial)
            simp only [List.nil_append] at h
            exact h
    · have hw : whileC cmp5 rows row = k := whileC_is hk hlow.out (fun y hy => by rw [List.getElem?_eq_none (by omega)] at hy; cases hy)
      have HP := Lib.hid (hend hw (by unfold isC; rw [hw, List.getElem?_eq_none (by omega)]))
      have HX := Lib.hid (Ext.refl wr)
      clear hw hend hlow
      rename World => w9
      go_wp2
      have HE1 := Lib.hid (show ∀ W, Ext w9 W → ElemsK kRow (fun b => b < w9.heap.size) W (.slice A k c) (rows.take k) from fun W hW =>
        ElemsK.ext ((ListK.elems (k := kRow) (SliceR.fst (HV.out.ext (hx.trans' HX.out)) k hk)).sub (fun b hb hlt => hlt)) hW)
      have HE2 := Lib.hid (show ∀ W, Ext w9 W → kRow.E (fun b => b < w9.heap.size) W [.slice B row.length d] row from fun W hW => ⟨_, rfl, StrsR.impL (HU.out.ext (hx.trans' HX.out)) (fun b hb hlt => hlt) (.of_ext hW) hW.size⟩)
      have HE3 := Lib.hid (show ∀ W, Ext w9 W → ElemsK kRow (fun b => b < w9.heap.size) W (.slice (if c = k then A else A.map (·.add k)) (rows.length - k) (c - k)) (rows.drop k) from fun W hW =>
        ElemsK.ext ((ListK.elems (k := kRow) (by have h := SliceR.drop (HV.out.ext (hx.trans' HX.out)) k hk; simp only [Nat.mul_one] at h; exact h)).sub (fun b hb hlt => hlt)) hW)
      have hlk : (rows.take k).length = k := by rw [List.length_take]; omega
      go_region_held3 (fun _ => True) (exact trivial)
        (first
          | (refine step_appL (o := ⟨some 39, _, _, _, _, _⟩) (k := kRow) (S := fun b => b < w9.heap.size) (T := fun b => b < w9.heap.size) (base := w9.heap.size) (v := .slice (some ⟨_, 0, none⟩) 0 0) (xs := []) (ys := rows.take k) (by rfl) (.tmp 35) (.tmp 38) 34 (by rfl) i0 _ 24 Tryz.underlying34 hi0 hz0 hz1 hz2 (by rfl) (by rfl)
              (by first | exact OwnK.drew (OwnK.empty rfl (Nat.le_refl _)) | exact OwnK.drew (OwnK.alloc (OwnK.empty rfl (Nat.le_refl _)) _) | exact OwnK.drew (OwnK.empty (w := w9.alloc _) (by simp) (by simp))) A k c (by rfl) (HE1.out _ (by first | exact Ext.drew (Ext.alloc (Ext.refl _) _) | exact Ext.drew (Ext.alloc (Ext.alloc (Ext.refl _) _) _))) (fun b hb => ⟨hb, hb⟩) (by unfold maxLen; simp; omega) (by simp; omega) (by go_size) ?_
             intro v1 w2 hap1; obtain ⟨A1, n1, c1, rfl, hn1, hd11, hd12⟩ := hap1.own.form2; have HX2 := Lib.hid (hap1.toExt (w0 := w9) (by first | exact Ext.drew (Ext.alloc (Ext.refl _) _) | exact Ext.drew (Ext.alloc (Ext.alloc (Ext.refl _) _) _)) (Nat.le_refl _)); have HA1 := Lib.hid hap1; clear hap1)
          | (refine step_appL (o := ⟨some 42, _, _, _, _, _⟩) (k := kRow) (S := fun b => b < w9.heap.size) (T := fun b => b < w9.heap.size) (base := w9.heap.size) (xs := [] ++ rows.take k) (ys := [row]) (by rfl) (.tmp 39) (.tmp 41) 34 (by rfl) i0 _ 24 Tryz.underlying34 hi0 hz0 hz1 hz2 (by rfl) (by rfl)
              (by first | exact HA1.out.own | exact OwnK.alloc HA1.out.own _) _ 1 1 (by rfl) (ElemsK.one (k := kRow) (x := row) (by first | exact Blk.at_new rfl | exact HA1.out.blk2 (Blk.drew (Blk.at_new (w := w9.alloc _) (by simp))) (by simp [Value.ownBlock]) | exact HA1.out.blk2 (Blk.drew (Blk.alloc (Blk.at_new rfl) _)) (by simp [Value.ownBlock])) (HE2.out _ (by first | exact HX2.out | exact Ext.alloc HX2.out _))) (fun b hb => ⟨hb, hb⟩) (by unfold maxLen; simp; omega) (by simp; omega) (by have := HX2.out.size; go_size) ?_
             intro v2 w3 hap2; obtain ⟨A2, n2, c2, rfl, hn2, hd21, hd22⟩ := hap2.own.form2; have HX3 := Lib.hid (hap2.toExt (w0 := w9) (by first | exact HX2.out | exact Ext.alloc HX2.out _) (Nat.le_refl _)); have HA2 := Lib.hid hap2; clear hap2)
          | (refine step_appL (o := ⟨some 46, _, _, _, _, _⟩) (k := kRow) (S := fun b => b < w9.heap.size) (T := fun b => b < w9.heap.size) (base := w9.heap.size) (xs := ([] ++ rows.take k) ++ [row]) (ys := rows.drop k) (by rfl) (.tmp 42) (.tmp 45) 34 (by rfl) i0 _ 24 Tryz.underlying34 hi0 hz0 hz1 hz2 (by rfl) (by rfl)
              (by exact HA2.out.own) _ _ _ (by rfl) (HE3.out _ HX3.out) (fun b hb => ⟨hb, hb⟩) (by unfold maxLen; simp; omega) (by simp; omega) (by have := HX3.out.size; go_size) ?_
             intro v3 w4 hap3; obtain ⟨A3, n3, c3, rfl, hn3, hd31, hd32⟩ := hap3.own.form2; have HX4 := Lib.hid (hap3.toExt (w0 := w9) HX3.out (Nat.le_refl _)); have HA3 := Lib.hid hap3; clear hap3))
      all_goals go_wp2
      all_goals
        go_ret
        refine ⟨⟨_, rfl, ?_⟩, (hx.trans' HX.out).trans' HX4.out⟩
        rw [HP.out]
        have h := HA3.out.own.list (S' := Any) (fun b hb => trivial) (fun b hb => trivial)
        simp only [List.nil_append] at h
        exact h

theorem insC_len {α : Type} (c : α → α → Int) : ∀ (l : List α) (s : α), (insC c l s).length ≤ l.length + 1 := fun l s => by
  rw [insC_eq]
  split
  · omega
  · simp only [List.length_append, List.length_take, List.length_drop, List.length_cons, List.length_nil]; omega
theorem fold_insC_len {α : Type} (c : α → α → Int) : ∀ (l out : List α), (l.foldl (insC c) out).length ≤ out.length + l.length
  | [], out => by simp
  | x :: l, out => by
    have h1 := fold_insC_len c l (insC c out x)
    have h2 := insC_len c out x
    rw [List.foldl_cons, List.length_cons]; omega
theorem insC_same {n : Nat} {s : List ByteArray} (hs : s.length = n) : ∀ {l : List (List ByteArray)}, (∀ x ∈ l, x.length = n) → insC cmp5 l s = insC cmpR l s
  | [], _ => rfl
  | x :: l, h => by
    simp only [insC]
    rw [cmp5_same ((h x List.mem_cons_self).trans hs.symm), insC_same hs (fun y hy => h y (List.mem_cons_of_mem _ hy))]
theorem fold_insC_same {n : Nat} : ∀ {vs out : List (List ByteArray)}, (∀ x ∈ vs, x.length = n) → (∀ x ∈ out, x.length = n) → vs.foldl (insC cmp5) out = vs.foldl (insC cmpR) out
  | [], _, _, _ => rfl
  | v :: vs, out, h, ho => by
    have hv := h v List.mem_cons_self
    rw [List.foldl_cons, List.foldl_cons, insC_same hv ho]
    exact fold_insC_same (fun x hx => h x (List.mem_cons_of_mem _ hx)) (fun x hx => by
      rcases (insC_mem cmpR_total).1 hx with h1 | h1
      · exact ho x h1
      · rw [h1]; exact hv)

end Go.Proofs.YtfjdijakgjhieaaGreat

namespace Go.Proofs.YtfjdijakgjhieaaGreat
set_option linter.unusedSimpArgs false
set_option linter.unusedVariables false
open Go.RowKit

set_option maxRecDepth 100000 in
set_option maxHeartbeats 4000000 in
theorem l5Ask_any (xs : List GA) (ps : List GP) (v u : Value) (w : World) {S T : Nat → Prop} (hv : AtomsR S w v xs) (hu : PartsR T w u ps) (hps : ∀ p ∈ ps, p.atom.args.length ≤ 3) (hpl : ps.length ≤ 4) (hxl : xs.length ≤ 900) :
    Calls Tryz.prog 48 #[v, u] w fun e w' => (∃ v', e = .returned v' ∧ RowsR Any w' v' (askN xs ps (varsN ps))) ∧ Ext w w' := by
  obtain ⟨A, c, rfl, hc1, hc2⟩ := SliceR.form hv
  obtain ⟨B, d, rfl, hd1, hd2⟩ := SliceR.form hu
  obtain ⟨i0, hi0, hz0, hz1, hz2⟩ := info_parts str_info
  have HV := Lib.hid hv
  have HU := Lib.hid hu
  have HPS := Lib.hid (show ∀ p ∈ ps, p.atom.args.length ≤ 1000 from fun p hp => Nat.le_trans (hps p hp) (by omega))
  have hvf := varsN_few hps hpl
  obtain ⟨vs, hvs⟩ : ∃ vs, vs = varsN ps := ⟨_, rfl⟩
  obtain ⟨all, hall⟩ : ∃ all, all = allN xs ps := ⟨_, rfl⟩
  have hal : all.length ≤ 1000000000000 := by
    rw [hall]; unfold allN
    exact Nat.le_trans (List.length_filter_le _ _) (allFold_most xs ps hxl hpl)
  have HVC := Lib.hid (fun (W : World) (hW : Ext w W) => show Calls Tryz.prog 70 #[.slice B ps.length d] W fun e w' => (∃ v', e = .returned v' ∧ StrsR (From W.heap.size) w' v' vs) ∧ Ext W w' from by rw [hvs]; exact l5Vars_any ps _ W (HU.out.ext hW) HPS.out hpl)
  have HAC := Lib.hid (fun (W : World) (hW : Ext w W) => show Calls Tryz.prog 88 #[.slice A xs.length c, .slice B ps.length d] W fun e w' => (∃ v', e = .returned v' ∧ BindsR (From W.heap.size) w' v' all) ∧ Ext W w' from by rw [hall]; exact l4All_any xs ps _ _ W (HV.out.ext hW) (HU.out.ext hW) HPS.out hpl hxl)
  have HAN := Lib.hid (show askN xs ps (varsN ps) = (all.map (rowB vs)).foldl (insC cmp5) [] from by
    unfold askN
    rw [hvs, hall]
    exact (fold_insC_same (n := (varsN ps).length) (fun x hx => by obtain ⟨b, _, rfl⟩ := List.mem_map.1 hx; simp [rowB]) (fun x hx => by cases hx)).symm)
  rw [← hvs] at hvf
  have HVS := Lib.hid hvs
  clear hv hu hps hvs hall
  go_enter Tryz.func48, Tryz.ntmps48
  go_wp2_with (first
    | (go_at_call 70; refine (HVC.out _ ((Ext.refl _).alloc _)).mono ?_; rintro e w1 ⟨⟨v1, rfl, hv1⟩, hx1⟩; have HX1 := Lib.hid (show Ext w w1 from ((Ext.refl _).alloc _).trans' hx1); have HV1 := Lib.hid hv1; obtain ⟨V, cv, rfl, hcv1, hcv2⟩ := SliceR.form hv1; clear hv1)
    | (go_at_call 88; refine (HAC.out _ HX1.out).mono ?_; rintro e w2 ⟨⟨v2, rfl, hv2⟩, hx2⟩; have HX2 := Lib.hid hx2; have HV2 := Lib.hid hv2; obtain ⟨G, cg, rfl, hcg1, hcg2⟩ := SliceR.form hv2; clear hv2))
  have HVV := Lib.hid (HV1.out.ext HX2.out)
  have HXX := Lib.hid (HX1.out.trans' HX2.out)
  clear HX1 HX2 HV1 HVC HAC hx1 hx2
  go_loopw [5, 8] (fun o i wr => ∃ k : Nat, k ≤ all.length ∧ i = .int .i64 k ∧ Hid (RowsR Any wr o (((all.take k).map (rowB vs)).foldl (insC cmp5) [])) ∧ Ext w2 wr) (fun _ i _ => all.length - (intOf i).toNat)
  case atStart => exact ⟨0, Nat.zero_le _, rfl, Lib.hid (ListK.nil (k := kRow) 0 (Nat.zero_le _) _), Ext.refl _⟩
  case round =>
    obtain ⟨k, hk, rfl, ho, hx⟩ := hrel
    obtain ⟨O, co, rfl, hco1, hco2⟩ := SliceR.form ho.out
    have HOL := Lib.hid (show (((all.take k).map (rowB vs)).foldl (insC cmp5) []).length ≤ 1000000000000 from by
      have h := fold_insC_len cmp5 ((all.take k).map (rowB vs)) []
      rw [List.length_map, List.length_take] at h
      simp only [List.length_nil] at h
      omega)
    obtain ⟨no, hno⟩ : ∃ no, no = (((all.take k).map (rowB vs)).foldl (insC cmp5) []).length := ⟨_, rfl⟩
    rw [← hno] at ho hco1 ⊢
    have HNO := Lib.hid hno
    clear hno
    have hk0 : (0 : Int) ≤ (k : Int) := by omega
    by_cases hlt : k < all.length
    · have hk1 : (k : Int) < (all.length : Int) := by omega
      obtain ⟨bb, off, bd, x, y, rfl, hbb, hbk, hxs, hys, hok, hc0, hc1⟩ := BindsR.at_ (HV2.out.ext hx) hlt
      obtain ⟨X, cx, rfl, hcx1, hcx2⟩ := SliceR.form hxs
      obtain ⟨Y, cy, rfl, hcy1, hcy2⟩ := SliceR.form hys
      have HXS := Lib.hid hxs
      have HYS := Lib.hid hys
      have HOK := Lib.hid hok
      have HST := Lib.hid (show ((all.take (k + 1)).map (rowB vs)).foldl (insC cmp5) [] = insC cmp5 (((all.take k).map (rowB vs)).foldl (insC cmp5) []) (vs.map (sig bd)) from by
        rw [List.take_add_one, hbk, List.map_append, List.foldl_append]; rfl)
      have HGS := Lib.hid (show ∀ x, (sig bd x).size ≤ maxLen from fun x => get_small (strs_small hys) x)
      clear hxs hys hok hbk
      go_wp2
      rename World => w0
      go_loopw [9, 10] (fun o i wz => ∃ r : Nat, r ≤ vs.length ∧ i = .int .i64 r ∧ Hid (OwnK kStr w0.heap.size 9 None wz o ((vs.take r).map (sig bd))) ∧ Ext w0 wz) (fun _ i _ => vs.length - (intOf i).toNat)
      case atStart => exact ⟨0, Nat.zero_le _, rfl, Lib.hid (OwnK.empty rfl (Nat.le_refl _)), (Ext.refl _).alloc _⟩
      case round =>
        obtain ⟨r, hr, rfl, hor, hxr⟩ := hrel
        obtain ⟨OA, on, oc, rfl, hon, ho1, ho2⟩ := hor.out.form2
        have hr0 : (0 : Int) ≤ (r : Int) := by omega
        have HLR := Lib.hid (show ((vs.take r).map (sig bd)).length = r from by rw [List.length_map, List.length_take]; omega)
        by_cases hlr : r < vs.length
        · have hr1 : (r : Int) < (vs.length : Int) := by omega
          obtain ⟨bv, ov, s, rfl, hbv, hsk, hss, hs0⟩ := StrsR.at_ (HVV.out.ext (hx.trans' hxr)) hlr
          have s0 := (hxr.cells.1 bb (off + k * 2) hbb).trans hc0
          have s1 := (hxr.cells.1 bb (off + k * 2 + 1) hbb).trans hc1
          have hbb2 := Nat.lt_of_lt_of_le hbb hxr.size
          have HT := Lib.hid (show (vs.take (r + 1)).map (sig bd) = (vs.take r).map (sig bd) ++ [sig bd s] from by rw [List.take_add_one, hsk, List.map_append]; rfl)
          obtain ⟨g, hg⟩ : ∃ g, g = sig bd s := ⟨_, rfl⟩
          obtain ⟨gb, hgb⟩ : ∃ gb, gb = (bd.get s).isSome := ⟨_, rfl⟩
          have HC := Lib.hid (fun (W : World) (hW : Ext wr W) => show Calls Tryz.prog 89 #[.agg #[.slice X bd.ns.length cx, .slice Y bd.vs.length cy], .string s] W fun e w' => e = .returned (.tuple #[.string g, .bool gb]) ∧ Ext W w' from by
            rw [hg, hgb]; exact bindGet_any bd _ _ s W (HXS.out.ext (hxr.trans' hW)) (HYS.out.ext (hxr.trans' hW)) HOK.out)
          have hgs : g.size ≤ maxLen := by rw [hg]; exact HGS.out s
          rw [← hg] at HT
          clear hsk hg hgb hc0 hc1
          go_wp2_with fail
          refine calm_region (by kernel_rfl) (by kernel_rfl) ?_
          repeat (go_big_quiet_step ((go_at_call 89; exact calm_call (HC.out _ (Later.ext _)))))
          refine wpQuiet_nil ?_
          rintro w5 ⟨⟨_, hx5⟩, rfl⟩
          have HOW := Lib.hid ((hor.out.ext hx5).alloc (.cells #[.string g] 9))
          have h05 : w0.heap.size ≤ w5.heap.size := Nat.le_trans hxr.size hx5.size
          go_wp2_with (at_builtin; go_loud (refine wpList_appL (k := kStr) (S := None) (T := None) (base := w0.heap.size) (xs := (vs.take r).map (sig bd)) (ys := [g]) rfl (.tmp 44) (.tmp 46) 56 (by rfl) i0 _ 16 Tryz.underlying56 hi0 hz0 hz1 hz2 (by rfl) (by rfl) HOW.out _ 1 1 (by rfl) (ElemsK.one (k := kStr) (x := g) (l := [.string g]) (Blk.new _ _ _) ⟨rfl, hgs⟩) (fun _ h => h.elim) (maxOf (by rw [HLR.out]; simp; omega)) (by rw [HLR.out]; omega) (by go_size) ?_; intro v6 w6 hap))
          go_roundw
          case rel => exact ⟨r + 1, by omega, by go_num, Lib.hid (by rw [HT.out]; exact hap.own), hap.toExt ((hxr.trans' hx5).alloc _) (Nat.le_refl _)⟩
          case measure => simp [intOf]; omega
        · have HE := Lib.hid (show (vs.take r).map (sig bd) = vs.map (sig bd) from by rw [List.take_of_length_le (by omega)])
          have hol := hor.out
          rw [HE.out] at hol
          have HLL := Lib.hid (show StrsR Any wr (.slice OA on oc) (vs.map (sig bd)) from hol.list (S' := Any) (fun _ _ => trivial) (fun _ _ => trivial))
          have HRR := Lib.hid (show RowsR Any wr (.slice O no co) (((all.take k).map (rowB vs)).foldl (insC cmp5) []) from RowsR.ext ho.out hxr)
          have HPC := Lib.hid (l5Put_any _ _ _ _ wr HRR.out HLL.out HOL.out)
          clear hol HOL HNO
          go_wp2_with (go_at_call 90; refine HPC.out.mono ?_; rintro e w7 ⟨⟨v7, rfl, hv7⟩, hx7⟩)
          go_roundw
          case rel => exact ⟨k + 1, by omega, by go_num, Lib.hid (by rw [HST.out]; exact hv7), (hx.trans' hxr).trans' hx7⟩
          case measure => simp [intOf]; omega
    · have HE := Lib.hid (show all.take k = all from List.take_of_length_le (by omega))
      have hol := ho.out
      rw [HE.out, ← HAN.out] at hol
      go_wp2
      go_ret
      exact ⟨⟨_, rfl, by rw [← HVS.out] at hol; rw [← HVS.out]; exact hol⟩, HXX.out.trans' hx⟩

/-- What the reference answers. -/
noncomputable def askW (xs : List GA) (ps : List GP) : List (List ByteArray) := if factsB xs 300 && askOkB ps then askN xs ps (varsN ps) else []

set_option maxRecDepth 100000 in
set_option maxHeartbeats 2000000 in
theorem specAsk_any (xs : List GA) (ps : List GP) (v u : Value) (w : World) {S T : Nat → Prop} (hv : AtomsR S w v xs) (hu : PartsR T w u ps) :
    Calls Tryz.prog 17 #[v, u] w fun e w' => (∃ v', e = .returned v' ∧ RowsR Any w' v' (askW xs ps)) ∧ Ext w w' := by
  obtain ⟨A, c, rfl, hc1, hc2⟩ := SliceR.form hv
  obtain ⟨B, d, rfl, hd1, hd2⟩ := SliceR.form hu
  have HV := Lib.hid hv
  have HU := Lib.hid hu
  have hfw := bool_ways (specFactsOk_any _ xs w hv)
  have haw := fun (W : World) (hW : Ext w W) => bool_ways (specAskOk_any ps _ W (hu.ext hW))
  clear hv hu
  cases hf : factsB xs 300
  · have HF := Lib.hid (hfw.2 hf)
    have HR := Lib.hid (show askW xs ps = [] from by unfold askW; rw [hf]; rfl)
    clear hfw haw hf
    go_enter Tryz.func17, Tryz.ntmps17
    go_wp2_with (go_at_call 12; refine HF.out.mono ?_; rintro e w1 ⟨rfl, hx1⟩)
    go_ret
    exact ⟨⟨_, rfl, by rw [HR.out]; exact ListK.nil (k := kRow) 0 (Nat.zero_le _) _⟩, hx1.alloc _⟩
  · have HF := Lib.hid (hfw.1 hf)
    have hxl : xs.length ≤ 900 := by unfold factsB at hf; simp only [Bool.and_eq_true, decide_eq_true_eq] at hf; omega
    cases ha : askOkB ps
    · have HA := Lib.hid (fun W hW => (haw W hW).2 ha)
      have HR := Lib.hid (show askW xs ps = [] from by unfold askW; rw [hf, ha]; rfl)
      clear hfw haw hf ha
      go_enter Tryz.func17, Tryz.ntmps17
      go_wp2_with (first
        | (go_at_call 12; refine HF.out.mono ?_; rintro e w1 ⟨rfl, hx1⟩; have HX1 := Lib.hid hx1)
        | (go_at_call 29; refine (HA.out _ HX1.out).mono ?_; rintro e w2 ⟨rfl, hx2⟩; have HX2 := Lib.hid hx2))
      go_ret
      exact ⟨⟨_, rfl, by rw [HR.out]; exact ListK.nil (k := kRow) 0 (Nat.zero_le _) _⟩, (HX1.out.trans' HX2.out).alloc _⟩
    · have HA := Lib.hid (fun W hW => (haw W hW).1 ha)
      have HR := Lib.hid (show askW xs ps = askN xs ps (varsN ps) from by unfold askW; rw [hf, ha]; rfl)
      obtain ⟨_, hpl, hpo, _⟩ := askOk_parts ha
      have HPS := Lib.hid (show ∀ p ∈ ps, p.atom.args.length ≤ 3 from fun p hp => atomOk_few (hpo p hp))
      clear hfw haw hf ha hpo
      go_enter Tryz.func17, Tryz.ntmps17
      go_wp2_with (first
        | (go_at_call 12; refine HF.out.mono ?_; rintro e w1 ⟨rfl, hx1⟩; have HX1 := Lib.hid hx1)
        | (go_at_call 29; refine (HA.out _ HX1.out).mono ?_; rintro e w2 ⟨rfl, hx2⟩; have HX2 := Lib.hid (HX1.out.trans' hx2))
        | (go_at_call 48; refine (l5Ask_any xs ps _ _ _ (HV.out.ext HX2.out) (HU.out.ext HX2.out) HPS.out hpl hxl).mono ?_; rintro e w3 ⟨⟨v3, rfl, hv3⟩, hx3⟩; have HX3 := Lib.hid (HX2.out.trans' hx3)))
      go_ret
      exact ⟨⟨_, rfl, by rw [HR.out]; exact hv3⟩, HX3.out⟩

end Go.Proofs.YtfjdijakgjhieaaGreat

namespace Go.Proofs.YtfjdijakgjhieaaGreat
set_option linter.unusedSimpArgs false
set_option linter.unusedVariables false
open Go.RowKit

theorem foldl_id {α : Type} : ∀ (l st : List α), l.foldl (fun st r => st ++ [r]) st = st ++ l
  | [], st => by simp
  | x :: l, st => by rw [List.foldl_cons, foldl_id l, List.append_assoc]; rfl

set_option maxRecDepth 100000 in
set_option maxHeartbeats 4000000 in
theorem ask_any (xs : List GA) (ps : List GP) (v u : Value) (w : World) {S T : Nat → Prop} (hv : AtomsR S w v xs) (hu : PartsR T w u ps) (hf : factsB xs 300 = true) (hok : askOkB ps = true) :
    Calls Tryz.prog 45 #[v, u] w fun e w' => (∃ b, e = .returned b ∧ RowsO (From w.heap.size) w' b (askN xs ps (varsN ps))) ∧ Ext w w' := by
  obtain ⟨A, c, rfl, hc1, hc2⟩ := SliceR.form hv
  obtain ⟨A', c', rfl, hc1', hc2'⟩ := SliceR.form hu
  obtain ⟨a1, a2, a3, a4⟩ := askOk_parts hok
  have hl : xs.length ≤ 300 := by
    have := hf
    unfold factsB at this
    simp only [Bool.and_eq_true, decide_eq_true_eq] at this
    exact this.2
  have hff : ∀ a ∈ xs, factB a = true := by
    have := hf
    unfold factsB at this
    simp only [Bool.and_eq_true, List.all_eq_true] at this
    exact this.1.1
  have hn12 := varsN_few (fun p hp => atomOk_few (a3 p hp)) a2
  obtain ⟨K, hK⟩ : ∃ K, K = (toldAll (seOf xs (List.replicate xs.length 0) (varsN ps) ps (wantAll (varsN ps).length))).map (rowW (varsN ps).length) := ⟨_, rfl⟩
  have hKl : K.length ≤ 2430000000000 := by
    rw [hK, List.length_map]
    refine toldAll_len hl ?_
    show (partsOf (varsN ps) ps).length ≤ 4
    unfold partsOf
    rw [List.length_map]
    exact Nat.le_trans (List.length_filter_le _ _) a2
  have HSA := Lib.hid (fun (s : List (List ByteArray)) (hp : s.Perm K) (hs : s.Pairwise fun a b => cmpR a b ≤ 0) => ask_same (askable hok) (fun a ha => fact_ok (hff a ha)) (factsB_asc hf) (hK ▸ hp) hs)
  have HRW := Lib.hid (show Calls Tryz.prog 83 #[.slice A xs.length c, .slice A' ps.length c', .func (.func 84) #[] #[.pointer (some ⟨w.heap.size, 0, none⟩)]] (w.alloc (.cells #[.slice none 0 0] 34)) fun e w' => e = .returned (.tuple #[]) ∧
      (∃ base, w.heap.size + 1 ≤ base ∧ AskR w.heap.size base K w') ∧ Inside (fun b => b = w.heap.size ∨ w.heap.size + 1 ≤ b) (w.alloc (.cells #[.slice none 0 0] 34)) w' from by
    have hz : (w.alloc (.cells #[.slice none 0 0] 34)).heap.size = w.heap.size + 1 := by simp
    have hlow := hv.low
    have h := rows_any (N := 2430000000000) xs ps _ _ _ (hlow.ext ((Ext.refl w).alloc (.cells #[.slice none 0 0] 34))) (hu.ext ((Ext.refl w).alloc (.cells #[.slice none 0 0] 34))) (fun b hb => by rw [hz]; have : b < w.heap.size := hb; omega) (fun b => b = w.heap.size) (fun b hb => by rw [hz, hb]; omega) (fun b hb e => by
      have h1 : b < w.heap.size := hb
      have h2 : b = w.heap.size := e
      omega) hff hl hok (g := 84) (caps := #[.pointer (some ⟨w.heap.size, 0, none⟩)]) (R := AskR w.heap.size) (put := fun st r => st ++ [r]) (rank := List.length) [] (fun H base hG h1 h2 h3 => ask1_yields H hn12 (by rw [hz] at h1; omega) h2 h3 (Nat.le_refl _) hG)
      (fun W hW => ⟨_, (Blk.new w _ _).ext hW, OwnO.nil, Nat.le_refl _, by have := hW.size; rw [hz] at this; omega⟩) (by
        have := hKl
        rw [hK, List.length_map] at this
        simpa using this)
    refine h.mono fun e w' ⟨h1, ⟨base, h2, h3⟩, h4⟩ => ⟨h1, ⟨base, by rw [hz] at h2; exact h2, ?_⟩, ?_⟩
    · rw [foldl_id, List.nil_append, ← hK] at h3; exact h3
    · rw [hz] at h4; exact h4)
  have HKL := Lib.hid hKl
  clear hv hu hf hok a1 a3 a4 hff hK hKl
  go_enter Tryz.func45, Tryz.ntmps45
  go_wp2_with (first
    | (go_at_call 83; refine HRW.out.mono ?_; rintro e w2 ⟨rfl, ⟨base, hb2, ⟨v2, hk2, ho2, hz2, hlt2⟩⟩, hi2⟩
       obtain ⟨A2, n2, c2, rfl, hn2, h21, h22⟩ := ho2.form2
       have o2 := hk2.cell 0
       have l2 := hk2.lt
       have HK2 := Lib.hid hk2
       have HI2 := Lib.hid hi2
       have HSR := Lib.hid (sortRows_any K _ w2 ho2 (by have := HKL.out; omega))
       clear hk2 ho2 hi2)
    | (go_at_call 85; refine HSR.out.mono ?_; rintro e w3 ⟨rfl, ⟨srt, hp3, hs3, hr3⟩, hi3⟩
       have HI3 := Lib.hid hi3
       have o3 := (hi3.blk HK2.out (by omega)).cell 0
       have l3 := (hi3.blk HK2.out (by omega)).lt
       have HR3 := Lib.hid hr3
       have HP3 := Lib.hid (HSA.out srt hp3 hs3)
       clear hi3 hr3 hp3 hs3)
    | fail)
  go_ret
  refine ⟨⟨_, rfl, ?_⟩, ?_⟩
  · rw [← HP3.out]
    exact SliceO.sub HR3.out (fun b hb => by
      have : w.heap.size ≤ b := hb.elim (fun h => by omega) (fun h => by omega)
      exact this)
  · have hx1 : Ext w w2 := HI2.out.toExt ((Ext.refl w).alloc _) (fun i hi => by
      rcases hi with hi | hi
      · omega
      · omega)
    exact HI3.out.toExt hx1 (fun i hi => by
      have hi2 : base ≤ i := hi
      omega)

set_option maxRecDepth 100000 in
set_option maxHeartbeats 2000000 in
theorem askOk_any (ps : List GP) (u : Value) (w : World) {T : Nat → Prop} (hu : PartsR T w u ps) :
    Calls Tryz.prog 44 #[u] w fun e w' => e = .returned (.bool (askOkB ps)) ∧ Ext w w' := by
  obtain ⟨A, c, rfl, hc1, hc2⟩ := SliceR.form hu
  have HBO := Lib.hid (fun (W : World) (hW : Ext w W) => bodyOk_any _ ps W (hu.ext hW))
  have HBL := Lib.hid (fun (W : World) (hW : Ext w W) => bodyLoose_any _ ps W (hu.ext hW))
  have hA : askOkB ps = (decide (0 < ps.length) && (decide (ps.length ≤ 4) && ps.all partOkB) && ps.all (tightP ps)) := by
    unfold askOkB bodyTight
    have e1 : (ps.all fun p => atomOkB p.atom) = ps.all partOkB := rfl
    have e2 : (ps.all fun p => (varsOf p.atom).all (boundIn ps)) = ps.all (tightP ps) := rfl
    rw [e1, e2]
    have e3 : decide (1 ≤ ps.length ∧ ps.length ≤ 4) = (decide (0 < ps.length) && decide (ps.length ≤ 4)) := by
      apply Bool.eq_iff_iff.2; simp; omega
    rw [e3, Bool.and_assoc (decide (0 < ps.length))]
  have HA := Lib.hid hA
  clear hu hA
  obtain ⟨b1, hb1⟩ : ∃ b, b = (decide (ps.length ≤ 4) && ps.all partOkB) := ⟨_, rfl⟩
  obtain ⟨b2, hb2⟩ : ∃ b, b = ps.all (tightP ps) := ⟨_, rfl⟩
  rw [← hb1, ← hb2] at HA
  rw [← hb1] at HBO
  rw [← hb2] at HBL
  clear hb1 hb2
  by_cases h0 : 0 < ps.length
  · have h1 : (0 : Int) < (ps.length : Int) := by omega
    rw [decide_eq_true h0, Bool.true_and] at HA
    cases b1
    · have HF := Lib.hid (show askOkB ps = false from HA.out)
      clear HA
      go_enter Tryz.func44, Tryz.ntmps44
      go_wp2_with (first | (go_at_call 81; refine (HBO.out _ (Ext.refl _)).mono ?_; rintro e w1 ⟨rfl, hx1⟩) | fail)
      go_ret
      exact ⟨by rw [HF.out]; rfl, hx1⟩
    · cases b2
      · have HF := Lib.hid (show askOkB ps = false from HA.out)
        clear HA
        go_enter Tryz.func44, Tryz.ntmps44
        go_wp2_with (first | (go_at_call 81; refine (HBO.out _ (Ext.refl _)).mono ?_; rintro e w1 ⟨rfl, hx1⟩; have HX1 := Lib.hid hx1; clear hx1) | (go_at_call 82; refine (HBL.out _ HX1.out).mono ?_; rintro e w2 ⟨rfl, hx2⟩) | fail)
        go_ret
        exact ⟨by rw [HF.out]; rfl, HX1.out.trans' hx2⟩
      · have HF := Lib.hid (show askOkB ps = true from HA.out)
        clear HA
        go_enter Tryz.func44, Tryz.ntmps44
        go_wp2_with (first | (go_at_call 81; refine (HBO.out _ (Ext.refl _)).mono ?_; rintro e w1 ⟨rfl, hx1⟩; have HX1 := Lib.hid hx1; clear hx1) | (go_at_call 82; refine (HBL.out _ HX1.out).mono ?_; rintro e w2 ⟨rfl, hx2⟩) | fail)
        go_ret
        exact ⟨by rw [HF.out]; rfl, HX1.out.trans' hx2⟩
  · have h1 : ¬ (0 : Int) < (ps.length : Int) := by omega
    have HF := Lib.hid (show askOkB ps = false from by rw [HA.out, decide_eq_false h0]; rfl)
    clear HA
    go_enter Tryz.func44, Tryz.ntmps44
    go_wp2
    go_ret
    exact ⟨by rw [HF.out]; rfl, Ext.refl _⟩

set_option maxRecDepth 100000 in
set_option maxHeartbeats 2000000 in
theorem implAsk_any (xs : List GA) (ps : List GP) (v u : Value) (w : World) {S T : Nat → Prop} (hv : AtomsR S w v xs) (hu : PartsR T w u ps) :
    Calls Tryz.prog 14 #[v, u] w fun e w' => (∃ b, e = .returned b ∧ RowsO (From w.heap.size) w' b (askW xs ps)) ∧ Ext w w' := by
  obtain ⟨A, c, rfl, hc1, hc2⟩ := SliceR.form hv
  obtain ⟨A', c', rfl, hc1', hc2'⟩ := SliceR.form hu
  have HFO := Lib.hid (fun (W : World) (hW : Ext w W) => factsOk_any _ xs W (hv.ext hW))
  have HAO := Lib.hid (fun (W : World) (hW : Ext w W) => askOk_any ps _ W (hu.ext hW))
  have HV := Lib.hid hv
  have HU := Lib.hid hu
  clear hv hu
  rcases Bool.eq_false_or_eq_true (factsB xs 300) with hf | hf
  · rw [hf] at HFO
    rcases Bool.eq_false_or_eq_true (askOkB ps) with ha | ha
    · rw [ha] at HAO
      have HAS := Lib.hid (fun (W : World) (hW : Ext w W) => ask_any xs ps _ _ W (HV.out.ext hW) (HU.out.ext hW) hf ha)
      have HR := Lib.hid (show askW xs ps = askN xs ps (varsN ps) from by unfold askW; rw [hf, ha]; rfl)
      clear hf ha
      go_enter Tryz.func14, Tryz.ntmps14
      go_wp2_with (first
        | (go_at_call 37; refine (HFO.out _ (Ext.refl _)).mono ?_; rintro e w1 ⟨rfl, hx1⟩; have HX1 := Lib.hid hx1; clear hx1)
        | (go_at_call 44; refine (HAO.out _ HX1.out).mono ?_; rintro e w2 ⟨rfl, hx2⟩; have HX2 := Lib.hid (HX1.out.trans' hx2); clear hx2)
        | (go_at_call 45; refine (HAS.out _ HX2.out).mono ?_; rintro e w3 ⟨⟨b3, rfl, hb3⟩, hx3⟩; obtain ⟨B3, d3, rfl, hd3, hd4⟩ := SliceO.form hb3; have HB3 := Lib.hid hb3; have HX3 := Lib.hid (HX2.out.trans' hx3); clear hb3 hx3) | fail)
      go_ret
      refine ⟨⟨_, rfl, ?_⟩, HX3.out⟩
      rw [HR.out]
      exact SliceO.sub HB3.out (fun b hb => Nat.le_trans HX2.out.size hb)
    · rw [ha] at HAO
      have HR := Lib.hid (show askW xs ps = [] from by unfold askW; rw [hf, ha]; rfl)
      clear hf ha
      go_enter Tryz.func14, Tryz.ntmps14
      go_wp2_with (first
        | (go_at_call 37; refine (HFO.out _ (Ext.refl _)).mono ?_; rintro e w1 ⟨rfl, hx1⟩; have HX1 := Lib.hid hx1; clear hx1)
        | (go_at_call 44; refine (HAO.out _ HX1.out).mono ?_; rintro e w2 ⟨rfl, hx2⟩; have HX2 := Lib.hid (HX1.out.trans' hx2); clear hx2) | fail)
      go_ret
      exact ⟨⟨_, rfl, by rw [HR.out]; exact SliceO.nil 0 (Nat.zero_le _) none⟩, HX2.out⟩
  · rw [hf] at HFO
    have HR := Lib.hid (show askW xs ps = [] from by unfold askW; rw [hf]; rfl)
    clear hf
    go_enter Tryz.func14, Tryz.ntmps14
    go_wp2_with (first | (go_at_call 37; refine (HFO.out _ (Ext.refl _)).mono ?_; rintro e w1 ⟨rfl, hx1⟩; have HX1 := Lib.hid hx1; clear hx1) | fail)
    go_ret
    exact ⟨⟨_, rfl, by rw [HR.out]; exact SliceO.nil 0 (Nat.zero_le _) none⟩, HX1.out⟩

end Go.Proofs.YtfjdijakgjhieaaGreat
