/- Part of the texts of a proof: own texts joined in the order of their building; what they say stands at each theorem. -/
import Derived.Test.YtfjdijakgjhieaaGreatBas17
import Derived.Test.YtfjdijakgjhieaaGreatBas03
import Derived.Test.YtfjdijakgjhieaaGreatBas07
import Derived.StillTailTactics
import Derived.Deep.RegionHeld3
namespace Go.Proofs.YtfjdijakgjhieaaGreat
set_option linter.unusedSimpArgs false
set_option linter.unusedVariables false
open Go.RowKit

theorem isNo_list {s : ByteArray} (h : isNo s = true) : s.toList.isEmpty = true ∧ (s.toList == []) = true := by
 have := isNo_iff.1 h
 subst this
 have h1 := list_nil (s := noWord) rfl
 rw [h1]; exact ⟨rfl, rfl⟩
theorem notNo_list {s : ByteArray} (h : isNo s = false) : s.toList.isEmpty = false ∧ (s.toList == []) = false := by
 have h0 : ¬ s.size = 0 := fun e => by unfold isNo at h; rw [decide_eq_true e] at h; cases h
 have h1 := list_ne h0
 exact ⟨h1, by cases hl : s.toList with | nil => rw [hl] at h1; cases h1 | cons => rfl⟩

set_option maxRecDepth 100000 in
set_option maxHeartbeats 4000000 in
theorem match_any (p : GPat) (a : GA) (pv tv : Value) (S : Sea) (sb : Nat) (w : World) {P T : Nat → Prop} (hs : SeaAt w sb S) (hp : SlotsR P w pv p.slots) (ht : TermsR T w tv a.args) (hP : ¬ P sb) (hT : ¬ T sb) (hok : ∀ s ∈ p.slots, okSlot 12 s) (hb : Bok S.W (S.bd.take S.cnt)) :
 Calls Tryz.prog 183 #[.pointer (some ⟨sb, 18, none⟩), .agg #[.string p.n, pv], .agg #[.string a.n, tv]] w fun e w' => e = .returned (.bool (matchP p a S.W).2) ∧ (∃ Q, SeaAt w' sb Q ∧ Q.W = (matchP p a S.W).1 ∧ Matched S Q (traceP p a S.W)) ∧ Inside (fun b => b = sb) w w' := by
 obtain ⟨A, c, rfl, hc1, hc2⟩ := SliceR.form hp
 obtain ⟨B, d, rfl, hd1, hd2⟩ := SliceR.form ht
 have hsl := hs.lt
 obtain ⟨W0, hW0⟩ : ∃ W0, W0 = (w.alloc (.cells #[.string p.n, .slice A p.slots.length c] 184)).alloc (.cells #[.string a.n, .slice B a.args.length d] 26) := ⟨_, rfl⟩
 have hB0 : Blk W0 w.heap.size 184 #[.string p.n, .slice A p.slots.length c] := by rw [hW0]; exact (Blk.new _ _ _).alloc _
 have hB1 : Blk W0 (w.heap.size + 1) 26 #[.string a.n, .slice B a.args.length d] := by rw [hW0]; exact Blk.at_new (by simp)
 have HE0 := Lib.hid (show Ext w W0 from by rw [hW0]; exact ((Ext.refl _).alloc _).alloc _)
 have HW0 := Lib.hid hW0
 have p0 := hB0.cell 0
 have p1 := hB0.cell 1
 have a0 := hB1.cell 0
 have a1 := hB1.cell 1
 have pl := hB0.lt
 have al := hB1.lt
 have HB0 := Lib.hid hB0
 have HB1 := Lib.hid hB1
 have HS := Lib.hid (hs.ext HE0.out)
 have HP := Lib.hid (hp.ext HE0.out)
 have HT := Lib.hid (ht.ext HE0.out)
 have HOK := Lib.hid hok
 have HMR := Lib.hid (Matched.refl hb)
 clear hs hp ht hok hb hB0 hB1
 by_cases hnn : p.n = a.n
 · have hq1 : (p.n.toList == a.n.toList) = true := by rw [hnn]; exact beq_self_eq_true _
   have hq2 : (a.n.toList == a.n.toList) = true := beq_self_eq_true _
   by_cases hll : p.slots.length = a.args.length
   · have HM := Lib.hid (show matchP p a S.W = matchW p.slots a.args S.W from by unfold matchP; rw [if_pos ⟨hnn, hll⟩])
     have HTR := Lib.hid (show traceP p a S.W = traceW p.slots a.args S.W from by unfold traceP; rw [if_pos ⟨hnn, hll⟩])
     have hli : ((p.slots.length : Int) == (a.args.length : Int)) = true := by simp [hll]
     have hli0 : ((p.slots.length : Int) != (a.args.length : Int)) = false := by simp [hll]
     have HLL := Lib.hid hll
     clear hnn hll
     go_enter Tryz.func183, Tryz.ntmps183
     go_wp2_with fail
     rw [← HW0.out]
     try simp only [hli0]
     go_loopw [28] (fun i wr => ∃ (k : Nat) (Q : Sea) (l : List Nat), k ≤ p.slots.length ∧ i = .int .i64 k ∧ Hid (matchW p.slots a.args S.W = matchW (p.slots.drop k) (a.args.drop k) Q.W) ∧ Hid (traceW p.slots a.args S.W = l ++ traceW (p.slots.drop k) (a.args.drop k) Q.W) ∧ Hid (Matched S Q l) ∧ Hid (SeaAt wr sb Q) ∧ Hid (Inside (fun b => b = sb) W0 wr)) (fun i _ => p.slots.length - (intOf i).toNat)
     case atStart => exact ⟨0, S, [], Nat.zero_le _, rfl, Lib.hid rfl, Lib.hid rfl, HMR, HS, Lib.hid (Inside.refl _ _)⟩
     case round =>
      obtain ⟨k, Q, l, hk, rfl, hmw, htw, hmd, hse, hin⟩ := hrel
      have hk0 : (0 : Int) ≤ (k : Int) := by omega
      have hb0 := hin.out.blk HB0.out (fun e => by omega)
      have hb1 := hin.out.blk HB1.out (fun e => by omega)
      have u0 := hb0.cell 1
      have u1 := hb1.cell 1
      have ul := hb0.lt
      have ul1 := hb1.lt
      have HBA := Lib.hid hb1
      have hfin : ∀ W, Inside (fun b => b = sb) W0 W → Inside (fun b => b = sb) w W := fun W hW => (Inside.of_ext HE0.out).trans' hW
      have HFI := Lib.hid hfin
      clear hb0 hb1 hfin
      by_cases hlt : k < p.slots.length
      · have hk1 : (k : Int) < (p.slots.length : Int) := by omega
        have hk2 : (k : Int) < (a.args.length : Int) := by have := HLL.out; omega
        have hkt : k < a.args.length := by have := HLL.out; omega
        obtain ⟨bs, os, sl, rfl, hbs, hsk, hss, hs0, hs1⟩ := SlotsR.at_ (SlotsR.impL (S' := P) HP.out (fun _ h _ => h) (fun b hb hlt => hin.out.block b hlt (fun e => hP (e ▸ hb))) hin.out.size) hlt
        obtain ⟨bt, ot, t, rfl, hbt, htk, hts, ht0, ht1⟩ := TermsR.at_ (TermsR.impL (S' := T) HT.out (fun _ h _ => h) (fun b hb hlt => hin.out.block b hlt (fun e => hT (e ▸ hb))) hin.out.size) hkt
        have HMS := Lib.hid (hmw.out.trans (matchW_drop hsk htk))
        have HTS := Lib.hid (htw.out.trans (congrArg (l ++ ·) (traceW_drop hsk htk)))
        have HSO := Lib.hid (HOK.out sl (List.mem_of_getElem? hsk))
        have hsl1 := hse.out.lt
        clear hsk htk hmw htw
        cases htv : t.v
        · rw [htv] at ht0 HMS HTS
          cases hno : isNo t.n
          · rw [hno] at HMS HTS
            obtain ⟨hn1, hn2⟩ := notNo_list hno
            obtain ⟨z, hz⟩ : ∃ z, z = wordOf Q.W sl := ⟨_, rfl⟩
            rw [← hz] at HMS HTS
            have HWO := Lib.hid (fun (W : World) (hW : Ext wr W) => show Calls Tryz.prog 203 #[.pointer (some ⟨sb, 18, none⟩), .agg #[.int .i64 sl.num, .string sl.w]] W fun e w' => e = .returned (.string z) ∧ Ext W w' from by
             rw [hz]; exact wordOf_any sl Q sb W (hse.out.ext hW) HSO.out)
            have HZ := Lib.hid hz
            have HNO := Lib.hid hno
            have HX := Lib.hid (Blk.new wr 218 #[.int .i64 sl.num, .string sl.w])
            clear hz hno htv
            cases hzn : isNo z
            · rw [hzn] at HMS HTS
              obtain ⟨hz1, hz2⟩ := notNo_list hzn
              by_cases hzt : z = t.n
              · have hq3 : (z.toList == t.n.toList) = true := by rw [hzt]; exact beq_self_eq_true _
                have hq4 : (t.n.toList == t.n.toList) = true := beq_self_eq_true _
                have HM1 := Lib.hid (show matchW p.slots a.args S.W = matchW (p.slots.drop (k + 1)) (a.args.drop (k + 1)) Q.W from by rw [HMS.out]; simp [hzt])
                have HT1 := Lib.hid (show traceW p.slots a.args S.W = l ++ traceW (p.slots.drop (k + 1)) (a.args.drop (k + 1)) Q.W from by rw [HTS.out]; simp [hzt])
                clear hzn hzt
                go_wp2_with (go_at_call 203; refine (HWO.out _ ((Ext.refl _).alloc _)).mono ?_; rintro e w1 ⟨rfl, hx1⟩; have HX1 := Lib.hid (show Ext wr w1 from ((Ext.refl _).alloc _).trans' hx1))
                go_roundw
                case rel => exact ⟨k + 1, Q, l, by omega, by go_num, HM1, HT1, hmd, Lib.hid (hse.out.ext HX1.out), Lib.hid (hin.out.trans' (Inside.of_ext HX1.out))⟩
                case measure => simp [intOf]; omega
              · have hq3 : (z.toList == t.n.toList) = false := str_ne' hzt
                have HM1 := Lib.hid (show matchP p a S.W = (Q.W, false) from by rw [HM.out, HMS.out]; simp [hzt])
                have HT1 := Lib.hid (show traceP p a S.W = l from by rw [HTR.out, HTS.out]; simp [hzt])
                clear hzn hzt
                go_wp2_with (go_at_call 203; refine (HWO.out _ ((Ext.refl _).alloc _)).mono ?_; rintro e w1 ⟨rfl, hx1⟩; have HX1 := Lib.hid (show Ext wr w1 from ((Ext.refl _).alloc _).trans' hx1))
                go_ret
                rw [HM1.out, HT1.out]
                exact ⟨rfl, ⟨Q, hse.out.ext HX1.out, rfl, hmd.out⟩, HFI.out _ (hin.out.trans' (Inside.of_ext HX1.out))⟩
            · rw [hzn] at HMS HTS
              obtain ⟨hz1, hz2⟩ := isNo_list hzn
              obtain ⟨v, hv⟩ : ∃ v, sl.v = some v := by
               cases hv : sl.v with
               | some v => exact ⟨v, rfl⟩
               | none =>
                 have h1 := HSO.out
                 unfold okSlot at h1; rw [hv] at h1
                 have h2 := HZ.out
                 unfold wordOf at h2; rw [hv] at h2
                 simp only at h1 h2
                 rw [h2, h1] at hzn; cases hzn
              have hv12 : v < 12 := by have h1 := HSO.out; unfold okSlot at h1; rw [hv] at h1; exact h1
              have hnum : sl.num = (v : Int) := by unfold GS.num; rw [hv]
              have hwz : isNo (Q.W.at_ v) = true := by have h2 := HZ.out; unfold wordOf at h2; rw [hv] at h2; simp only at h2; rw [← h2]; exact hzn
              obtain ⟨hcl, hmd2⟩ := hmd.out.step hse.out.lW hse.out.lB hv12 hwz HNO.out
              have HM1 := Lib.hid (show matchW p.slots a.args S.W = matchW (p.slots.drop (k + 1)) (a.args.drop (k + 1)) (Q.W.set v t.n) from by rw [HMS.out]; simp [bindW, hv])
              have HT1 := Lib.hid (show traceW p.slots a.args S.W = (l ++ [v]) ++ traceW (p.slots.drop (k + 1)) (a.args.drop (k + 1)) (Q.W.set v t.n) from by rw [HTS.out]; simp [bindW, hv])
              have HMD := Lib.hid hmd2
              have HSM := Lib.hid hts
              rw [hnum] at hs0 HWO HX
              have hv0 : (0 : Int) ≤ (v : Int) := by omega
              have hv1 : (v : Int) < 12 := by omega
              have hc0' : (0 : Int) ≤ (Q.cnt : Int) := by omega
              have hc1' : (Q.cnt : Int) < 12 := by omega
              clear hzn hv hwz hmd2 hnum
              go_wp2_with (go_at_call 203; refine (HWO.out _ ((Ext.refl _).alloc _)).mono ?_; rintro e w1 ⟨rfl, hx1⟩)
              have hs2 := hse.out.ext (((Ext.refl wr).alloc _).trans' hx1)
              have hi2 := hin.out.trans' (Inside.of_ext (S := fun b => b = sb) (((Ext.refl wr).alloc _).trans' hx1))
              have hbx := HX.out.ext hx1
              have x0 := hbx.cell 0
              have xl := hbx.lt
              have y0 := hs2.word hv12
              have yf := hs2.frozen (18 + v)
              have yl := hs2.lt
              have HS2 := Lib.hid hs2
              have HI2 := Lib.hid hi2
              have HBX := Lib.hid hbx
              clear hs0 hs1 ht0 ht1 u0 u1 hs2 hi2 hbx
              go_still_tail 7, (by kernel_rfl)
              change wpList _ _ _ _ _ w1.drew
              go_wp2
              have hs3 := (HS2.out.setW hv12 HSM.out).ext (Ext.refl _).drew
              have hi3 := HI2.out.trans' ((Inside.set (S := fun b => b = sb) w1 ⟨sb, 18 + v, none⟩ (.string t.n) rfl).trans' (Inside.of_ext (Ext.refl _).drew))
              have hb3 := (HBX.out.far (p := ⟨sb, 18 + v, none⟩) (by show wr.heap.size ≠ sb; omega) (.string t.n)).drew
              generalize (w1.setCell ⟨sb, 18 + v, none⟩ (.string t.n)).drew = w2 at hs3 hi3 hb3 ⊢
              have x3 := hb3.cell 0
              have xl3 := hb3.lt
              have z0 := hs3.cnt
              have z1 := hs3.bound hcl
              have zf := hs3.frozen (30 + Q.cnt)
              have zf2 := hs3.frozen 42
              have zl := hs3.lt
              simp only at z0
              have HS3 := Lib.hid hs3
              have HI3 := Lib.hid hi3
              clear x0 y0 yf hs3 hi3 hb3
              go_still_tail 10, (by kernel_rfl)
              change wpList _ _ _ _ _ w2.drew
              go_wp2
              go_roundw
              case rel =>
               refine ⟨k + 1, { Q with W := Q.W.set v t.n, bd := Q.bd.set Q.cnt v, cnt := Q.cnt + 1 }, l ++ [v], by omega, by go_num, HM1, HT1, HMD, Lib.hid ?_, Lib.hid ?_⟩
               · exact ((HS3.out.ext (Ext.refl w2).drew).setB hcl v).setC (Q.cnt + 1)
               · exact HI3.out.trans' ((Inside.of_ext (Ext.refl w2).drew).trans' ((Inside.set (S := fun b => b = sb) _ ⟨sb, 30 + Q.cnt, none⟩ _ rfl).trans' (Inside.set (S := fun b => b = sb) _ ⟨sb, 42, none⟩ _ rfl)))
              case measure => simp [intOf]; omega
          · rw [hno] at HMS HTS
            obtain ⟨hn1, hn2⟩ := isNo_list hno
            have HM1 := Lib.hid (show matchP p a S.W = (Q.W, false) from by rw [HM.out, HMS.out]; rfl)
            have HT1 := Lib.hid (show traceP p a S.W = l from by rw [HTR.out, HTS.out]; simp)
            clear hno htv
            go_wp2
            go_ret
            rw [HM1.out, HT1.out]
            exact ⟨rfl, ⟨Q, hse.out.ext ((Ext.refl _).alloc _), rfl, hmd.out⟩, HFI.out _ (hin.out.trans' (Inside.of_ext ((Ext.refl _).alloc _)))⟩
        · rw [htv] at ht0 HMS HTS
          have HM1 := Lib.hid (show matchP p a S.W = (Q.W, false) from by rw [HM.out, HMS.out]; rfl)
          have HT1 := Lib.hid (show traceP p a S.W = l from by rw [HTR.out, HTS.out]; simp)
          clear htv
          go_wp2
          go_ret
          rw [HM1.out, HT1.out]
          exact ⟨rfl, ⟨Q, hse.out.ext ((Ext.refl _).alloc _), rfl, hmd.out⟩, HFI.out _ (hin.out.trans' (Inside.of_ext ((Ext.refl _).alloc _)))⟩
      · have HE := Lib.hid (matchW_end (ts := a.args) (W := Q.W) (show p.slots.length ≤ k by omega))
        have HM1 := Lib.hid (show matchP p a S.W = (Q.W, true) from by rw [HM.out, hmw.out, HE.out.1])
        have HT1 := Lib.hid (show traceP p a S.W = l from by rw [HTR.out, htw.out, HE.out.2, List.append_nil])
        go_wp2
        go_ret
        rw [HM1.out, HT1.out]
        exact ⟨rfl, ⟨Q, hse.out, rfl, hmd.out⟩, HFI.out _ hin.out⟩
   · have HM := Lib.hid (show matchP p a S.W = (S.W, false) from by unfold matchP; rw [if_neg (fun h => hll h.2)])
     have HTR := Lib.hid (show traceP p a S.W = [] from by unfold traceP; rw [if_neg (fun h => hll h.2)])
     have hli : ((p.slots.length : Int) == (a.args.length : Int)) = false := by simp; omega
     have hli2 : ((p.slots.length : Int) != (a.args.length : Int)) = true := by simp; omega
     clear hnn hll
     go_enter Tryz.func183, Tryz.ntmps183
     go_wp2_with fail
     rw [← HW0.out]
     go_ret
     rw [HM.out, HTR.out]
     exact ⟨rfl, ⟨S, HS.out, rfl, HMR.out⟩, Inside.of_ext HE0.out⟩
 · have hq1 : (p.n.toList == a.n.toList) = false := str_ne' hnn
   have HM := Lib.hid (show matchP p a S.W = (S.W, false) from by unfold matchP; rw [if_neg (fun h => hnn h.1)])
   have HTR := Lib.hid (show traceP p a S.W = [] from by unfold traceP; rw [if_neg (fun h => hnn h.1)])
   clear hnn
   go_enter Tryz.func183, Tryz.ntmps183
   go_wp2_with fail
   rw [← HW0.out]
   go_ret
   rw [HM.out, HTR.out]
   exact ⟨rfl, ⟨S, HS.out, rfl, HMR.out⟩, Inside.of_ext HE0.out⟩

end Go.Proofs.YtfjdijakgjhieaaGreat

namespace Go.Proofs.YtfjdijakgjhieaaGreat
set_option linter.unusedSimpArgs false
set_option linter.unusedVariables false
open Go.RowKit

def hasText (facts : List GA) (a : GA) : Bool := facts.any fun b => decide (strOf (atomL a) = strOf (atomL b))

set_option maxRecDepth 100000 in
set_option maxHeartbeats 2000000 in
theorem holds_any (a : GA) (tv : Value) (w : World) {F P : Nat → Prop} {stb : Nat} {facts : List GA} {rounds : List Nat} {fv rv : Value} {mb pb nm np : Nat} {f : Value → Value} (h : StoreR F w stb facts rounds fv rv mb pb nm np f) (ht : TermsR P w tv a.args) (hw : wAtom a ≤ 4194304) :
 Calls Tryz.prog 200 #[.pointer (some ⟨stb, 0, none⟩), .agg #[.string a.n, tv]] w fun e w' => e = .returned (.bool (hasText facts a)) ∧ Ext w w' := by
 obtain ⟨A, c, rfl, hc1, hc2⟩ := SliceR.form ht
 have hx := (Ext.refl w).alloc (.cells #[.string a.n, .slice A a.args.length c] 26)
 have hbx := Blk.new w 26 #[.string a.n, .slice A a.args.length c]
 have hst := h.ext hx
 have HT := Lib.hid (fun (W : World) (hW : Ext (w.alloc (.cells #[.string a.n, .slice A a.args.length c] 26)) W) => atomText_any a _ W (ht.ext (hx.trans' hW)) hw)
 have hts : (strOf (atomL a)).size ≤ maxLen := by rw [strOf_size]; have := atomL_len a; unfold maxLen; omega
 obtain ⟨k, hk⟩ : ∃ k, k = (pmOf facts (strOf (atomL a))).getD 0 := ⟨_, rfl⟩
 have HR := Lib.hid (show (pmOf facts (strOf (atomL a))).isSome = hasText facts a from pmOf_some)
 have HX := Lib.hid hx
 clear hk ht
 go_enter Tryz.func200, Tryz.ntmps200
 go_wp2_with fail
 generalize w.alloc (.cells #[.string a.n, .slice A a.args.length c] 26) = u at hst hbx HX HT ⊢
 have b0 := hbx.cell 0
 have b1 := hbx.cell 1
 have bl := hbx.lt
 have s3 := hst.blk.cell 3
 have sl := hst.blk.lt
 have hlk : ∀ n : Later u, (Instr.lookup 187 (.map (some pb)) (.string (strOf (atomL a))) true).run Tryz.prog n.at_ = .ok (.tuple #[.int .i64 (((pmOf facts (strOf (atomL a))).getD 0 : Nat) : Int), .bool (hasText facts a)]) n.at_ := fun n => by
  rw [← HR.out]; exact (hst.pl.ext (n.ext.block _ hst.pl.lt)).look_ok hts
 refine calm_region (by kernel_rfl) (by kernel_rfl) ?_
 repeat (go_big_quiet_step ((go_at_call 179; exact calm_call (HT.out _ (Later.ext _)))))
 refine wpQuiet_nil ?_
 rintro w1 ⟨⟨_, hx1⟩, rfl⟩
 go_wp2
 go_ret
 exact ⟨rfl, HX.out.trans' hx1⟩

set_option maxRecDepth 100000 in
theorem run_index12 {wa : Array Value} {k : Nat} {b : Bool} (hk : k < 12) (e : wa[k]? = some (.bool b)) (w : World) : (Instr.index 144 (.agg wa) (.int .i64 (k : Int))).run Tryz.prog w = .ok (.bool b) w := by
 have h1 : (0 : Int) ≤ (k : Int) := by omega
 have h2 : (k : Int) < 12 := by omega
 simp [Instr.index, asIntOf, run_underlying Tryz.underlying144, part, h1, h2, hk, e, Tryz.isAgg4, Tryz.sizeOf4, Result.andThen]

def settledB (S : Sea) : Bool := (List.range 12).all fun i => !S.wanted.getD i false || !isNo (S.W.at_ i)
theorem settledB_false {S : Sea} {k : Nat} (hk : k < 12) (h1 : S.wanted.getD k false = true) (h2 : isNo (S.W.at_ k) = true) : settledB S = false := by
 unfold settledB
 exact all_false _ _ k k (List.getElem?_range hk) (by rw [h1, h2]; rfl)

set_option maxRecDepth 100000 in
set_option maxHeartbeats 2000000 in
theorem settled_any (S : Sea) (sb : Nat) (w : World) (hs : SeaAt w sb S) :
 Calls Tryz.prog 180 #[.pointer (some ⟨sb, 0, none⟩)] w fun e w' => e = .returned (.bool (settledB S)) ∧ w' = w := by
 have t0 := hs.want (c := 0) (by omega)
 have t1 := hs.want (c := 1) (by omega)
 have t2 := hs.want (c := 2) (by omega)
 have t3 := hs.want (c := 3) (by omega)
 have t4 := hs.want (c := 4) (by omega)
 have t5 := hs.want (c := 5) (by omega)
 have t6 := hs.want (c := 6) (by omega)
 have t7 := hs.want (c := 7) (by omega)
 have t8 := hs.want (c := 8) (by omega)
 have t9 := hs.want (c := 9) (by omega)
 have t10 := hs.want (c := 10) (by omega)
 have t11 := hs.want (c := 11) (by omega)
 have sl := hs.lt
 simp only [Nat.reduceAdd] at t0 t1 t2 t3 t4 t5 t6 t7 t8 t9 t10 t11
 obtain ⟨ws, hws⟩ : ∃ ws : Nat → Bool, ∀ i, S.wanted.getD i false = ws i := ⟨_, fun _ => rfl⟩
 rw [hws] at t0 t1 t2 t3 t4 t5 t6 t7 t8 t9 t10 t11
 have HWS := Lib.hid hws
 clear hws
 go_enter Tryz.func180, Tryz.ntmps180
 go_wp2_with fail
 clear t0 t1 t2 t3 t4 t5 t6 t7 t8 t9 t10 t11
 obtain ⟨wa, hwa⟩ : ∃ wa : Array Value, wa = #[.bool (ws 0), .bool (ws 1), .bool (ws 2), .bool (ws 3), .bool (ws 4), .bool (ws 5), .bool (ws 6), .bool (ws 7), .bool (ws 8), .bool (ws 9), .bool (ws 10), .bool (ws 11)] := ⟨_, rfl⟩
 have HWA := Lib.hid (show ∀ k, k < 12 → wa[k]? = some (.bool (ws k)) from fun k hk => by
  rw [hwa]
  rcases (by omega : k = 0 ∨ k = 1 ∨ k = 2 ∨ k = 3 ∨ k = 4 ∨ k = 5 ∨ k = 6 ∨ k = 7 ∨ k = 8 ∨ k = 9 ∨ k = 10 ∨ k = 11) with rfl | rfl | rfl | rfl | rfl | rfl | rfl | rfl | rfl | rfl | rfl | rfl <;> rfl)
 have hwz : wa.size = 12 := by rw [hwa]; rfl
 rw [← hwa]
 clear hwa
 go_loopw [9] (fun i wr => ∃ k : Nat, k ≤ 12 ∧ i = .int .i64 k ∧ Hid (∀ j, j < k → (!S.wanted.getD j false || !isNo (S.W.at_ j)) = true) ∧ w = wr) (fun i _ => 12 - (intOf i).toNat)
 case atStart => exact ⟨0, Nat.zero_le _, rfl, Lib.hid (fun j h => absurd h (Nat.not_lt_zero _)), rfl⟩
 case round =>
  obtain ⟨k, hk, rfl, hall, rfl⟩ := hrel
  have hk0 : (0 : Int) ≤ (k : Int) := by omega
  by_cases hlt : k < 12
  · have hk1 : (k : Int) < 12 := by omega
    have e0 := HWA.out k hlt
    have y0 := hs.word hlt
    obtain ⟨z, hz⟩ : ∃ z, z = S.W.at_ k := ⟨_, rfl⟩
    rw [← hz] at y0
    have HZ := Lib.hid hz
    clear hz
    cases hb : ws k
    · have HN := Lib.hid (show ∀ j, j < k + 1 → (!S.wanted.getD j false || !isNo (S.W.at_ j)) = true from fun j hj => by
        rcases Nat.lt_or_ge j k with h | h
        · exact hall.out j h
        · rw [show j = k from by omega, HWS.out, hb]; rfl)
      rw [hb] at e0
      have hri := run_index12 hlt e0 w
      clear hb e0
      go_wp2
      go_roundw
      case rel => exact ⟨k + 1, by omega, by go_num, HN, trivial⟩
      case measure => simp [intOf]; omega
    · rw [hb] at e0
      have hri := run_index12 hlt e0 w
      have HB := Lib.hid hb
      clear hb e0
      cases hn : isNo z
      · obtain ⟨hn1, hn2⟩ := notNo_list hn
        have HN := Lib.hid (show ∀ j, j < k + 1 → (!S.wanted.getD j false || !isNo (S.W.at_ j)) = true from fun j hj => by
         rcases Nat.lt_or_ge j k with h | h
         · exact hall.out j h
         · rw [show j = k from by omega, ← HZ.out, hn]; simp)
        clear hn
        go_wp2
        go_roundw
        case rel => exact ⟨k + 1, by omega, by go_num, HN, trivial⟩
        case measure => simp [intOf]; omega
      · obtain ⟨hn1, hn2⟩ := isNo_list hn
        have HF := Lib.hid (settledB_false hlt (by rw [HWS.out]; exact HB.out) (by rw [← HZ.out]; exact hn))
        clear hn
        go_wp2
        go_ret
        exact ⟨by rw [HF.out]; rfl, rfl⟩
  · have HF := Lib.hid (show settledB S = true from by
      unfold settledB
      exact List.all_eq_true.2 (fun j hj => hall.out j (by have := List.mem_range.1 hj; omega)))
    go_wp2
    go_ret
    exact ⟨by rw [HF.out]; rfl, rfl⟩

/-- How far a search has come: its slots ahead of k. -/
theorem cand_take {facts : List GA} {p : GPat} {W : Words} {k : Nat} {sl : GS} (h : p.slots[k]? = some sl) (z : List Nat) : (p.slots.take (k + 1)).zipIdx.foldl (candStep facts p W) z = candStep facts p W ((p.slots.take k).zipIdx.foldl (candStep facts p W) z) (sl, k) := by
 have hk : (p.slots.take k).length = k := by rw [List.length_take]; have := (List.getElem?_eq_some_iff.1 h).1; omega
 rw [List.take_add_one, h, List.zipIdx_append, List.foldl_append, hk]
 simp
set_option maxRecDepth 100000 in
set_option maxHeartbeats 4000000 in
theorem candidates_any (p : GPat) (pv : Value) (S : Sea) (sb : Nat) (w : World) {F P : Nat → Prop} {stb : Nat} {facts : List GA} {rounds : List Nat} {fv rv : Value} {mb pb nm np : Nat} {f : Value → Value} (h : StoreR F w stb facts rounds fv rv mb pb nm np f) (hs : SeaAt w sb S) (hp : SlotsR P w pv p.slots) (hok : ∀ s ∈ p.slots, okSlot 12 s) (hn : p.n.size ≤ maxLen) (hl : p.slots.length ≤ 1000) (hF : ∀ b, F b → b < w.heap.size) :
 Calls Tryz.prog 202 #[.pointer (some ⟨stb, 0, none⟩), .agg #[.string p.n, pv], .pointer (some ⟨sb, 18, none⟩)] w fun e w' => (∃ v, e = .returned v ∧ NumsR F w' v (candP facts p S.W)) ∧ Ext w w' := by
 obtain ⟨A, c, rfl, hc1, hc2⟩ := SliceR.form hp
 obtain ⟨w0, hw0⟩ : ∃ w0, w0 = (w.alloc (.cells #[.string p.n, .slice A p.slots.length c] 184)).alloc (.cells #[.string p.n, .int .i64 (p.slots.length : Int), .int .i64 (-1), .string ⟨#[]⟩] 221) := ⟨_, rfl⟩
 have HX0 := Lib.hid (show Ext w w0 from by rw [hw0]; exact ((Ext.refl _).alloc _).alloc _)
 have hb0 : Blk w0 w.heap.size 184 #[.string p.n, .slice A p.slots.length c] := by rw [hw0]; exact (Blk.new _ _ _).alloc _
 have hk0 : Blk w0 (w.heap.size + 1) 221 #[.string p.n, .int .i64 (p.slots.length : Int), .int .i64 (-1), .string ⟨#[]⟩] := by rw [hw0]; exact Blk.at_new (by simp)
 have HW0 := Lib.hid hw0
 have HST := Lib.hid (h.ext HX0.out)
 have HSE := Lib.hid (hs.ext HX0.out)
 have HP := Lib.hid hp
 have HOK := Lib.hid hok
 have HB0 := Lib.hid hb0
 have HK0 := Lib.hid hk0
 have hsl := hs.lt
 have hstl := h.blk.lt
 clear h hs hp hok hw0 hb0 hk0
 obtain ⟨G0, gn0, gc0, hG0, hgn0, hg01, hg02⟩ := (show ∃ A n c, f (wk p.n p.slots.length none) = .slice A n c ∧ Hid (n = (placesOf facts p.n p.slots.length none).length) ∧ n ≤ c ∧ c ≤ 9223372036854775807 from by
  obtain ⟨A, c, h1, h2, h3⟩ := SliceR.form (HST.out.gr p.n p.slots.length none)
  exact ⟨A, _, c, h1, Lib.hid rfl, h2, h3⟩)
 obtain ⟨kl0, hkl0⟩ := wk_lit (n := p.n) (size := p.slots.length) (o := none) hn (by omega) (fun x h => by cases h)
 have HGR0 := Lib.hid (show NumsR F w0 (.slice G0 gn0 gc0) (placesOf facts p.n p.slots.length none) from by rw [← hG0]; exact HST.out.gr _ _ _)
 have HL0 := Lib.hid (show ∀ W, Ext w0 W → (Instr.lookup 186 (.map (some mb)) (.agg #[.string p.n, .int .i64 (p.slots.length : Int), .int .i64 (-1), .string ⟨#[]⟩]) false).run Tryz.prog W = .ok (.slice G0 gn0 gc0) W from fun W hW => by
  rw [← hG0]; exact (HST.out.mp.ext hW).look hkl0)
 clear hG0 hkl0
 go_enter Tryz.func202, Tryz.ntmps202
 go_wp2_with fail
 rw [← HW0.out]
 have s2 := HST.out.blk.cell 2
 have sl2 := HST.out.blk.lt
 have q0 := HK0.out.cell 0
 have q1 := HK0.out.cell 1
 have q2 := HK0.out.cell 2
 have q3 := HK0.out.cell 3
 have ql := HK0.out.lt
 have hlk : ∀ n : Later w0, (Instr.lookup 186 (.map (some mb)) (.agg #[.string p.n, .int .i64 (p.slots.length : Int), .int .i64 (-1), .string ⟨#[]⟩]) false).run Tryz.prog n.at_ = .ok (.slice G0 gn0 gc0) n.at_ := fun n => HL0.out _ n.ext
 refine calm_region (by kernel_rfl) (by kernel_rfl) ?_
 repeat (go_big_quiet_step (fail))
 refine wpQuiet_nil ?_
 rintro w1 ⟨⟨_, hx1⟩, rfl⟩
 clear s2 sl2 q0 q1 q2 q3 ql hlk
 have r0 := (HB0.out.ext hx1).cell 0
 have r1 := (HB0.out.ext hx1).cell 1
 have rl := (HB0.out.ext hx1).lt
 have HX1 := Lib.hid hx1
 go_wp2_with fail
 clear r0 r1 rl
 go_loopw [8, 28] (fun o i wr => ∃ (k : Nat) (at_ : Int) (wd : ByteArray), k ≤ p.slots.length ∧ i = .int .i64 k ∧ Hid (NumsR F wr o ((p.slots.take k).zipIdx.foldl (candStep facts p S.W) (placesOf facts p.n p.slots.length none))) ∧ Hid (Blk wr (w.heap.size + 1) 221 #[.string p.n, .int .i64 (p.slots.length : Int), .int .i64 at_, .string wd]) ∧ Hid (Inside (fun b => b = w.heap.size + 1) w0 wr)) (fun _ i _ => p.slots.length - (intOf i).toNat)
 case atStart => exact ⟨0, _, _, Nat.zero_le _, rfl, Lib.hid (HGR0.out.ext HX1.out), Lib.hid (HK0.out.ext HX1.out), Lib.hid (Inside.of_ext HX1.out)⟩
 case round =>
  obtain ⟨k, at_, wd, hk, rfl, ho, hkb, hin⟩ := hrel
  have hk0 : (0 : Int) ≤ (k : Int) := by omega
  obtain ⟨O, on, oc, rfl, hon, ho1, ho2⟩ := (show ∃ A n c, _ = Value.slice A n c ∧ Hid (n = _) ∧ n ≤ c ∧ c ≤ 9223372036854775807 from by
   obtain ⟨A, c, h1, h2, h3⟩ := SliceR.form ho.out
   exact ⟨A, _, c, h1, Lib.hid rfl, h2, h3⟩)
  have hinw := (Inside.of_ext (S := fun b => b = w.heap.size + 1) HX0.out).trans' hin.out
  have hbb := hin.out.blk HB0.out (fun e => by omega)
  have HBB := Lib.hid hbb
  have HIW := Lib.hid hinw
  have hsz := hinw.size
  by_cases hlt : k < p.slots.length
  · have hk1 : (k : Int) < (p.slots.length : Int) := by omega
    obtain ⟨bs, os, sl, rfl, hbs, hsk, hss, hs0, hs1⟩ := SlotsR.at_ HP.out hlt
    have c0 := hinw.cell hbs (fun e => by omega) hs0
    have c1 := hinw.cell hbs (fun e => by omega) hs1
    have hbsw : bs < wr.heap.size := by omega
    have hse := HSE.out.inside hin.out (fun e => by omega)
    obtain ⟨z, hz⟩ : ∃ z, z = wordOf S.W sl := ⟨_, rfl⟩
    have hzs : z.size ≤ maxLen := by rw [hz]; exact wordOf_small hse hss
    have HWO := Lib.hid (fun (W : World) (hW : Ext wr W) => show Calls Tryz.prog 203 #[.pointer (some ⟨sb, 18, none⟩), .agg #[.int .i64 sl.num, .string sl.w]] W fun e w' => e = .returned (.string z) ∧ Ext W w' from by
     rw [hz]; exact wordOf_any sl S sb W (hse.ext hW) (HOK.out sl (List.mem_of_getElem? hsk)))
    have HCT := Lib.hid (cand_take (facts := facts) (W := S.W) hsk (placesOf facts p.n p.slots.length none))
    have HZ := Lib.hid hz
    clear hsk hz hs0 hs1 hse hinw hbb
    cases hzn : isNo z
    · obtain ⟨hz1, hz2⟩ := notNo_list hzn
      have HC2 := Lib.hid (show (p.slots.take (k + 1)).zipIdx.foldl (candStep facts p S.W) (placesOf facts p.n p.slots.length none) = if (placesOf facts p.n p.slots.length (some (k, z))).length < ((p.slots.take k).zipIdx.foldl (candStep facts p S.W) (placesOf facts p.n p.slots.length none)).length then placesOf facts p.n p.slots.length (some (k, z)) else (p.slots.take k).zipIdx.foldl (candStep facts p S.W) (placesOf facts p.n p.slots.length none) from by
       rw [HCT.out]; unfold candStep; simp only; rw [← HZ.out, hzn]; rfl)
      clear hzn
      go_wp2_with (go_at_call 203; refine (HWO.out _ ((Ext.refl _).alloc _)).mono ?_; rintro e w5 ⟨rfl, hx5⟩; have HX5 := Lib.hid (show Ext wr w5 from ((Ext.refl _).alloc _).trans' hx5); have k2 := (hkb.out.ext HX5.out).cell 2; have k3 := (hkb.out.ext HX5.out).cell 3; have kf2 := (hkb.out.ext HX5.out).frozen 2; have kf3 := (hkb.out.ext HX5.out).frozen 3; have kl := (hkb.out.ext HX5.out).lt)
      have hku : Blk ((w5.setCell ⟨w.heap.size + 1, 2, none⟩ (.int .i64 (k : Int))).setCell ⟨w.heap.size + 1, 3, none⟩ (.string z)) (w.heap.size + 1) 221 #[.string p.n, .int .i64 (p.slots.length : Int), .int .i64 (k : Int), .string z] := by
       simpa using ((hkb.out.ext HX5.out).set_ 2 (.int .i64 (k : Int))).set_ 3 (.string z)
      have hiu : Inside (fun b => b = w.heap.size + 1) w0 ((w5.setCell ⟨w.heap.size + 1, 2, none⟩ (.int .i64 (k : Int))).setCell ⟨w.heap.size + 1, 3, none⟩ (.string z)) :=
       (hin.out.trans' (Inside.of_ext HX5.out)).trans' ((Inside.set (S := fun b => b = w.heap.size + 1) _ ⟨w.heap.size + 1, 2, none⟩ _ rfl).trans' (Inside.set (S := fun b => b = w.heap.size + 1) _ ⟨w.heap.size + 1, 3, none⟩ _ rfl))
      have hou : NumsR F ((w5.setCell ⟨w.heap.size + 1, 2, none⟩ (.int .i64 (k : Int))).setCell ⟨w.heap.size + 1, 3, none⟩ (.string z)) (.slice O on oc) _ := ho.out.impL (fun _ h _ => h) (((Agree.of_ext HX5.out).setCell (fun hb => by have := hF _ hb; simp only at this; omega) _).setCell (fun hb => by have := hF _ hb; simp only at this; omega) _) (by have := HX5.out.size; go_size)
      clear k2 k3 kf2 kf3 kl
      generalize (w5.setCell ⟨w.heap.size + 1, 2, none⟩ (.int .i64 (k : Int))).setCell ⟨w.heap.size + 1, 3, none⟩ (.string z) = u at hku hiu hou ⊢
      have hstu := HST.out.inside hiu (fun b hb e => by have := hF b hb; omega)
      obtain ⟨G, gn, gc, hG, hgn, hg1, hg2⟩ := (show ∃ A n c, f (wk p.n p.slots.length (some (k, z))) = .slice A n c ∧ Hid (n = (placesOf facts p.n p.slots.length (some (k, z))).length) ∧ n ≤ c ∧ c ≤ 9223372036854775807 from by
       obtain ⟨A, c, h1, h2, h3⟩ := SliceR.form (hstu.gr p.n p.slots.length (some (k, z)))
       exact ⟨A, _, c, h1, Lib.hid rfl, h2, h3⟩)
      obtain ⟨kl, hkl⟩ := wk_lit (n := p.n) (size := p.slots.length) (o := some (k, z)) hn (by omega) (fun x h => by injection h with h; subst h; exact ⟨by show k ≤ _; omega, hzs⟩)
      have hlk : ∀ n : Later u, (Instr.lookup 186 (.map (some mb)) (.agg #[.string p.n, .int .i64 (p.slots.length : Int), .int .i64 (k : Int), .string z]) false).run Tryz.prog n.at_ = .ok (.slice G gn gc) n.at_ := fun n => by
       rw [← hG]; exact (hstu.mp.ext n.ext).look hkl
      have HGU := Lib.hid (show NumsR F u (.slice G gn gc) (placesOf facts p.n p.slots.length (some (k, z))) from by rw [← hG]; exact hstu.gr _ _ _)
      have s2 := hstu.blk.cell 2
      have sl2 := hstu.blk.lt
      have q0 := hku.cell 0
      have q1 := hku.cell 1
      have q2 := hku.cell 2
      have q3 := hku.cell 3
      have ql := hku.lt
      have HKU := Lib.hid hku
      have HIU := Lib.hid hiu
      have HOU := Lib.hid hou
      clear hG hkl hku hiu hou hstu c0 c1
      refine calm_region (by kernel_rfl) (by kernel_rfl) ?_
      repeat (go_big_quiet_step (fail))
      refine wpQuiet_nil ?_
      rintro w6 ⟨⟨_, hx6⟩, rfl⟩
      have HX6 := Lib.hid hx6
      clear s2 sl2 q0 q1 q2 q3 ql hlk
      by_cases hlen : gn < on
      · have hlen' : (gn : Int) < (on : Int) := by omega
        have HC3 := Lib.hid (show (p.slots.take (k + 1)).zipIdx.foldl (candStep facts p S.W) (placesOf facts p.n p.slots.length none) = placesOf facts p.n p.slots.length (some (k, z)) from by rw [HC2.out, if_pos (by rw [← hgn.out, ← hon.out]; exact hlen)])
        go_wp2
        go_roundw
        case rel => exact ⟨k + 1, _, _, by omega, by go_num, Lib.hid (by rw [HC3.out]; exact HGU.out.ext HX6.out), Lib.hid (HKU.out.ext HX6.out), Lib.hid (HIU.out.trans' (Inside.of_ext HX6.out))⟩
        case measure => simp [intOf]; omega
      · have hlen' : ¬ (gn : Int) < (on : Int) := by omega
        have HC3 := Lib.hid (show (p.slots.take (k + 1)).zipIdx.foldl (candStep facts p S.W) (placesOf facts p.n p.slots.length none) = (p.slots.take k).zipIdx.foldl (candStep facts p S.W) (placesOf facts p.n p.slots.length none) from by rw [HC2.out, if_neg (by rw [← hgn.out, ← hon.out]; exact hlen)])
        go_wp2
        go_roundw
        case rel => exact ⟨k + 1, _, _, by omega, by go_num, Lib.hid (by rw [HC3.out]; exact HOU.out.ext HX6.out), Lib.hid (HKU.out.ext HX6.out), Lib.hid (HIU.out.trans' (Inside.of_ext HX6.out))⟩
        case measure => simp [intOf]; omega
    · obtain ⟨hz1, hz2⟩ := isNo_list hzn
      have HC2 := Lib.hid (show (p.slots.take (k + 1)).zipIdx.foldl (candStep facts p S.W) (placesOf facts p.n p.slots.length none) = (p.slots.take k).zipIdx.foldl (candStep facts p S.W) (placesOf facts p.n p.slots.length none) from by
       rw [HCT.out]; unfold candStep; simp only; rw [← HZ.out, hzn]; rfl)
      clear hzn
      go_wp2_with (go_at_call 203; refine (HWO.out _ ((Ext.refl _).alloc _)).mono ?_; rintro e w5 ⟨rfl, hx5⟩; have HX5 := Lib.hid (show Ext wr w5 from ((Ext.refl _).alloc _).trans' hx5))
      go_roundw
      case rel => exact ⟨k + 1, _, _, by omega, by go_num, Lib.hid (by rw [HC2.out]; exact ho.out.ext HX5.out), Lib.hid (hkb.out.ext HX5.out), Lib.hid (hin.out.trans' (Inside.of_ext HX5.out))⟩
      case measure => simp [intOf]; omega
  · have HE := Lib.hid (show p.slots.take k = p.slots from List.take_of_length_le (by omega))
    have h1 := ho.out
    rw [HE.out] at h1
    go_wp2
    go_ret
    exact ⟨⟨_, rfl, h1⟩, hin.out.toExt HX0.out (fun i hi => by omega)⟩

end Go.Proofs.YtfjdijakgjhieaaGreat

namespace Go.Proofs.YtfjdijakgjhieaaGreat
set_option linter.unusedSimpArgs false
set_option linter.unusedVariables false
open Go.RowKit

theorem any_take {α : Type} {p : α → Bool} {l : List α} {k : Nat} {x : α} (h : l[k]? = some x) : (l.take (k + 1)).any p = ((l.take k).any p || p x) := by
 rw [List.take_add_one, h, List.any_append]; simp

set_option maxRecDepth 100000 in
set_option maxHeartbeats 8000000 in
theorem hindered_any (nots : List GPat) (S : Sea) (sb : Nat) (w : World) {F P : Nat → Prop} {stb : Nat} {facts : List GA} {rounds : List Nat} {fv rv : Value} {mb pb nm np : Nat} {f : Value → Value} (h : StoreR F w stb facts rounds fv rv mb pb nm np f) (hs : SeaAt w sb S) (hst : S.st = .pointer (some ⟨stb, 0, none⟩)) (hp : PatsR P w S.q1 nots)
 (hok : ∀ p ∈ nots, (∀ s ∈ p.slots, okSlot 12 s) ∧ p.slots.length ≤ 1000 ∧ wAtom (factP S.W p) ≤ 4194304) :
 Calls Tryz.prog 181 #[.pointer (some ⟨sb, 0, none⟩)] w fun e w' => e = .returned (.bool (nots.any fun p => hasText facts (factP S.W p))) ∧ Ext w w' := by
 obtain ⟨A, c, hq1, hc1, hc2⟩ := SliceR.form hp
 have t0 := hs.st
 have t2 := hs.q1
 rw [hst] at t0
 rw [hq1] at t2 hp
 have HST := Lib.hid h
 have HSE := Lib.hid hs
 have HP := Lib.hid hp
 have HOK := Lib.hid hok
 have sl := hs.lt
 have HT0 := Lib.hid t0
 clear h hs hp hok hst hq1
 go_enter Tryz.func181, Tryz.ntmps181
 go_wp2_with fail
 clear t0 t2
 go_loopw [11] (fun i wr => ∃ k : Nat, k ≤ nots.length ∧ i = .int .i64 k ∧ Hid (((nots.take k).any fun p => hasText facts (factP S.W p)) = false) ∧ Ext w wr) (fun i _ => nots.length - (intOf i).toNat)
 case atStart => exact ⟨0, Nat.zero_le _, rfl, Lib.hid rfl, Ext.refl _⟩
 case round =>
  obtain ⟨k, hk, rfl, hall, hx⟩ := hrel
  have hk0 : (0 : Int) ≤ (k : Int) := by omega
  by_cases hlt : k < nots.length
  · have hk1 : (k : Int) < (nots.length : Int) := by omega
    obtain ⟨bp, op, p, vp, rfl, hbp, hpk, hpn, hps, hp0, hp1⟩ := PatsR.at_ HP.out hlt
    obtain ⟨G, cg, rfl, hcg1, hcg2⟩ := SliceR.form hps
    have r0 := (hx.cells.1 bp (op + k * 2) hbp).trans hp0
    have r1 := (hx.cells.1 bp (op + k * 2 + 1) hbp).trans hp1
    have hbw : bp < wr.heap.size := Nat.lt_of_lt_of_le hbp hx.size
    obtain ⟨ho1, ho2, ho3⟩ := HOK.out p (List.mem_of_getElem? hpk)
    have HWA := Lib.hid ho3
    have HFC := Lib.hid (fun (W : World) (hW : Ext (wr.alloc (.cells #[.string p.n, .slice G p.slots.length cg] 184)) W) => bfact_any p _ S sb W (HSE.out.ext (hx.trans' (((Ext.refl wr).alloc _).trans' hW))) (hps.ext (hx.trans' (((Ext.refl wr).alloc _).trans' hW))) ho1 ho2)
    have hbx := Blk.new wr 184 #[.string p.n, .slice G p.slots.length cg]
    have HSW2 := Lib.hid (show ∀ W, Ext (wr.alloc (.cells #[.string p.n, .slice G p.slots.length cg] 184)) W → W.cell? ⟨sb, 0, none⟩ = some (.pointer (some ⟨stb, 0, none⟩)) ∧ W.cell? ⟨wr.heap.size, 0, none⟩ = some (.string p.n) ∧ W.cell? ⟨wr.heap.size, 1, none⟩ = some (.slice G p.slots.length cg) from fun W hW =>
     ⟨((hx.trans' (((Ext.refl wr).alloc _).trans' hW)).cells.1 sb 0 sl).trans HT0.out, (hbx.ext hW).cell 0, (hbx.ext hW).cell 1⟩)
    have HSW := Lib.hid (show ∀ W, Ext wr W → W = (wr.alloc (.cells #[.string p.n, .slice G p.slots.length cg] 184)).drew → W.cell? ⟨sb, 0, none⟩ = some (.pointer (some ⟨stb, 0, none⟩)) ∧ W.cell? ⟨wr.heap.size, 0, none⟩ = some (.string p.n) ∧ W.cell? ⟨wr.heap.size, 1, none⟩ = some (.slice G p.slots.length cg) from fun W _ e => by rw [e]; exact HSW2.out _ (Ext.refl _).drew)
    have HPK := Lib.hid hpk
    clear hpk hp0 hp1 hps ho1 ho3 hbx
    go_wp2_with fail
    refine wp_region_noPanic ?_
    refine wp_region_held_drew (S := (fun w' => w'.cell? ⟨sb, 0, none⟩ = some (.pointer (some ⟨stb, 0, none⟩)) ∧ w'.cell? ⟨wr.heap.size, 0, none⟩ = some (.string p.n) ∧ w'.cell? ⟨wr.heap.size, 1, none⟩ = some (.slice G p.slots.length cg))) (by kernel_rfl) ?_ (fun hHeld => ?_)
    · (try dsimp only); (first | exact HSW.out _ (((Ext.refl wr).alloc _).drew) rfl | exact HSW2.out _ HX4.out | exact HSW2.out _ HX5.out)
    refine tk 0 (v := ?_) rfl ?_ ?_
    rotate_left
    · (intro w hSw; (try dsimp only at hSw); go_simp) <;> with_reducible rfl
    try simp only [Act.put, stz]
    refine tk 1 (v := ?_) rfl ?_ ?_
    rotate_left
    · (intro w hSw; (try dsimp only at hSw); go_simp) <;> with_reducible rfl
    try simp only [Act.put, stz]
    refine tk 2 (v := ?_) rfl ?_ ?_
    rotate_left
    · (intro w hSw; (try dsimp only at hSw); go_simp) <;> with_reducible rfl
    try simp only [Act.put, stz]
    refine tk 3 (v := ?_) rfl ?_ ?_
    rotate_left
    · (intro w hSw; (try dsimp only at hSw); go_simp) <;> with_reducible rfl
    try simp only [Act.put, stz]
    refine tk 4 (v := ?_) rfl ?_ ?_
    rotate_left
    · (intro w hSw; (try dsimp only at hSw); go_simp) <;> with_reducible rfl
    try simp only [Act.put, stz]
    refine tk 5 (v := ?_) rfl ?_ ?_
    rotate_left
    · (intro w hSw; (try dsimp only at hSw); go_simp) <;> with_reducible rfl
    try simp only [Act.put, stz]
    refine tk 6 (v := ?_) rfl ?_ ?_
    rotate_left
    · (intro w hSw; (try dsimp only at hSw); go_simp) <;> with_reducible rfl
    try simp only [Act.put, stz]
    refine tk 7 (v := ?_) rfl ?_ ?_
    rotate_left
    · (intro w hSw; (try dsimp only at hSw); go_simp) <;> with_reducible rfl
    try simp only [Act.put, stz]
    refine wpAnyH_ready (rs := [8]) (by kernel_rfl) (by simp) ?_
    refine AllReadyH.cons (o := _) rfl (fun K hK => ?_) ?_
    · go_simp
      go_at_call 201; refine (HFC.out _ (Ext.refl _).drew).mono ?_; rintro e w4 ⟨⟨v4, rfl, hv4⟩, hx4⟩
      have HX4 := Lib.hid (show Ext (wr.alloc (.cells #[.string p.n, .slice G p.slots.length cg] 184)) w4 from (Ext.refl _).drew.trans' hx4)
      have HV4 := Lib.hid hv4
      obtain ⟨G4, c4, rfl, hg41, hg42⟩ := SliceR.form hv4
      clear hv4 hx4
      refine hK.out _ _ ?_ (fun hNew => ?_)
      · (try dsimp only); (first | exact HSW.out _ (((Ext.refl wr).alloc _).drew) rfl | exact HSW2.out _ HX4.out | exact HSW2.out _ HX5.out)
      clear hK K hHeld
      have hHeld := hNew
      clear hNew
      try simp only [Act.put, stz]
      refine wpAnyH_ready (rs := [9]) (by kernel_rfl) (by simp) ?_
      refine AllReadyH.cons (o := _) rfl (fun K hK => ?_) ?_
      · go_simp
        go_at_call 200; refine (holds_any (factP S.W p) _ _ (HST.out.ext (hx.trans' (((Ext.refl wr).alloc _).trans' HX4.out))) HV4.out HWA.out).mono ?_; rintro e w5 ⟨rfl, hx5⟩
        have HX5 := Lib.hid (show Ext (wr.alloc (.cells #[.string p.n, .slice G p.slots.length cg] 184)) w5 from HX4.out.trans' hx5)
        refine hK.out _ _ ?_ (fun hNew => ?_)
        · (try dsimp only); (first | exact HSW.out _ (((Ext.refl wr).alloc _).drew) rfl | exact HSW2.out _ HX4.out | exact HSW2.out _ HX5.out)
        clear hK K hHeld
        have hHeld := hNew
        clear hNew
        try simp only [Act.put, stz]
        refine wpAnyH_done (by kernel_rfl) ?_ _
        refine NoPanic.normal ?_
        cases hb : hasText facts (factP S.W p)
        · have HN := Lib.hid (show ((nots.take (k + 1)).any fun p => hasText facts (factP S.W p)) = false from by rw [any_take HPK.out, hall.out, hb]; rfl)
          clear hb
          go_wp2
          go_roundw
          case rel => exact ⟨k + 1, by omega, by go_num, HN, (hx.alloc _).trans' HX5.out⟩
          case measure => simp [intOf]; omega
        · have HF := Lib.hid (show (nots.any fun p => hasText facts (factP S.W p)) = true from List.any_eq_true.2 ⟨p, List.mem_of_getElem? HPK.out, hb⟩)
          clear hb
          go_wp2
          go_ret
          exact ⟨by rw [HF.out]; rfl, (hx.alloc _).trans' HX5.out⟩
      exact AllReadyH.nil
    exact AllReadyH.nil
  · have HE := Lib.hid (show (nots.any fun p => hasText facts (factP S.W p)) = false from by have := hall.out; rwa [List.take_of_length_le (by omega)] at this)
    go_wp2
    go_ret
    exact ⟨by rw [HE.out]; rfl, hx⟩

end Go.Proofs.YtfjdijakgjhieaaGreat
