/- For all codes FnAskFact returns true: the walk and the row. No condition. -/
import Derived.Test.YtfjdijakgjhieaaGreatAskf19
import Derived.Test.YtfjdijakgjhieaaGreatAskf20
import Derived.Test.YtfjdijakgjhieaaGreatAskf21
import Derived.Test.YtfjdijakgjhieaaGreatAskf22
namespace Go.Proofs.YtfjdijakgjhieaaGreat
set_option linter.unusedSimpArgs false
set_option linter.unusedVariables false
open Go.RowKit Go.ChangeShapes Go.WideShapes

theorem part_one {w : World} {g : Nat} {t : TypeId} {no : Bool} {a : GA} {u : Value} {S : Nat → Prop} (hb : Blk w g t #[.bool no, .string a.n, u]) (hs : a.n.size ≤ maxLen) (hu : TermsR S w u a.args) :
    PartsR Any w (.slice (some ⟨g, 0, none⟩) 1 1) [⟨no, a⟩] :=
  ElemsK.one (k := kPart) (S := Any) (l := [.bool no, .string a.n, u]) hb ⟨_, rfl, hs, hu.sub fun _ _ => trivial⟩

theorem hasB_fact {xs : List GA} {a : GA} (hx : factsB xs 300 = true) (ha : atomOkB a = true) (h : ∀ t ∈ a.args, t.v = false) : hasB xs a = hasA xs a := by
  unfold hasB factB
  rw [hx, ha, List.all_eq_true.2 (fun t ht => by rw [h t ht]; rfl)]
  rfl

set_option maxRecDepth 100000 in
set_option maxHeartbeats 8000000 in
theorem fnAskFact_any (v : Value) (xs : List UInt8) (w : World) {S : Nat → Prop} (hv : BytesR S w v xs) :
    Calls Tryz.prog 3 #[v] w fun e w' => e = .returned (.bool true) ∧ Ext w w' := by
  obtain ⟨A, c, rfl, hc1, hc2⟩ := SliceR.form hv
  have HV := Lib.hid hv
  clear hv
  by_cases h1 : 1048576 < xs.length
  · go_enter Tryz.func3, Tryz.ntmps3
    go_wp2
    go_ret
    exact ⟨rfl, Ext.refl _⟩
  go_enter Tryz.func3, Tryz.ntmps3
  go_wp2_with fail
  refine (drawFactsHas_any _ xs _ HV.out).mono ?_
  rintro e w1 ⟨⟨ys, a, v1, u1, rfl, hv1, hu1, hm, hl, hms⟩, hx1⟩
  obtain ⟨B, d, rfl, hd1, hd2⟩ := SliceR.form hv1
  obtain ⟨D, f, rfl, hf1, hf2⟩ := SliceR.form hu1
  have hs : a.n.size ≤ maxLen := maxOf (by have := hm.1; omega)
  have HX1 := Lib.hid hx1
  have HV1 := Lib.hid hv1
  have HU1 := Lib.hid hu1
  have HXA := Lib.hid ((Ext.refl w1).alloc (.cells #[.string a.n, .slice D a.args.length f] 26))
  have HB := Lib.hid (Blk.new w1 26 #[.string a.n, .slice D a.args.length f])
  have HIH := Lib.hid (fun (W : World) (hW : Ext w1 W) => factsHas_any ys a _ _ W (hv1.ext hW) (hu1.ext hW) hs)
  have HSH := Lib.hid (fun (W : World) (hW : Ext w1 W) => specFactsHas_any ys a _ _ W (hv1.ext hW) (hu1.ext hW) hs)
  have HFO := Lib.hid (fun (W : World) (hW : Ext w1 W) => specFactsOk_any _ ys W (hv1.ext hW))
  have HAO := Lib.hid (fun (W : World) (hW : Ext w1 W) => specAtomOk_any a _ W hs (hu1.ext hW))
  obtain ⟨q, hq⟩ : ∃ q, q = hasB ys a := ⟨_, rfl⟩
  rw [← hq] at HIH HSH
  have HQ := Lib.hid hq
  have tok : True := trivial
  clear hv1 hu1 hx1 hq hm hms
  rcases Bool.eq_false_or_eq_true (factsB ys 300) with hfo | hfo
  · rw [hfo] at HFO
    rcases Bool.eq_false_or_eq_true (atomOkB a) with hao | hao
    · rw [hao] at HAO
      have HOK := Lib.hid (show factsB ys 300 = true ∧ atomOkB a = true from ⟨hfo, hao⟩)
      clear hfo hao
      go_wp2_with (first
        | (go_at_call 10; refine (HIH.out _ HXA.out).mono ?_; rintro e w2 ⟨rfl, hx2⟩
           have HX2 := Lib.hid (HXA.out.trans' hx2)
           have hb2 := HB.out.ext hx2
           have t0 := hb2.cell 0
           have t1 := hb2.cell 1
           have tl := hb2.lt
           have HB2 := Lib.hid hb2
           clear hb2 hx2)
        | (go_at_call 11; have _t := tok; refine (HSH.out _ HX2.out).mono ?_; clear tok _t; rintro e w3 ⟨rfl, hx3⟩
           have HX3 := Lib.hid (HX2.out.trans' hx3)
           have hb3 := HB2.out.ext hx3
           have s0 := hb3.cell 0
           have s1 := hb3.cell 1
           have sl := hb3.lt
           have HB3 := Lib.hid hb3
           clear hb3 hx3)
        | (go_at_call 12; refine (HFO.out _ HX3.out).mono ?_; rintro e w4 ⟨rfl, hx4⟩
           have HX4 := Lib.hid (HX3.out.trans' hx4)
           have hb4 := HB3.out.ext hx4
           have r0 := hb4.cell 0
           have r1 := hb4.cell 1
           have rl := hb4.lt
           have HB4 := Lib.hid hb4
           clear hb4 hx4)
        | (go_at_call 13; refine (HAO.out _ HX4.out).mono ?_; rintro e w5 ⟨rfl, hx5⟩
           have HX5 := Lib.hid (HX4.out.trans' hx5)
           have hb5 := HB4.out.ext hx5
           have p0 := hb5.cell 0
           have p1 := hb5.cell 1
           have pl := hb5.lt
           have HB5 := Lib.hid hb5
           clear hb5 hx5)
        | fail)
      have HW5 := Lib.hid (HX1.out.trans' HX5.out)
      have HU5 := Lib.hid (HU1.out.ext HX5.out)
      have HAQ := Lib.hid (fun (hall : ∀ t ∈ a.args, t.v = false) (no : Bool) (u : Value) (W : World) (T : Nat → Prop) (hW : Ext w1 W) (hu : PartsR T W u [⟨no, a⟩]) =>
        show Calls Tryz.prog 14 #[.slice B ys.length d, u] W fun e w' => (∃ A c, e = .returned (.slice A (if q = no then 0 else 1) c)) ∧ Ext W w' from
          (implAsk_any ys [⟨no, a⟩] _ u W (HV1.out.ext hW) hu).mono fun e w' ⟨⟨b, he, hb⟩, hx⟩ => by
            refine ⟨?_, hx⟩
            obtain ⟨A, c, hbv, _, _⟩ := SliceR.form hb.read
            refine ⟨A, c, ?_⟩
            rw [he, hbv, fact_rows HOK.out.1 HOK.out.2 hall no, ← hasB_fact HOK.out.1 HOK.out.2 hall, ← HQ.out]
            split <;> rfl)
      go_loopw [6] (fun i wr => ∃ k : Nat, k ≤ a.args.length ∧ i = .int .i64 k ∧ Hid (∀ t ∈ a.args.take k, t.v = false) ∧ Ext w5 wr) (fun i _ => a.args.length - (intOf i).toNat)
      case atStart => exact ⟨0, Nat.zero_le _, rfl, by intro t ht; simp at ht, Ext.refl _⟩
      case round =>
        obtain ⟨k, hk, rfl, hall, hx⟩ := hrel
        have HX := Lib.hid hx
        have hb6 := HB5.out.ext hx
        have u0 := hb6.cell 0
        have u1 := hb6.cell 1
        have ul := hb6.lt
        have HB6 := Lib.hid hb6
        clear hb6
        by_cases hlt : k < a.args.length
        · have hlt' : (k : Int) < (a.args.length : Int) := by omega
          obtain ⟨b, o, t, rfl, hb, hxm, hxs, hc0, hc1'⟩ := TermsR.at_ (HU5.out.ext hx) hlt
          clear hx
          rcases Bool.eq_false_or_eq_true t.v with htv | htv
          · rw [htv] at hc0
            go_wp2
            go_ret
            exact ⟨rfl, HW5.out.trans' HX.out⟩
          · have HN := Lib.hid (show ∀ t ∈ a.args.take (k + 1), t.v = false from fun y hy => by
              rw [List.take_add_one, hxm] at hy
              rcases List.mem_append.1 hy with h | h
              · exact hall.out y h
              · simp at h; subst h; exact htv)
            rw [htv] at hc0
            go_wp2
            go_roundw
            case rel => exact ⟨k + 1, by omega, by go_num, HN, HX.out⟩
            case measure => simp [intOf]; omega
        · have hlt' : ¬ (k : Int) < (a.args.length : Int) := by omega
          have hall' : ∀ t ∈ a.args, t.v = false := by
            have := hall.out
            rw [List.take_of_length_le (by omega)] at this
            exact this
          have HAQ' := HAQ.out hall'
          have HW6 := Lib.hid (HX5.out.trans' hx)
          have HP := Lib.hid (fun (W : World) (no : Bool) (hW : Ext w1 W) => part_one (w := W.alloc (.cells #[.bool no, .string a.n, .slice D a.args.length f] 37)) (no := no) (Blk.new W 37 #[.bool no, .string a.n, .slice D a.args.length f]) hs (HU1.out.ext (hW.alloc _)))
          clear hall' hx hlt HIH HSH HFO HAO
          cases q
          · have H0 := Lib.hid (show ∀ (u : Value) (W : World) (T : Nat → Prop), Ext w1 W → PartsR T W u [⟨false, a⟩] → Calls Tryz.prog 14 #[.slice B ys.length d, u] W fun e w' => (∃ A c, e = .returned (.slice A 0 c)) ∧ Ext W w' from HAQ' false)
            have H1 := Lib.hid (show ∀ (u : Value) (W : World) (T : Nat → Prop), Ext w1 W → PartsR T W u [⟨true, a⟩] → Calls Tryz.prog 14 #[.slice B ys.length d, u] W fun e w' => (∃ A c, e = .returned (.slice A 1 c)) ∧ Ext W w' from HAQ' true)
            have tok2 : True := trivial
            clear HAQ' HAQ
            go_wp2_with (first
              | (go_at_call 14; have _t := tok2; clear tok2 _t; refine (H0.out _ _ _ (HW6.out.alloc _) (HP.out _ _ HW6.out)).mono ?_; rintro e w7 ⟨⟨A7, c7, rfl⟩, hx7⟩
                 have HW7 := Lib.hid ((HW6.out.alloc _).trans' hx7)
                 have hb7 := (HB6.out.alloc _).ext hx7
                 have z0 := hb7.cell 0
                 have z1 := hb7.cell 1
                 have zl := hb7.lt
                 clear hb7 hx7)
              | (go_at_call 14; refine (H1.out _ _ _ (HW7.out.alloc _) (HP.out _ _ HW7.out)).mono ?_; rintro e w8 ⟨⟨A8, c8, rfl⟩, hx8⟩
                 have HW8 := Lib.hid ((HW7.out.alloc _).trans' hx8)
                 clear hx8)
              | fail)
            go_ret
            exact ⟨rfl, HX1.out.trans' HW8.out⟩
          · have H0 := Lib.hid (show ∀ (u : Value) (W : World) (T : Nat → Prop), Ext w1 W → PartsR T W u [⟨false, a⟩] → Calls Tryz.prog 14 #[.slice B ys.length d, u] W fun e w' => (∃ A c, e = .returned (.slice A 1 c)) ∧ Ext W w' from HAQ' false)
            have H1 := Lib.hid (show ∀ (u : Value) (W : World) (T : Nat → Prop), Ext w1 W → PartsR T W u [⟨true, a⟩] → Calls Tryz.prog 14 #[.slice B ys.length d, u] W fun e w' => (∃ A c, e = .returned (.slice A 0 c)) ∧ Ext W w' from HAQ' true)
            have tok2 : True := trivial
            clear HAQ' HAQ
            go_wp2_with (first
              | (go_at_call 14; have _t := tok2; clear tok2 _t; refine (H0.out _ _ _ (HW6.out.alloc _) (HP.out _ _ HW6.out)).mono ?_; rintro e w7 ⟨⟨A7, c7, rfl⟩, hx7⟩
                 have HW7 := Lib.hid ((HW6.out.alloc _).trans' hx7)
                 have hb7 := (HB6.out.alloc _).ext hx7
                 have z0 := hb7.cell 0
                 have z1 := hb7.cell 1
                 have zl := hb7.lt
                 clear hb7 hx7)
              | (go_at_call 14; refine (H1.out _ _ _ (HW7.out.alloc _) (HP.out _ _ HW7.out)).mono ?_; rintro e w8 ⟨⟨A8, c8, rfl⟩, hx8⟩
                 have HW8 := Lib.hid ((HW7.out.alloc _).trans' hx8)
                 clear hx8)
              | fail)
            go_ret
            exact ⟨rfl, HX1.out.trans' HW8.out⟩
    · rw [hao] at HAO
      clear hfo hao
      go_wp2_with (first
        | (go_at_call 10; refine (HIH.out _ HXA.out).mono ?_; rintro e w2 ⟨rfl, hx2⟩
           have HX2 := Lib.hid (HXA.out.trans' hx2)
           have hb2 := HB.out.ext hx2
           have t0 := hb2.cell 0
           have t1 := hb2.cell 1
           have tl := hb2.lt
           have HB2 := Lib.hid hb2
           clear hb2 hx2)
        | (go_at_call 11; have _t := tok; refine (HSH.out _ HX2.out).mono ?_; clear tok _t; rintro e w3 ⟨rfl, hx3⟩
           have HX3 := Lib.hid (HX2.out.trans' hx3)
           have hb3 := HB2.out.ext hx3
           have s0 := hb3.cell 0
           have s1 := hb3.cell 1
           have sl := hb3.lt
           have HB3 := Lib.hid hb3
           clear hb3 hx3)
        | (go_at_call 12; refine (HFO.out _ HX3.out).mono ?_; rintro e w4 ⟨rfl, hx4⟩
           have HX4 := Lib.hid (HX3.out.trans' hx4)
           have hb4 := HB3.out.ext hx4
           have r0 := hb4.cell 0
           have r1 := hb4.cell 1
           have rl := hb4.lt
           have HB4 := Lib.hid hb4
           clear hb4 hx4)
        | (go_at_call 13; refine (HAO.out _ HX4.out).mono ?_; rintro e w5 ⟨rfl, hx5⟩
           have HX5 := Lib.hid (HX4.out.trans' hx5)
           have hb5 := HB4.out.ext hx5
           have p0 := hb5.cell 0
           have p1 := hb5.cell 1
           have pl := hb5.lt
           have HB5 := Lib.hid hb5
           clear hb5 hx5)
        | (go_at_call 11; refine (HSH.out _ HX5.out).mono ?_; rintro e w6 ⟨rfl, hx6⟩)
        | fail)
      go_ret
      exact ⟨by simp, (HX1.out.trans' HX5.out).trans' hx6⟩
  · rw [hfo] at HFO
    clear hfo
    go_wp2_with (first
      | (go_at_call 10; refine (HIH.out _ HXA.out).mono ?_; rintro e w2 ⟨rfl, hx2⟩
         have HX2 := Lib.hid (HXA.out.trans' hx2)
         have hb2 := HB.out.ext hx2
         have t0 := hb2.cell 0
         have t1 := hb2.cell 1
         have tl := hb2.lt
         have HB2 := Lib.hid hb2
         clear hb2 hx2)
      | (go_at_call 11; have _t := tok; refine (HSH.out _ HX2.out).mono ?_; clear tok _t; rintro e w3 ⟨rfl, hx3⟩
         have HX3 := Lib.hid (HX2.out.trans' hx3)
         have hb3 := HB2.out.ext hx3
         have s0 := hb3.cell 0
         have s1 := hb3.cell 1
         have sl := hb3.lt
         have HB3 := Lib.hid hb3
         clear hb3 hx3)
      | (go_at_call 12; refine (HFO.out _ HX3.out).mono ?_; rintro e w4 ⟨rfl, hx4⟩
         have HX4 := Lib.hid (HX3.out.trans' hx4)
         have hb4 := HB3.out.ext hx4
         have r0 := hb4.cell 0
         have r1 := hb4.cell 1
         have rl := hb4.lt
         have HB4 := Lib.hid hb4
         clear hb4 hx4)
      | (go_at_call 11; refine (HSH.out _ HX4.out).mono ?_; rintro e w6 ⟨rfl, hx6⟩)
      | fail)
    go_ret
    exact ⟨by simp, (HX1.out.trans' HX4.out).trans' hx6⟩

set_option maxRecDepth 100000 in
theorem askFact_lifted (os : Os) (started : os.Started) (H : Type) (enc : TypeId × Value → H) :
    ReturnsInHanded {} Tryz.checked os 3 .any (Rows.fnAskFactSpec.pre6 enc Tryz.prog Tryz.f3 Rows.fnAskFactRow.domain false) (Rows.fnAskFactSpec.post enc Tryz.prog Tryz.f3 false true false false) := by
  refine returnsInHanded_of_change (C := Tryz.checked) law_own started (by kernel_rfl) Tryz.func3
    (ChangeSpec.witness6 (enc := enc) (C := Tryz.checked) false ⟨#[], #[.slice none 0 0], []⟩ 8 (by kernel_rfl) (by kernel_rfl) (by kernel_rfl) (by kernel_rfl)) ?_
  intro W base args ds gs before hval0 hW hcnd _
  have hW' := hW
  obtain ⟨p, q, hA0, hV, rfl, hfz, hnd⟩ := hW
  have hA : DataW.TrodAll enc Tryz.prog W 0 (fun _ => true) true Tryz.f3.params.toList args.toList ds p := hA0
  have hval : ∀ (j : Nat) t v, Tryz.f3.params[j]? = some t → args[j]? = some v → Value.okWide Tryz.prog W .any base t v := hval0
  rw [Tryz.params3] at hA hval
  obtain ⟨v0, d0, rfl, rfl, ⟨k0, h0⟩⟩ := trodAll_one hA
  obtain ⟨rfl, rfl⟩ := trodVars_none hV
  obtain ⟨_, _, _, rfl⟩ := okWide_slice Tryz.underlying22 (hval 0 22 v0 rfl rfl)
  obtain ⟨xs, hxs⟩ := read_bytes h0
  clear hA0 hval0
  simp only [List.append_nil] at hW'
  refine (fnAskFact_any _ xs W hxs).mono fun e W' ⟨he, hw⟩ => ?_
  subst he
  exact ⟨_, rfl, law_post (t := 4) rfl rfl Tryz.underlying4 rfl law_laidOut (by rw [Tryz.params3]; intro t ht; simp at ht; subst ht; exact ⟨by kernel_rfl, of_decide_eq_true (by kernel_rfl)⟩) hW' hw⟩

theorem askFact_holds : Rows.FnAskFactSaid :=
  OpenClaim.holds_of_wide 3 Tryz.f3 rfl rfl rfl rfl rfl rfl rfl ⟨rfl, rfl, rfl, rfl, rfl⟩ rfl rfl rfl rfl rfl (by kernel_rfl) Tryz.func3 (by kernel_rfl)
    (of_decide_eq_true (by kernel_rfl)) (by unfold Func.isWrapper; rw [if_neg (of_decide_eq_false (by kernel_rfl))]; exact ⟨rfl, rfl⟩)
    (fun os started H enc _ => askFact_lifted os started H enc)

end Go.Proofs.YtfjdijakgjhieaaGreat
