/- The walk of the program's ProgCheck. -/
import Derived.Test.YthndnkafckapnaaGreatDoorStrata
import Derived.Test.YthndnkafckapnaaGreatDoorRlU
import Derived.Test.YthndnkafckapnaaGreatDoorRlW
import Derived.Test.YthndnkafckapnaaGreatDoorAs
namespace Go.Proofs.YthndnkafckapnaaGreatDoor
open Go.RowKit

/-- What errors.As reads of the library. -/
def ErrIs (w : World) : Prop := w.cell? ⟨1, 0, none⟩ = some (.iface 249 (.agg #[.pointer (some ⟨8, 69, none⟩)]))
theorem ErrIs.ext {w w' : World} (h : ErrIs w) (hx : Ext w w') : ErrIs w' := (hx.cells.1 _ _ (cell_lt h)).trans h
theorem as_hit_ext (e : Addr) (g : Nat) (old : Value) (w : World) (he : ErrIs w) (hb : Blk w g 194 #[old]) :
    Calls Tryz.prog 146 #[.iface 194 (.pointer (some e)), .iface 196 (.pointer (some ⟨g, 0, none⟩))] w fun ev w' => ev = .returned (.bool true) ∧ ∀ w0, Ext w0 w → w0.heap.size ≤ g → Ext w0 w' := by
  refine (as_hit e ⟨g, 0, none⟩ old w he (by rw [hb.cell]; rfl) (hb.frozen 0)).mono fun ev w' h => ⟨h.1, fun w0 hx hg => ?_⟩
  rw [h.2]
  exact Ext.setNew ((((hx.alloc _).alloc _).alloc _).alloc _) hg _

theorem ruleOk_args {r : GR} (h : ruleOkB r = true) : ∀ a ∈ ruleAtoms r, a.args.length ≤ 3 := by
  rw [ruleOkB_eq, Bool.and_eq_true, Bool.and_eq_true] at h
  have key : ∀ a : GA, atomOkB a = true → a.args.length ≤ 3 := fun a ha => by
    unfold atomOkB at ha
    simp only [Bool.and_eq_true, decide_eq_true_eq] at ha
    exact ha.1.2
  intro a ha
  rcases List.mem_cons.1 ha with rfl | ha
  · exact key _ h.2.1
  · obtain ⟨p, hp, rfl⟩ := List.mem_map.1 ha
    exact key _ (List.all_eq_true.1 h.1 p hp)

set_option maxRecDepth 100000 in
set_option maxHeartbeats 4000000 in
theorem progCheck_any (v : Value) (l : List GR) (w : World) {S : Nat → Prop} (hv : RulesR S w v l) (he : ErrIs w) :
    Calls Tryz.prog 104 #[v] w fun e w' => e = .returned (.int .i64 ((progCheckN l : Nat) : Int)) ∧ Ext w w' := by
  obtain ⟨A, c, rfl, hc1, hc2⟩ := SliceR.form hv
  have HV := Lib.hid hv
  have HE := Lib.hid he
  clear hv he
  go_enter Tryz.func104, Tryz.ntmps104
  go_wp2
  go_loopw [12] (fun i wr => ∃ k : Nat, k ≤ l.length ∧ i = .int .i64 k ∧ Hid ((l.take k).all ruleOkB = true) ∧ Ext w wr) (fun i _ => l.length - (intOf i).toNat)
  case atStart => exact ⟨0, Nat.zero_le _, rfl, rfl, Ext.refl _⟩
  case round =>
    obtain ⟨k, hk, rfl, hp, hx⟩ := hrel
    have hk0 : (0 : Int) ≤ (k : Int) := by omega
    by_cases hlt : k < l.length
    · obtain ⟨b, off, x, v1, u1, rfl, hb, hxk, hxs, ht, hu, p0, p1, p2⟩ := RulesR.at_ (HV.out.ext hx) hlt
      obtain ⟨C, e, rfl, he1, he2⟩ := SliceR.form ht
      obtain ⟨D, f, rfl, hf1, hf2⟩ := SliceR.form hu
      have hk1 : (k : Int) < (l.length : Int) := by omega
      have HK := Lib.hid hxk
      have hx0 := (Ext.refl wr).alloc (.cells #[.string x.head.n, .slice C x.head.args.length e, .slice D x.body.length f] 95)
      have hwb := bool_ways (bodyOk_any _ x.body _ (hu.ext hx0))
      have hwa := fun (W : World) (hW : Ext wr W) => bool_ways (atomOk_any x.head _ W hxs (ht.ext hW))
      have HRB := Lib.hid (Blk.new wr 95 #[.string x.head.n, .slice C x.head.args.length e, .slice D x.body.length f])
      have HX0 := Lib.hid hx0
      have hro := ruleOkB_other x
      clear hxk ht hu hx0
      cases hbo : (decide (x.body.length ≤ 4) && x.body.all partOkB)
      · have HF := Lib.hid (show progCheckN l = 1 from by unfold progCheckN; rw [if_pos (all_false ruleOkB _ k x HK.out (by rw [hro, hbo]; rfl))])
        have HW := Lib.hid (hwb.2 hbo)
        clear hwb hwa hro hbo
        go_wp2_with (go_at_call 141; refine HW.out.mono ?_; rintro e w1 ⟨rfl, hx1⟩)
        go_ret
        exact ⟨by rw [HF.out]; rfl, (hx.alloc _).trans' hx1⟩
      · have HW := Lib.hid (hwb.1 hbo)
        cases hao : atomOkB x.head
        · have HF := Lib.hid (show progCheckN l = 1 from by unfold progCheckN; rw [if_pos (all_false ruleOkB _ k x HK.out (by rw [hro, hbo, hao]; rfl))])
          have HWA := Lib.hid (fun (W : World) (hW : Ext wr W) => (hwa W hW).2 hao)
          clear hwb hwa hro hbo hao
          go_wp2_with (first
            | (go_at_call 141; refine HW.out.mono ?_; rintro e w1 ⟨rfl, hx1⟩; have hrb := HRB.out.ext hx1; have q0 := hrb.cell 0; have q1 := hrb.cell 1; have hl1 := hrb.lt; have HX1 := Lib.hid hx1; clear hx1 hrb)
            | (go_at_call 85; refine (HWA.out _ (HX0.out.trans' HX1.out)).mono ?_; rintro e w2 ⟨rfl, hx2⟩))
          go_ret
          exact ⟨by rw [HF.out]; rfl, ((hx.alloc _).trans' HX1.out).trans' hx2⟩
        · have HP := Lib.hid (show (l.take (k + 1)).all ruleOkB = true from by rw [all_snoc ruleOkB _ k x HK.out, hp.out, hro, hbo, hao]; rfl)
          have HWA := Lib.hid (fun (W : World) (hW : Ext wr W) => (hwa W hW).1 hao)
          clear hwb hwa hro hbo hao
          go_wp2_with (first
            | (go_at_call 141; refine HW.out.mono ?_; rintro e w1 ⟨rfl, hx1⟩; have hrb := HRB.out.ext hx1; have q0 := hrb.cell 0; have q1 := hrb.cell 1; have hl1 := hrb.lt; have HX1 := Lib.hid hx1; clear hx1 hrb)
            | (go_at_call 85; refine (HWA.out _ (HX0.out.trans' HX1.out)).mono ?_; rintro e w2 ⟨rfl, hx2⟩; have HX2 := Lib.hid (((hx.alloc _).trans' HX1.out).trans' hx2); clear hx2))
          go_roundw
          case rel => exact ⟨k + 1, by omega, by go_num, HP, HX2.out⟩
          case measure => simp [intOf]; omega
    · have hall := all_whole ruleOkB _ k hlt hp.out
      have hno : ¬ l.all ruleOkB = false := by rw [hall]; simp
      have hke : k = l.length := by omega
      subst hke
      by_cases h8 : 8 < l.length
      · have HF := Lib.hid (show progCheckN l = 2 from by unfold progCheckN; rw [if_neg hno, if_pos h8])
        clear hno hall hp
        go_wp2
        go_ret
        exact ⟨by rw [HF.out]; rfl, hx⟩
      · have hl8 : l.length ≤ 8 := by omega
        have hbody : ∀ r ∈ l, r.body.length ≤ 4 := fun r hr => rule_body (List.all_eq_true.1 hall r hr)
        have hargsl : ∀ r ∈ l, ∀ a ∈ ruleAtoms r, a.args.length ≤ 1000 := fun r hr a ha => Nat.le_trans (ruleOk_args (List.all_eq_true.1 hall r hr) a ha) (by omega)
        have HA := Lib.hid (argsOf_any _ l wr (HV.out.ext hx) hl8 hbody hargsl)
        clear hbody hall hp hargsl
        cases hargs : argsB (atomsOf l)
        · have HF := Lib.hid (show progCheckN l = 3 from by unfold progCheckN; rw [if_neg hno, if_neg h8, if_pos hargs])
          rw [hargs] at HA
          clear hargs hno
          go_wp2_with (go_at_call 142; refine HA.out.mono ?_; rintro e w1 ⟨⟨B, n, rfl, _, _, _⟩, hx1⟩)
          go_ret
          exact ⟨by rw [HF.out]; rfl, hx.trans' hx1⟩
        · have HN3 := Lib.hid (show ¬ argsB (atomsOf l) = false from by rw [hargs]; simp)
          have HN1 := Lib.hid hno
          rw [hargs] at HA
          have HLO := Lib.hid (fun (W : World) (hW : Ext w W) => bool_ways (containsLoose_any _ l W (HV.out.ext hW)))
          clear hargs hno
          cases ht : l.all tightB
          · have HF := Lib.hid (show progCheckN l = 4 from by unfold progCheckN; rw [if_neg HN1.out, if_neg h8, if_neg HN3.out, if_pos ht])
            have HL := Lib.hid (fun (W : World) (hW : Ext w W) => (HLO.out W hW).1 (by rw [ht]; rfl))
            clear ht
            go_wp2_with (first
              | (go_at_call 142; refine HA.out.mono ?_; rintro e w1 ⟨⟨B, n, rfl, _, _, _⟩, hx1⟩; have HX1 := Lib.hid (hx.trans' hx1); clear hx1)
              | (go_at_call 143; refine (HL.out _ HX1.out).mono ?_; rintro e w2 ⟨rfl, hx2⟩; have HX2 := Lib.hid (HX1.out.trans' hx2); clear hx2))
            go_ret
            exact ⟨by rw [HF.out]; rfl, HX2.out⟩
          · have HN4 := Lib.hid (show ¬ l.all tightB = false from by rw [ht]; simp)
            have HL := Lib.hid (fun (W : World) (hW : Ext w W) => (HLO.out W hW).2 (by rw [ht]; rfl))
            have HS := Lib.hid (fun (W : World) (hW : Ext w W) => strataOf_any _ l W (HV.out.ext hW) hl8)
            clear ht
            go_wp2_with (first
              | (go_at_call 142; refine HA.out.mono ?_; rintro e w1 ⟨⟨B, n, rfl, _, _, _⟩, hx1⟩; have HX1 := Lib.hid (hx.trans' hx1); clear hx1)
              | (go_at_call 143; refine (HL.out _ HX1.out).mono ?_; rintro e w2 ⟨rfl, hx2⟩; have HX2 := Lib.hid (HX1.out.trans' hx2); clear hx2)
              | (go_at_call 145; refine (HS.out _ HX2.out).mono ?_; rintro e w3 ⟨hs3, hx3⟩
                 have HX3 := Lib.hid (HX2.out.trans' hx3); clear hx3
                 rcases hs3 with ⟨o, hlow, hmet, g, rfl, hg, hb3⟩ | ⟨hcy, g, rfl⟩))
            · have HF := Lib.hid (show progCheckN l = 0 from by unfold progCheckN; rw [if_neg HN1.out, if_neg h8, if_neg HN3.out, if_neg HN4.out, if_neg (by rw [met_strat hmet]; simp)])
              clear hlow hmet hb3
              go_wp2_with (go_at_call 146; refine (as_nil _ _).mono ?_; rintro e w4 ⟨rfl, rfl⟩)
              go_ret
              exact ⟨by rw [HF.out]; rfl, HX3.out.alloc _⟩
            · have HF := Lib.hid (show progCheckN l = 5 from by unfold progCheckN; rw [if_neg HN1.out, if_neg h8, if_neg HN3.out, if_neg HN4.out, if_pos hcy])
              have hsz := HX3.out.size
              clear hcy
              go_wp2_with (go_at_call 146; refine (as_hit_ext _ _ _ _ (HE.out.ext (HX3.out.alloc _)) (Blk.new _ _ _)).mono ?_; rintro e w4 ⟨rfl, hx4⟩)
              go_ret
              exact ⟨by rw [HF.out]; rfl, hx4 w (HX3.out.alloc _) hsz⟩

end Go.Proofs.YthndnkafckapnaaGreatDoor
