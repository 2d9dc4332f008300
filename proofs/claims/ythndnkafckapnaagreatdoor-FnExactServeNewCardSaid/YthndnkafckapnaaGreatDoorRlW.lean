/- The walks of the program's rules: slices.Contains of terms, isBound, allBound, bodyLoose, ruleLoose, bodyOk. -/
import Derived.Test.YthndnkafckapnaaGreatDoorImplB
import Derived.Test.YthndnkafckapnaaGreatDoorRlS
import Derived.BigQuiet
import Derived.Laws.StructEq
namespace Go.Proofs.YthndnkafckapnaaGreatDoor
open Go.RowKit

def isT (x y : GT) : Bool := decide (y.v = x.v ∧ y.n = x.n)
def hasT (xs : List GT) (x : GT) : Bool := xs.any (isT x)
def notT (x y : GT) : Bool := !isT x y
theorem hasT_not (xs : List GT) (x : GT) : hasT xs x = !xs.all (notT x) := by
  unfold hasT notT
  induction xs with
  | nil => rfl
  | cons y xs ih => rw [List.any_cons, List.all_cons, ih]; cases isT x y <;> rfl

theorem isT_eq (x y : GT) : isT x y = ((x.v == y.v) && (x.n.toList == y.n.toList)) := by
  unfold isT
  cases h : x.v == y.v
  · have : ¬ y.v = x.v := fun e => by rw [e] at h; simp at h
    simp [this]
  · have e : y.v = x.v := (eq_of_beq h).symm
    by_cases h2 : y.n = x.n
    · simp [e, h2]
    · have : (x.n.toList == y.n.toList) = false := str_ne' (fun e => h2 e.symm)
      simp [this, h2]
theorem eq_term (x y : GT) (w : World) : (binOp .eql 125 (.agg #[.bool x.v, .string x.n]) (.agg #[.bool y.v, .string y.n])).run Tryz.prog w = .ok (.bool (isT x y)) w := by
  rw [isT_eq]
  have hu : Tryz.prog.underlying 125 = some (.struct (Tryz.prog.fieldsOf 125)) := by kernel_rfl
  rw [run_eql_struct, run_equalIn_struct _ 9999 _ _ _ hu (by kernel_rfl)]
  simp [Program.fieldsOf, Tryz.underlying125, Op.eqFields, go_sem]
  by_cases h1 : x.v = y.v <;> by_cases h2 : x.n.toList = y.n.toList <;> simp [h1, h2]
theorem guard_term (x y : GT) (p q : Operand) (w : World) : (eqGuard .eql 125 p q (.agg #[.bool x.v, .string x.n]) (.agg #[.bool y.v, .string y.n])).run Tryz.prog w = .ok () w := run_eqGuard_agg _ _ _ _ _ _ _ (by kernel_rfl)

set_option maxRecDepth 100000 in
set_option maxHeartbeats 1000000 in
theorem indexTerm_any (v : Value) (xs : List GT) (x : GT) (w : World) {S : Nat → Prop} (hv : TermsR S w v xs) :
    Calls Tryz.prog 214 #[v, .agg #[.bool x.v, .string x.n]] w fun e w' => (∃ z : Int, e = .returned (.int .i64 z) ∧ (xs.all (notT x) = true → z < 0) ∧ (xs.all (notT x) = false → 0 ≤ z)) ∧ Ext w w' := by
  obtain ⟨A, c, rfl, hc1, hc2⟩ := SliceR.form hv
  have HV := Lib.hid (hv.ext ((Ext.refl w).alloc (.cells #[.bool x.v, .string x.n] 125)))
  have HB := Lib.hid (Blk.new w 125 #[.bool x.v, .string x.n])
  clear hv
  go_enter Tryz.func214, Tryz.ntmps214
  go_wp2
  go_loopw [8] (fun i wr => ∃ k : Nat, k ≤ xs.length ∧ i = .int .i64 k ∧ Hid ((xs.take k).all (notT x) = true) ∧ Ext (w.alloc (.cells #[.bool x.v, .string x.n] 125)) wr) (fun i _ => xs.length - (intOf i).toNat)
  case atStart => exact ⟨0, Nat.zero_le _, rfl, rfl, Ext.refl _⟩
  case round =>
    obtain ⟨k, hk, rfl, hp, hx⟩ := hrel
    by_cases hlt : k < xs.length
    · obtain ⟨b, off, y, rfl, hb, hxk, hxs, hc0, hc1⟩ := TermsR.at_ (HV.out.ext hx) hlt
      have hb1 := HB.out.ext hx
      have q0 := hb1.cell 0
      have q1 := hb1.cell 1
      have hk0 : (0 : Int) ≤ (k : Int) := Int.natCast_nonneg _
      have hk1 : (k : Int) < (xs.length : Int) := by omega
      clear hb1
      have he := eq_term x y
      have hg := guard_term x y
      have HK := Lib.hid hxk
      clear hxk
      cases ht : isT x y
      · have HP := Lib.hid (show (xs.take (k + 1)).all (notT x) = true from by rw [all_snoc _ _ k y HK.out, hp.out]; unfold notT; rw [ht]; rfl)
        rw [ht] at he
        clear ht
        go_wp2_with fail
        go_quiet (fail)
        go_wp2
        go_roundw
        case rel => exact ⟨k + 1, by omega, by go_num, HP, hx.drewN _⟩
        case measure => simp [intOf]; omega
      · have HZ := Lib.hid (all_false (notT x) _ k y HK.out (by unfold notT; rw [ht]; rfl))
        rw [ht] at he
        clear ht
        go_wp2_with fail
        go_quiet (fail)
        go_wp2
        go_ret
        exact ⟨⟨k, rfl, fun h => (by rw [HZ.out] at h; cases h), fun _ => Int.natCast_nonneg _⟩, ((Ext.refl _).alloc _).trans' (hx.drewN _)⟩
    · have HZ := Lib.hid (all_whole _ _ k hlt hp.out)
      go_wp2
      go_ret
      exact ⟨⟨-1, rfl, fun _ => by decide, fun h => (by rw [HZ.out] at h; cases h)⟩, ((Ext.refl _).alloc _).trans' hx⟩

set_option maxHeartbeats 1000000 in
theorem containsTerm_any (v : Value) (xs : List GT) (x : GT) (w : World) {S : Nat → Prop} (hv : TermsR S w v xs) :
    Calls Tryz.prog 211 #[v, .agg #[.bool x.v, .string x.n]] w fun e w' => e = .returned (.bool (hasT xs x)) ∧ Ext w w' := by
  obtain ⟨A, c, rfl, hc1, hc2⟩ := SliceR.form hv
  have HV := Lib.hid (hv.ext ((Ext.refl w).alloc (.cells #[.bool x.v, .string x.n] 125)))
  rw [hasT_not]
  clear hv
  cases ha : xs.all (notT x)
  · have HA := Lib.hid ha
    clear ha
    go_enter Tryz.func211, Tryz.ntmps211
    go_wp2_with (go_at_call 214; refine (indexTerm_any _ xs x _ HV.out).mono ?_; rintro e w1 ⟨⟨z, rfl, h1, h2⟩, hx1⟩; have hz := h2 HA.out; clear h1 h2)
    go_ret
    exact ⟨ret_bool (by first | (simp; done) | (simp; omega)), ((Ext.refl _).alloc _).trans' hx1⟩
  · have HA := Lib.hid ha
    clear ha
    go_enter Tryz.func211, Tryz.ntmps211
    go_wp2_with (go_at_call 214; refine (indexTerm_any _ xs x _ HV.out).mono ?_; rintro e w1 ⟨⟨z, rfl, h1, h2⟩, hx1⟩; have hz := h1 HA.out; clear h1 h2)
    go_ret
    exact ⟨ret_bool (by first | (simp; done) | (simp; omega)), ((Ext.refl _).alloc _).trans' hx1⟩

theorem has_var (xs : List GT) (x : ByteArray) : hasT xs ⟨true, x⟩ = memS x ((xs.filter (·.v)).map (·.n)) := by
  unfold hasT memS
  induction xs with
  | nil => rfl
  | cons y xs ih =>
    rw [List.any_cons, ih, List.filter_cons]
    obtain ⟨b, n⟩ := y
    cases b
    · simp [isT]
    · simp [isT]

def boundP (x : ByteArray) (p : GP) : Bool := !p.no && memS x (varsOf p.atom)
def freeP (x : ByteArray) (p : GP) : Bool := !boundP x p
theorem bound_free (body : List GP) (x : ByteArray) : boundIn body x = !body.all (freeP x) := by
  unfold boundIn freeP
  induction body with
  | nil => rfl
  | cons y xs ih => rw [List.any_cons, List.all_cons, ih, show (!y.no && memS x (varsOf y.atom)) = boundP x y from rfl]; cases boundP x y <;> rfl

set_option maxRecDepth 100000 in
set_option maxHeartbeats 1000000 in
theorem isBound_any (v : Value) (body : List GP) (x : ByteArray) (w : World) {S : Nat → Prop} (hv : PartsR S w v body) :
    Calls Tryz.prog 203 #[v, .string x] w fun e w' => e = .returned (.bool (boundIn body x)) ∧ Ext w w' := by
  obtain ⟨A, c, rfl, hc1, hc2⟩ := SliceR.form hv
  have HV := Lib.hid hv
  clear hv
  rw [bound_free]
  go_enter Tryz.func203, Tryz.ntmps203
  go_wp2
  go_loopw [9] (fun i wr => ∃ k : Nat, k ≤ body.length ∧ i = .int .i64 k ∧ Hid ((body.take k).all (freeP x) = true) ∧ Ext w wr) (fun i _ => body.length - (intOf i).toNat)
  case atStart => exact ⟨0, Nat.zero_le _, rfl, rfl, Ext.refl _⟩
  case round =>
    obtain ⟨k, hk, rfl, hp, hx⟩ := hrel
    by_cases hlt : k < body.length
    · obtain ⟨b, off, y, z, rfl, hb, hxk, hxs, htx, p0, p1, p2⟩ := PartsR.at_ (HV.out.ext hx) hlt
      obtain ⟨C, e, rfl, he1, he2⟩ := SliceR.form htx
      have HK := Lib.hid hxk
      have HW := Lib.hid (containsTerm_any _ y.atom.args ⟨true, x⟩ _ (htx.ext ((Ext.refl wr).alloc (.cells #[.bool y.no, .string y.atom.n, .slice C y.atom.args.length e] 144))))
      clear hxk htx
      cases hno : y.no
      · cases hm : memS x (varsOf y.atom)
        · have hw := (bool_ways HW.out).2 (by rw [has_var]; exact hm)
          have HP := Lib.hid (show (body.take (k + 1)).all (freeP x) = true from by rw [all_snoc _ _ k y HK.out, hp.out]; unfold freeP boundP; rw [hno, hm]; rfl)
          rw [hno] at p0 hw
          have HW1 := Lib.hid hw
          clear hw HW
          go_wp2_with (go_at_call 211; refine HW1.out.mono ?_; rintro e w1 ⟨rfl, hx1⟩)
          go_roundw
          case rel => exact ⟨k + 1, by omega, by go_num, HP, (hx.alloc _).trans' hx1⟩
          case measure => simp [intOf]; omega
        · have hw := (bool_ways HW.out).1 (by rw [has_var]; exact hm)
          have HZ := Lib.hid (all_false (freeP x) _ k y HK.out (by unfold freeP boundP; rw [hno, hm]; rfl))
          rw [hno] at p0 hw
          have HW1 := Lib.hid hw
          clear hw HW
          go_wp2_with (go_at_call 211; refine HW1.out.mono ?_; rintro e w1 ⟨rfl, hx1⟩)
          go_ret
          exact ⟨by rw [HZ.out]; rfl, (hx.alloc _).trans' hx1⟩
      · have HP := Lib.hid (show (body.take (k + 1)).all (freeP x) = true from by rw [all_snoc _ _ k y HK.out, hp.out]; unfold freeP boundP; rw [hno]; rfl)
        rw [hno] at p0
        clear HW
        go_wp2
        go_roundw
        case rel => exact ⟨k + 1, by omega, by go_num, HP, hx.alloc _⟩
        case measure => simp [intOf]; omega
    · have HZ := Lib.hid (all_whole _ _ k hlt hp.out)
      go_wp2
      go_ret
      exact ⟨by rw [HZ.out]; rfl, hx⟩

def tightT (body : List GP) (t : GT) : Bool := !t.v || boundIn body t.n
theorem all_vars (body : List GP) (a : GA) : (varsOf a).all (boundIn body) = a.args.all (tightT body) := by
  unfold varsOf tightT
  induction a.args with
  | nil => rfl
  | cons y xs ih =>
    rw [List.all_cons, ← ih, List.filter_cons]
    cases y.v <;> simp

@[go_sem] theorem as_wv (v : Value) (w : World) : (Instr.typeAssert (.iface 214 v) 212 215 true).run Tryz.prog w = .ok (.tuple #[.string ⟨#[]⟩, .bool false]) w := by kernel_rfl
theorem kindOf_ways (s : ByteArray) (w : World) :
    (Calls Tryz.prog 170 #[.agg #[.bool false, .string s]] w fun e w' => e = .returned (.iface 214 (.string s)) ∧ Ext w w') ∧ (Calls Tryz.prog 170 #[.agg #[.bool true, .string s]] w fun e w' => e = .returned (.iface 215 (.string s)) ∧ Ext w w') :=
  ⟨kindOf_any ⟨false, s⟩ w, kindOf_any ⟨true, s⟩ w⟩

set_option maxRecDepth 100000 in
set_option maxHeartbeats 1000000 in
theorem allBound_any (v u : Value) (body : List GP) (a : GA) (w : World) {S T : Nat → Prop} (hv : PartsR S w v body) (hu : TermsR T w u a.args) :
    Calls Tryz.prog 182 #[v, .agg #[.string a.n, u]] w fun e w' => e = .returned (.bool ((varsOf a).all (boundIn body))) ∧ Ext w w' := by
  obtain ⟨A, c, rfl, hc1, hc2⟩ := SliceR.form hv
  obtain ⟨B, d, rfl, hd1, hd2⟩ := SliceR.form hu
  have HV := Lib.hid (hv.ext ((Ext.refl w).alloc (.cells #[.string a.n, .slice B a.args.length d] 67)))
  have HU := Lib.hid (hu.ext ((Ext.refl w).alloc (.cells #[.string a.n, .slice B a.args.length d] 67)))
  clear hv hu
  rw [all_vars]
  go_enter Tryz.func182, Tryz.ntmps182
  go_wp2
  go_loopw [12] (fun i wr => ∃ k : Nat, k ≤ a.args.length ∧ i = .int .i64 k ∧ Hid ((a.args.take k).all (tightT body) = true) ∧ Ext (w.alloc (.cells #[.string a.n, .slice B a.args.length d] 67)) wr) (fun i _ => a.args.length - (intOf i).toNat)
  case atStart => exact ⟨0, Nat.zero_le _, rfl, rfl, Ext.refl _⟩
  case round =>
    obtain ⟨k, hk, rfl, hp, hx⟩ := hrel
    by_cases hlt : k < a.args.length
    · obtain ⟨b, off, y, rfl, hb, hxk, hxs, p0, p1⟩ := TermsR.at_ (HU.out.ext hx) hlt
      have HK := Lib.hid hxk
      clear hxk
      cases hv : y.v
      · have HP := Lib.hid (show (a.args.take (k + 1)).all (tightT body) = true from by rw [all_snoc _ _ k y HK.out, hp.out]; unfold tightT; rw [hv]; rfl)
        rw [hv] at p0
        go_wp2_with (go_at_call 170; refine (kindOf_ways y.n _).1.mono ?_; rintro e w1 ⟨rfl, hx1⟩)
        go_roundw
        case rel => exact ⟨k + 1, by omega, by go_num, HP, (hx.alloc _).trans' hx1⟩
        case measure => simp [intOf]; omega
      · rw [hv] at p0
        have HB := Lib.hid (fun W (hW : Ext wr W) => bool_ways (isBound_any _ body y.n W ((HV.out.ext hx).ext hW)))
        cases hm : boundIn body y.n
        · have HZ := Lib.hid (all_false (tightT body) _ k y HK.out (by unfold tightT; rw [hv, hm]; rfl))
          have HM := Lib.hid hm
          clear hv hm
          go_wp2_with (first
            | (go_at_call 170; refine (kindOf_ways y.n _).2.mono ?_; rintro e w1 ⟨rfl, hx1⟩; have HX1 := Lib.hid (((Ext.refl wr).alloc _).trans' hx1); clear hx1)
            | (go_at_call 173; refine (variableText_any y.n _).mono ?_; rintro e w2 ⟨rfl, rfl⟩)
            | (go_at_call 203; refine ((HB.out _ HX1.out).2 HM.out).mono ?_; rintro e w3 ⟨rfl, hx3⟩))
          go_ret
          exact ⟨by rw [HZ.out]; rfl, ((Ext.refl _).alloc _).trans' ((hx.trans' HX1.out).trans' hx3)⟩
        · have HP := Lib.hid (show (a.args.take (k + 1)).all (tightT body) = true from by rw [all_snoc _ _ k y HK.out, hp.out]; unfold tightT; rw [hv, hm]; rfl)
          have HM := Lib.hid hm
          clear hv hm
          go_wp2_with (first
            | (go_at_call 170; refine (kindOf_ways y.n _).2.mono ?_; rintro e w1 ⟨rfl, hx1⟩; have HX1 := Lib.hid (((Ext.refl wr).alloc _).trans' hx1); clear hx1)
            | (go_at_call 173; refine (variableText_any y.n _).mono ?_; rintro e w2 ⟨rfl, rfl⟩)
            | (go_at_call 203; refine ((HB.out _ HX1.out).1 HM.out).mono ?_; rintro e w3 ⟨rfl, hx3⟩))
          go_roundw
          case rel => exact ⟨k + 1, by omega, by go_num, HP, (hx.trans' HX1.out).trans' hx3⟩
          case measure => simp [intOf]; omega
    · have HZ := Lib.hid (all_whole _ _ k hlt hp.out)
      go_wp2
      go_ret
      exact ⟨by rw [HZ.out]; rfl, ((Ext.refl _).alloc _).trans' hx⟩

def tightP (body : List GP) (p : GP) : Bool := (varsOf p.atom).all (boundIn body)
theorem tightB_eq (r : GR) : tightB r = ((varsOf r.head).all (boundIn r.body) && r.body.all (tightP r.body)) := by
  unfold tightB ruleAtoms
  rw [List.all_cons, List.all_map]
  rfl

set_option maxRecDepth 100000 in
set_option maxHeartbeats 1000000 in
theorem bodyLoose_any (v : Value) (body : List GP) (w : World) {S : Nat → Prop} (hv : PartsR S w v body) :
    Calls Tryz.prog 183 #[v] w fun e w' => e = .returned (.bool (!body.all (tightP body))) ∧ Ext w w' := by
  obtain ⟨A, c, rfl, hc1, hc2⟩ := SliceR.form hv
  have HV := Lib.hid hv
  clear hv
  go_enter Tryz.func183, Tryz.ntmps183
  go_wp2
  go_loopw [7] (fun i wr => ∃ k : Nat, k ≤ body.length ∧ i = .int .i64 k ∧ Hid ((body.take k).all (tightP body) = true) ∧ Ext w wr) (fun i _ => body.length - (intOf i).toNat)
  case atStart => exact ⟨0, Nat.zero_le _, rfl, rfl, Ext.refl _⟩
  case round =>
    obtain ⟨k, hk, rfl, hp, hx⟩ := hrel
    by_cases hlt : k < body.length
    · obtain ⟨b, off, y, z, rfl, hb, hxk, hxs, htx, p0, p1, p2⟩ := PartsR.at_ (HV.out.ext hx) hlt
      obtain ⟨C, e, rfl, he1, he2⟩ := SliceR.form htx
      have HK := Lib.hid hxk
      have hw := bool_ways (allBound_any _ _ body y.atom _ ((HV.out.ext hx).ext ((Ext.refl wr).alloc (.cells #[.bool y.no, .string y.atom.n, .slice C y.atom.args.length e] 144))) (htx.ext ((Ext.refl wr).alloc (.cells #[.bool y.no, .string y.atom.n, .slice C y.atom.args.length e] 144))))
      clear hxk htx
      cases hm : tightP body y
      · have HZ := Lib.hid (all_false (tightP body) _ k y HK.out hm)
        have HW := Lib.hid (hw.2 hm)
        clear hw hm
        go_wp2_with (go_at_call 182; refine HW.out.mono ?_; rintro e w1 ⟨rfl, hx1⟩)
        go_ret
        exact ⟨by rw [HZ.out]; rfl, (hx.alloc _).trans' hx1⟩
      · have HP := Lib.hid (show (body.take (k + 1)).all (tightP body) = true from by rw [all_snoc _ _ k y HK.out, hp.out, hm]; rfl)
        have HW := Lib.hid (hw.1 hm)
        clear hw hm
        go_wp2_with (go_at_call 182; refine HW.out.mono ?_; rintro e w1 ⟨rfl, hx1⟩)
        go_roundw
        case rel => exact ⟨k + 1, by omega, by go_num, HP, (hx.alloc _).trans' hx1⟩
        case measure => simp [intOf]; omega
    · have HZ := Lib.hid (all_whole _ _ k hlt hp.out)
      go_wp2
      go_ret
      exact ⟨by rw [HZ.out]; rfl, hx⟩

set_option maxHeartbeats 1000000 in
theorem ruleLoose_any (r : GR) (v u : Value) (w : World) {S T : Nat → Prop} (hv : TermsR S w v r.head.args) (hu : PartsR T w u r.body) :
    Calls Tryz.prog 144 #[.agg #[.string r.head.n, v, u]] w fun e w' => e = .returned (.bool (!tightB r)) ∧ Ext w w' := by
  obtain ⟨A, c, rfl, hc1, hc2⟩ := SliceR.form hv
  obtain ⟨B, d, rfl, hd1, hd2⟩ := SliceR.form hu
  have HV := Lib.hid (hv.ext ((Ext.refl w).alloc (.cells #[.string r.head.n, .slice A r.head.args.length c, .slice B r.body.length d] 95)))
  have HU := Lib.hid (hu.ext ((Ext.refl w).alloc (.cells #[.string r.head.n, .slice A r.head.args.length c, .slice B r.body.length d] 95)))
  have HB := Lib.hid (Blk.new w 95 #[.string r.head.n, .slice A r.head.args.length c, .slice B r.body.length d])
  have hw := bool_ways (allBound_any _ _ r.body r.head _ HU.out HV.out)
  clear hv hu
  rw [tightB_eq]
  cases hm : (varsOf r.head).all (boundIn r.body)
  · have HW := Lib.hid (hw.2 hm)
    clear hw hm
    go_enter Tryz.func144, Tryz.ntmps144
    go_wp2_with (go_at_call 182; refine HW.out.mono ?_; rintro e w1 ⟨rfl, hx1⟩)
    go_ret
    exact ⟨rfl, ((Ext.refl _).alloc _).trans' hx1⟩
  · have HW := Lib.hid (hw.1 hm)
    have HQ := Lib.hid (fun W hW => bodyLoose_any _ r.body W (HU.out.ext hW))
    clear hw hm
    go_enter Tryz.func144, Tryz.ntmps144
    go_wp2_with (first
      | (go_at_call 182; refine HW.out.mono ?_; rintro e w1 ⟨rfl, hx1⟩; have HX1 := Lib.hid hx1; have hb1 := HB.out.ext hx1; have q2 := hb1.cell 2; have hl1 := hb1.lt; clear hx1 hb1)
      | (go_at_call 183; refine (HQ.out _ HX1.out).mono ?_; rintro e w2 ⟨rfl, hx2⟩))
    go_ret
    exact ⟨rfl, ((Ext.refl _).alloc _).trans' (HX1.out.trans' hx2)⟩

set_option maxRecDepth 100000 in
set_option maxHeartbeats 1000000 in
theorem indexLoose_any (v : Value) (xs : List GR) (w : World) {S : Nat → Prop} (hv : RulesR S w v xs) :
    Calls Tryz.prog 181 #[v, .func (.func 144) #[] #[]] w fun e w' => (∃ z : Int, e = .returned (.int .i64 z) ∧ (xs.all tightB = true → z < 0) ∧ (xs.all tightB = false → 0 ≤ z)) ∧ Ext w w' := by
  obtain ⟨A, c, rfl, hc1, hc2⟩ := SliceR.form hv
  have HV := Lib.hid hv
  clear hv
  go_enter Tryz.func181, Tryz.ntmps181
  go_wp2
  go_loopw [8] (fun i wr => ∃ k : Nat, k ≤ xs.length ∧ i = .int .i64 k ∧ Hid ((xs.take k).all tightB = true) ∧ Ext w wr) (fun i _ => xs.length - (intOf i).toNat)
  case atStart => exact ⟨0, Nat.zero_le _, rfl, rfl, Ext.refl _⟩
  case round =>
    obtain ⟨k, hk, rfl, hp, hx⟩ := hrel
    by_cases hlt : k < xs.length
    · obtain ⟨b, off, x, v1, u1, rfl, hb, hxk, hxs, ht, hu, p0, p1, p2⟩ := RulesR.at_ (HV.out.ext hx) hlt
      obtain ⟨C, e, rfl, he1, he2⟩ := SliceR.form ht
      obtain ⟨D, f, rfl, hf1, hf2⟩ := SliceR.form hu
      have HK := Lib.hid hxk
      have hw := ruleLoose_any x _ _ wr ht hu
      clear hxk ht hu
      cases hm : tightB x
      · have HZ := Lib.hid (all_false tightB _ k x HK.out hm)
        have HW := Lib.hid ((bool_ways hw).1 (by rw [hm]; rfl))
        clear hw hm
        go_wp2_with (go_at_call 144; refine HW.out.mono ?_; rintro e w1 ⟨rfl, hx1⟩)
        go_ret
        exact ⟨⟨k, rfl, fun h => (by rw [HZ.out] at h; cases h), fun _ => Int.natCast_nonneg _⟩, hx.trans' hx1⟩
      · have HP := Lib.hid (show (xs.take (k + 1)).all tightB = true from by rw [all_snoc _ _ k x HK.out, hp.out, hm]; rfl)
        have HW := Lib.hid ((bool_ways hw).2 (by rw [hm]; rfl))
        clear hw hm
        go_wp2_with (go_at_call 144; refine HW.out.mono ?_; rintro e w1 ⟨rfl, hx1⟩)
        go_roundw
        case rel => exact ⟨k + 1, by omega, by go_num, HP, hx.trans' hx1⟩
        case measure => simp [intOf]; omega
    · have HZ := Lib.hid (all_whole _ _ k hlt hp.out)
      go_wp2
      go_ret
      exact ⟨⟨-1, rfl, fun _ => by decide, fun h => (by rw [HZ.out] at h; cases h)⟩, hx⟩

set_option maxHeartbeats 1000000 in
theorem containsLoose_any (v : Value) (xs : List GR) (w : World) {S : Nat → Prop} (hv : RulesR S w v xs) :
    Calls Tryz.prog 143 #[v, .func (.func 144) #[] #[]] w fun e w' => e = .returned (.bool (!xs.all tightB)) ∧ Ext w w' := by
  obtain ⟨A, c, rfl, hc1, hc2⟩ := SliceR.form hv
  have HV := Lib.hid hv
  clear hv
  cases ha : xs.all tightB
  · have HA := Lib.hid ha
    clear ha
    go_enter Tryz.func143, Tryz.ntmps143
    go_wp2_with (go_at_call 181; refine (indexLoose_any _ xs _ HV.out).mono ?_; rintro e w1 ⟨⟨z, rfl, h1, h2⟩, hx1⟩; have hz := h2 HA.out; clear h1 h2)
    go_ret
    exact ⟨ret_bool (by first | (simp; done) | (simp; omega)), hx1⟩
  · have HA := Lib.hid ha
    clear ha
    go_enter Tryz.func143, Tryz.ntmps143
    go_wp2_with (go_at_call 181; refine (indexLoose_any _ xs _ HV.out).mono ?_; rintro e w1 ⟨⟨z, rfl, h1, h2⟩, hx1⟩; have hz := h1 HA.out; clear h1 h2)
    go_ret
    exact ⟨ret_bool (by first | (simp; done) | (simp; omega)), hx1⟩

theorem ruleOkB_other (r : GR) : ruleOkB r = ((decide (r.body.length ≤ 4) && r.body.all partOkB) && atomOkB r.head) := by
  rw [ruleOkB_eq]
  cases decide (r.body.length ≤ 4) <;> cases r.body.all partOkB <;> cases atomOkB r.head <;> rfl

set_option maxRecDepth 100000 in
set_option maxHeartbeats 1000000 in
theorem bodyOk_any (v : Value) (body : List GP) (w : World) {S : Nat → Prop} (hv : PartsR S w v body) :
    Calls Tryz.prog 141 #[v] w fun e w' => e = .returned (.bool (decide (body.length ≤ 4) && body.all partOkB)) ∧ Ext w w' := by
  obtain ⟨A, c, rfl, hc1, hc2⟩ := SliceR.form hv
  have HV := Lib.hid hv
  clear hv
  by_cases h4 : body.length ≤ 4
  · have HF := Lib.hid (show (decide (body.length ≤ 4) && body.all partOkB) = body.all partOkB from by simp [h4])
    go_enter Tryz.func141, Tryz.ntmps141
    go_wp2
    go_loopw [10] (fun i wr => ∃ k : Nat, k ≤ body.length ∧ i = .int .i64 k ∧ Hid ((body.take k).all partOkB = true) ∧ Ext w wr) (fun i _ => body.length - (intOf i).toNat)
    case atStart => exact ⟨0, Nat.zero_le _, rfl, rfl, Ext.refl _⟩
    case round =>
      obtain ⟨k, hk, rfl, hp, hx⟩ := hrel
      by_cases hlt : k < body.length
      · obtain ⟨b, off, y, z, rfl, hb, hxk, hxs, htx, p0, p1, p2⟩ := PartsR.at_ (HV.out.ext hx) hlt
        obtain ⟨C, e, rfl, he1, he2⟩ := SliceR.form htx
        have HK := Lib.hid hxk
        have hw := bool_ways (atomOk_any y.atom _ _ hxs (htx.ext ((Ext.refl wr).alloc (.cells #[.bool y.no, .string y.atom.n, .slice C y.atom.args.length e] 144))))
        clear hxk htx
        cases hm : atomOkB y.atom
        · have HZ := Lib.hid (all_false partOkB _ k y HK.out hm)
          have HW := Lib.hid (hw.2 hm)
          clear hw hm
          go_wp2_with (go_at_call 85; refine HW.out.mono ?_; rintro e w1 ⟨rfl, hx1⟩)
          go_ret
          exact ⟨by rw [HF.out, HZ.out]; rfl, (hx.alloc _).trans' hx1⟩
        · have HP := Lib.hid (show (body.take (k + 1)).all partOkB = true from by rw [all_snoc _ _ k y HK.out, hp.out, show partOkB y = true from hm]; rfl)
          have HW := Lib.hid (hw.1 hm)
          clear hw hm
          go_wp2_with (go_at_call 85; refine HW.out.mono ?_; rintro e w1 ⟨rfl, hx1⟩)
          go_roundw
          case rel => exact ⟨k + 1, by omega, by go_num, HP, (hx.alloc _).trans' hx1⟩
          case measure => simp [intOf]; omega
      · have HZ := Lib.hid (all_whole _ _ k hlt hp.out)
        go_wp2
        go_ret
        exact ⟨by rw [HF.out, HZ.out]; rfl, hx⟩
  · have HF := Lib.hid (show (decide (body.length ≤ 4) && body.all partOkB) = false from by simp [h4])
    go_enter Tryz.func141, Tryz.ntmps141
    go_wp2
    go_ret
    exact ⟨by rw [HF.out]; rfl, Ext.refl _⟩

end Go.Proofs.YthndnkafckapnaaGreatDoor
