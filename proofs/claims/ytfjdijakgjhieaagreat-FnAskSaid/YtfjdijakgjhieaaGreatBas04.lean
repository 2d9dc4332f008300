/- Part of the texts of a proof: own texts joined in the order of their building; what they say stands at each theorem. -/
import Derived.Test.YtfjdijakgjhieaaGreatBas03
import Derived.Shelf.Strings.Builder1
import Derived.Shelf.Small.Strs
import Derived.Shelf.Strings.BuilderF
import Derived.Shelf.Strings.BuilderK
import Derived.Shelf.Strconv.Itoa0
import Derived.Shelf.Strings.BuilderCap
import Derived.Shelf.Slices.CompactS
import Derived.Shelf.Slices.Cells
import Derived.Test.YtfjdijakgjhieaaGreatProg
import Derived.Laws.EntriesVeiled
import Derived.RangeFuncNested
import Derived.RangeFuncBound
import Derived.RangeFuncCalls
import Derived.RangeFuncLeaves
import Derived.RangeFuncWrites
import Derived.Shelf.Abstract
import Derived.Shelf.RegionOpen
import Derived.OwnWalkIn
import Derived.TacticsInMore
import Derived.LoopNIn
import Derived.LoopIn
namespace Go.Proofs.YtfjdijakgjhieaaGreat
open Go.RowKit

@[go_sem] theorem as_ww (v : Value) (w : World) : (Instr.typeAssert (.iface 214 v) 178 214 true).run Tryz.prog w = .ok (.tuple #[v, .bool true]) w := by kernel_rfl
@[go_sem] theorem as_vw (v : Value) (w : World) : (Instr.typeAssert (.iface 175 v) 178 214 true).run Tryz.prog w = .ok (.tuple #[.string ⟨#[]⟩, .bool false]) w := by kernel_rfl
@[go_sem] theorem as_vv (v : Value) (w : World) : (Instr.typeAssert (.iface 175 v) 178 175 true).run Tryz.prog w = .ok (.tuple #[v, .bool true]) w := by kernel_rfl

set_option maxHeartbeats 1000000 in
theorem kindOf_any (t : GT) (w : World) :
 Calls Tryz.prog 143 #[.agg #[.bool t.v, .string t.n]] w fun e w' => e = .returned (.iface (if t.v = true then 175 else 214) (.string t.n)) ∧ Ext w w' := by
 obtain ⟨v, s⟩ := t
 cases v
 · go_enter Tryz.func143, Tryz.ntmps143
   go_wp2
   go_ret
   exact ⟨rfl, (Ext.refl _).alloc _⟩
 · go_enter Tryz.func143, Tryz.ntmps143
   go_wp2
   go_ret
   exact ⟨rfl, (Ext.refl _).alloc _⟩

set_option maxHeartbeats 400000 in
theorem wordText_any (s : ByteArray) (w : World) : Calls Tryz.prog 174 #[.string s] w fun e w' => e = .returned (.string s) ∧ w' = w := by
 go_enter Tryz.func174, Tryz.ntmps174
 go_wp2
 go_ret
 exact ⟨rfl, rfl⟩
set_option maxHeartbeats 400000 in
theorem variableText_any (s : ByteArray) (w : World) : Calls Tryz.prog 145 #[.string s] w fun e w' => e = .returned (.string s) ∧ w' = w := by
 go_enter Tryz.func145, Tryz.ntmps145
 go_wp2
 go_ret
 exact ⟨rfl, rfl⟩

set_option maxRecDepth 100000 in
set_option maxHeartbeats 1000000 in
theorem termOk_any (t : GT) (w : World) (hs : t.n.size ≤ maxLen) :
 Calls Tryz.prog 138 #[.agg #[.bool t.v, .string t.n]] w fun e w' => e = .returned (.bool (termOkB t)) ∧ Ext w w' := by
 have hk := kindOf_any t
 obtain ⟨v, s⟩ := t
 cases v
 · have HF := Lib.hid (show termOkB ⟨false, s⟩ = nameOkB s from rfl)
   have HK : ∀ w : World, Calls Tryz.prog 143 #[.agg #[.bool false, .string s]] w fun e w' => e = .returned (.iface 214 (.string s)) ∧ Ext w w' := hk
   have HK := Lib.hid HK
   clear hk
   go_enter Tryz.func138, Tryz.ntmps138
   go_wp2_with (first
    | (go_at_call 143; refine (HK.out _).mono ?_; rintro e w1 ⟨rfl, hx1⟩)
    | (go_at_call 174; refine (wordText_any s _).mono ?_; rintro e w2 ⟨rfl, rfl⟩)
    | (go_at_call 137; refine (nameOk_any s _ hs).mono ?_; rintro e w2 ⟨rfl, rfl⟩))
   go_ret
   exact ⟨by rw [HF.out]; rfl, ((Ext.refl _).alloc _).trans' hx1⟩
 · have HF := Lib.hid (show termOkB ⟨true, s⟩ = varOkB s from rfl)
   have HK : ∀ w : World, Calls Tryz.prog 143 #[.agg #[.bool true, .string s]] w fun e w' => e = .returned (.iface 175 (.string s)) ∧ Ext w w' := hk
   have HK := Lib.hid HK
   clear hk
   go_enter Tryz.func138, Tryz.ntmps138
   go_wp2_with (first
    | (go_at_call 143; refine (HK.out _).mono ?_; rintro e w1 ⟨rfl, hx1⟩)
    | (go_at_call 145; refine (variableText_any s _).mono ?_; rintro e w2 ⟨rfl, rfl⟩)
    | (go_at_call 175; refine (variableOk_any s _ hs).mono ?_; rintro e w2 ⟨rfl, rfl⟩))
   go_ret
   exact ⟨by rw [HF.out]; rfl, ((Ext.refl _).alloc _).trans' hx1⟩

set_option maxRecDepth 100000 in
set_option maxHeartbeats 1000000 in
theorem atomOk_any (a : GA) (v : Value) (w : World) {S : Nat → Prop} (hs : a.n.size ≤ maxLen) (hv : TermsR S w v a.args) :
 Calls Tryz.prog 104 #[.agg #[.string a.n, v]] w fun e w' => e = .returned (.bool (atomOkB a)) ∧ Ext w w' := by
 obtain ⟨A, c, rfl, hc1, hc2⟩ := SliceR.form hv
 have HV := Lib.hid (hv.ext ((Ext.refl w).alloc (.cells #[.string a.n, .slice A a.args.length c] 26)))
 clear hv
 have hw := bool_ways (nameOk_any a.n (w.alloc (.cells #[.string a.n, .slice A a.args.length c] 26)) hs)
 cases hn : nameOkB a.n
 · have HF := Lib.hid (show atomOkB a = false from by unfold atomOkB; rw [hn]; rfl)
   have HW := Lib.hid (hw.2 hn)
   clear hw hn
   go_enter Tryz.func104, Tryz.ntmps104
   go_wp2_with (go_at_call 137; refine HW.out.mono ?_; rintro e w1 ⟨rfl, rfl⟩)
   go_ret
   exact ⟨by rw [HF.out]; rfl, (Ext.refl _).alloc _⟩
 · have HW := Lib.hid (hw.1 hn)
   by_cases h3 : a.args.length ≤ 3
   · have HF := Lib.hid (show atomOkB a = a.args.all termOkB from by unfold atomOkB; rw [hn]; simp [h3])
     clear hw hn
     go_enter Tryz.func104, Tryz.ntmps104
     go_wp2_with (go_at_call 137; refine HW.out.mono ?_; rintro e w1 ⟨rfl, rfl⟩)
     go_loopw [18] (fun i wr => ∃ k : Nat, k ≤ a.args.length ∧ i = .int .i64 k ∧ Hid ((a.args.take k).all termOkB = true) ∧ Ext (w.alloc (.cells #[.string a.n, .slice A a.args.length c] 26)) wr) (fun i _ => a.args.length - (intOf i).toNat)
     case atStart => exact ⟨0, Nat.zero_le _, rfl, rfl, Ext.refl _⟩
     case round =>
      obtain ⟨k, hk, rfl, hp, hx⟩ := hrel
      by_cases hlt : k < a.args.length
      · obtain ⟨b, off, x, rfl, hb, hxk, hxs, hc0, hc1⟩ := TermsR.at_ (HV.out.ext hx) hlt
        have HK := Lib.hid hxk
        have hw := bool_ways (termOk_any x (wr.alloc (.cells #[.bool x.v, .string x.n] 33)) hxs)
        clear hxk
        cases ht : termOkB x
        · have HZ := Lib.hid (all_false termOkB _ k x HK.out ht)
          have HW := Lib.hid (hw.2 ht)
          clear hw ht
          go_wp2_with (go_at_call 138; refine HW.out.mono ?_; rintro e w1 ⟨rfl, hx1⟩)
          go_ret
          exact ⟨by rw [HF.out, HZ.out]; rfl, ((Ext.refl _).alloc _).trans' ((hx.alloc _).trans' hx1)⟩
        · have HP := Lib.hid (show (a.args.take (k + 1)).all termOkB = true from by rw [all_snoc _ _ k x HK.out, hp.out, ht]; rfl)
          have HW := Lib.hid (hw.1 ht)
          clear hw ht
          go_wp2_with (go_at_call 138; refine HW.out.mono ?_; rintro e w1 ⟨rfl, hx1⟩)
          go_roundw
          case rel => exact ⟨k + 1, by omega, by go_num, HP, (hx.alloc _).trans' hx1⟩
          case measure => simp [intOf]; omega
      · have HZ := Lib.hid (all_whole _ _ k hlt hp.out)
        go_wp2
        go_ret
        exact ⟨by rw [HF.out, HZ.out]; rfl, ((Ext.refl _).alloc _).trans' hx⟩
   · have HF := Lib.hid (show atomOkB a = false from by unfold atomOkB; simp [h3])
     clear hw hn
     go_enter Tryz.func104, Tryz.ntmps104
     go_wp2_with (go_at_call 137; refine HW.out.mono ?_; rintro e w1 ⟨rfl, rfl⟩)
     go_ret
     exact ⟨by rw [HF.out]; rfl, (Ext.refl _).alloc _⟩

set_option maxHeartbeats 400000 in
theorem isFact1_any (t : GT) (w : World) :
 Calls Tryz.prog 106 #[.agg #[.bool t.v, .string t.n]] w fun e w' => e = .returned (.bool t.v) ∧ Ext w w' := by
 go_enter Tryz.func106, Tryz.ntmps106
 go_wp2
 go_ret
 exact ⟨rfl, (Ext.refl _).alloc _⟩



set_option maxRecDepth 100000 in
set_option maxHeartbeats 1000000 in
theorem indexVar_any (v : Value) (xs : List GT) (w : World) {S : Nat → Prop} (hv : TermsR S w v xs) :
 Calls Tryz.prog 139 #[v, .func (.func 106) #[] #[]] w fun e w' => (∃ z : Int, e = .returned (.int .i64 z) ∧ (xs.all noVar = true → z < 0) ∧ (xs.all noVar = false → 0 ≤ z)) ∧ Ext w w' := by
 obtain ⟨A, c, rfl, hc1, hc2⟩ := SliceR.form hv
 have HV := Lib.hid hv
 clear hv
 go_enter Tryz.func139, Tryz.ntmps139
 go_wp2
 go_loopw [8] (fun i wr => ∃ k : Nat, k ≤ xs.length ∧ i = .int .i64 k ∧ Hid ((xs.take k).all noVar = true) ∧ Ext w wr) (fun i _ => xs.length - (intOf i).toNat)
 case atStart => exact ⟨0, Nat.zero_le _, rfl, rfl, Ext.refl _⟩
 case round =>
  obtain ⟨k, hk, rfl, hp, hx⟩ := hrel
  by_cases hlt : k < xs.length
  · obtain ⟨b, off, x, rfl, hb, hxk, hxs, hc0, hc1⟩ := TermsR.at_ (HV.out.ext hx) hlt
    have HK := Lib.hid hxk
    have hw := bool_ways (isFact1_any x wr)
    clear hxk
    cases ht : x.v
    · have HP := Lib.hid (show (xs.take (k + 1)).all noVar = true from by rw [all_snoc _ _ k x HK.out, hp.out, noVar_yes ht]; rfl)
      have HW := Lib.hid (hw.2 ht)
      clear hw ht
      go_wp2_with (go_at_call 106; refine HW.out.mono ?_; rintro e w1 ⟨rfl, hx1⟩)
      go_roundw
      case rel => exact ⟨k + 1, by omega, by go_num, HP, hx.trans' hx1⟩
      case measure => simp [intOf]; omega
    · have HZ := Lib.hid (all_false noVar _ k x HK.out (noVar_no ht))
      have HW := Lib.hid (hw.1 ht)
      clear hw ht
      go_wp2_with (go_at_call 106; refine HW.out.mono ?_; rintro e w1 ⟨rfl, hx1⟩)
      go_ret
      exact ⟨⟨k, rfl, fun h => (by rw [HZ.out] at h; cases h), fun _ => Int.natCast_nonneg _⟩, hx.trans' hx1⟩
  · have HZ := Lib.hid (all_whole _ _ k hlt hp.out)
    go_wp2
    go_ret
    exact ⟨⟨-1, rfl, fun _ => by decide, fun h => (by rw [HZ.out] at h; cases h)⟩, hx⟩

set_option maxHeartbeats 1000000 in
theorem containsVar_any (v : Value) (xs : List GT) (w : World) {S : Nat → Prop} (hv : TermsR S w v xs) :
 Calls Tryz.prog 105 #[v, .func (.func 106) #[] #[]] w fun e w' => e = .returned (.bool (!xs.all noVar)) ∧ Ext w w' := by
 obtain ⟨A, c, rfl, hc1, hc2⟩ := SliceR.form hv
 have HV := Lib.hid hv
 clear hv
 cases ha : xs.all noVar
 · have HA := Lib.hid ha
   clear ha
   go_enter Tryz.func105, Tryz.ntmps105
   go_wp2_with (go_at_call 139; refine (indexVar_any _ xs _ HV.out).mono ?_; rintro e w1 ⟨⟨z, rfl, h1, h2⟩, hx1⟩; have hz := h2 HA.out; clear h1 h2)
   go_ret
   exact ⟨ret_bool (by first | (simp; done) | (simp; omega)), hx1⟩
 · have HA := Lib.hid ha
   clear ha
   go_enter Tryz.func105, Tryz.ntmps105
   go_wp2_with (go_at_call 139; refine (indexVar_any _ xs _ HV.out).mono ?_; rintro e w1 ⟨⟨z, rfl, h1, h2⟩, hx1⟩; have hz := h1 HA.out; clear h1 h2)
   go_ret
   exact ⟨ret_bool (by first | (simp; done) | (simp; omega)), hx1⟩

set_option maxRecDepth 100000 in
set_option maxHeartbeats 1000000 in
theorem isFact_any (a : GA) (v : Value) (w : World) {S : Nat → Prop} (hs : a.n.size ≤ maxLen) (hv : TermsR S w v a.args) :
 Calls Tryz.prog 74 #[.agg #[.string a.n, v]] w fun e w' => e = .returned (.bool (factB a)) ∧ Ext w w' := by
 obtain ⟨A, c, rfl, hc1, hc2⟩ := SliceR.form hv
 have HV := Lib.hid (hv.ext ((Ext.refl w).alloc (.cells #[.string a.n, .slice A a.args.length c] 26)))
 clear hv
 have hw := bool_ways (atomOk_any a _ _ hs HV.out)
 cases hn : atomOkB a
 · have HF := Lib.hid (show factB a = false from by unfold factB; rw [hn]; rfl)
   have HW := Lib.hid (hw.2 hn)
   clear hw hn
   go_enter Tryz.func74, Tryz.ntmps74
   go_wp2_with (go_at_call 104; refine HW.out.mono ?_; rintro e w1 ⟨rfl, hx1⟩)
   go_ret
   exact ⟨by rw [HF.out]; rfl, ((Ext.refl _).alloc _).trans' hx1⟩
 · have HF := Lib.hid (show factB a = a.args.all noVar from by unfold factB; rw [hn]; rfl)
   have HW := Lib.hid (hw.1 hn)
   clear hw hn
   cases ha : a.args.all noVar
   · have HA := Lib.hid ha
     clear ha
     go_enter Tryz.func74, Tryz.ntmps74
     go_wp2_with (first
      | (go_at_call 104; refine HW.out.mono ?_; rintro e w1 ⟨rfl, hx1⟩; obtain ⟨hcc, hcf⟩ := hx1.cells)
      | (go_at_call 105; refine ((bool_ways (containsVar_any _ a.args _ (HV.out.ext hx1))).1 (by rw [HA.out]; rfl)).mono ?_; rintro e w2 ⟨rfl, hx2⟩))
     go_ret
     exact ⟨by rw [HF.out, HA.out]; rfl, (((Ext.refl _).alloc _).trans' hx1).trans' hx2⟩
   · have HA := Lib.hid ha
     clear ha
     go_enter Tryz.func74, Tryz.ntmps74
     go_wp2_with (first
      | (go_at_call 104; refine HW.out.mono ?_; rintro e w1 ⟨rfl, hx1⟩; obtain ⟨hcc, hcf⟩ := hx1.cells)
      | (go_at_call 105; refine ((bool_ways (containsVar_any _ a.args _ (HV.out.ext hx1))).2 (by rw [HA.out]; rfl)).mono ?_; rintro e w2 ⟨rfl, hx2⟩))
     go_ret
     exact ⟨by rw [HF.out, HA.out]; rfl, (((Ext.refl _).alloc _).trans' hx1).trans' hx2⟩

end Go.Proofs.YtfjdijakgjhieaaGreat

namespace Go.Proofs
open Go.Shelf
def Tryz.lays169_ren : Go.Shelf.Ren := ⟨fun | 169 => 199 | n => n, fun | 70 => 235 | 9 => 9 | 0 => 0 | 72 => 237 | 37 => 22 | 127 => 250 | 3 => 3 | 5 => 5 | n => n, fun | n => n⟩
theorem Tryz.lays169 : Go.Proofs.Lays.n169 Tryz.prog Tryz.lays169_ren := {
 mixed := by kernel_rfl
 f169 := Tryz.func199.trans (congrArg some (by kernel_rfl))
 t0 := Tryz.underlying0
 a0 := Tryz.isAgg0
 z0 := Tryz.sizeOf0
 v0 := Tryz.zeroValue0
 t3 := Tryz.underlying3
 a3 := Tryz.isAgg3
 z3 := Tryz.sizeOf3
 v3 := Tryz.zeroValue3
 t9 := Tryz.underlying9
 a9 := Tryz.isAgg9
 z9 := Tryz.sizeOf9
 v9 := Tryz.zeroValue9
 t37 := Tryz.underlying22
 a37 := Tryz.isAgg22
 z37 := Tryz.sizeOf22
 v37 := Tryz.zeroValue22
 t70 := Tryz.underlying235
 a70 := Tryz.isAgg235
 z70 := Tryz.sizeOf235
 v70 := Tryz.zeroValue235
 t72 := Tryz.underlying237
 a72 := Tryz.isAgg237
 z72 := Tryz.sizeOf237
 v72 := Tryz.zeroValue237
 t127 := Tryz.underlying250
 a127 := Tryz.isAgg250
 z127 := Tryz.sizeOf250
 v127 := Tryz.zeroValue250 }
theorem Tryz.Builder_Extra_169 : Builder.Extra Tryz.prog Tryz.lays169_ren := {
 sizeBuilder := by kernel_rfl
 liesBuilder := by kernel_rfl
 t5 := Tryz.underlying5
 a5 := Tryz.isAgg5
 z5 := Tryz.sizeOf5
 v5 := Tryz.zeroValue5
 infoByte := by kernel_rfl
 cellsByte := by kernel_rfl
 sizeByte := by kernel_rfl
 neB5 := by decide }
open Go.RowKit in
/-- (*strings.Builder).String: "String returns the accumulated string.": WHATEVER THE BUILDER HOLDS. (LAID: no walk: one application.) -/
theorem Tryz.Builder_String_any (B b : Nat) (l : List UInt8) (w : World) (h : Lib.IsBuilder 237 5 B b (Lib.byteCells l) w) (hBw : B ≤ w.heap.size) :
 Calls Tryz.prog 199 #[.pointer (some ⟨b, 0, none⟩)] w fun e w' => e = .returned (.string ⟨l.toArray⟩) ∧ Below B w w' := Any.Builder_String_any Tryz.lays169 Tryz.Builder_Extra_169 B b l w h hBw
def Tryz.lays213_ren : Go.Shelf.Ren := ⟨fun | 213 => 176 | 265 => 194 | n => n, fun | 9 => 9 | 3 => 3 | n => n, fun | n => n⟩
def Tryz.lays106_ren : Go.Shelf.Ren := ⟨fun | 106 => 140 | 213 => 176 | 265 => 194 | n => n, fun | 9 => 9 | 3 => 3 | n => n, fun | n => n⟩
theorem Tryz.lays106 : Go.Proofs.Lays.n106 Tryz.prog Tryz.lays106_ren := {
 mixed := by kernel_rfl
 f106 := Tryz.func140.trans (congrArg some (by kernel_rfl))
 f213 := Tryz.func176.trans (congrArg some (by kernel_rfl))
 f265 := Tryz.func194.trans (congrArg some (by kernel_rfl))
 t3 := Tryz.underlying3
 a3 := Tryz.isAgg3
 z3 := Tryz.sizeOf3
 v3 := Tryz.zeroValue3
 t9 := Tryz.underlying9
 a9 := Tryz.isAgg9
 z9 := Tryz.sizeOf9
 v9 := Tryz.zeroValue9 }
open Go.RowKit in
/-- strings.Compare: "Compare returns an integer comparing two strings lexicographically. The result will be 0 if a == b, -1 if a < b, and +1 if a > b.": IT RETURNS 'Lib.compareBytes a b'; the world is as it was. (LAID: no walk: one application.) -/
theorem Tryz.strings_Compare (a b : ByteArray) (w : World) :
 Calls Tryz.prog 140 #[.string a, .string b] w fun e w' => e = .returned (.int .i64 (Lib.compareBytes a.data.toList b.data.toList)) ∧ w' = w := Any.strings_Compare Tryz.lays106 a b w
end Go.Proofs

namespace Go.Proofs.YtfjdijakgjhieaaGreat
open Go.RowKit

theorem compare_any (a b : ByteArray) (w : World) :
 Calls Tryz.prog 140 #[.string a, .string b] w fun e w' => e = .returned (.int .i64 (cmpS a b)) ∧ w' = w := Tryz.strings_Compare a b w

set_option maxHeartbeats 400000 in
theorem aOrder1_any (s t : GT) (w : World) :
 Calls Tryz.prog 142 #[.agg #[.bool s.v, .string s.n], .agg #[.bool t.v, .string t.n]] w fun e w' => e = .returned (.int .i64 (cmpS s.n t.n)) ∧ Ext w w' := by
 go_enter Tryz.func142, Tryz.ntmps142
 go_wp2_with (go_at_call 140; refine (compare_any _ _ _).mono ?_; rintro e w1 ⟨rfl, rfl⟩)
 go_ret
 exact ⟨rfl, ((Ext.refl _).alloc _).alloc _⟩

theorem cmpFrom_zero (x y : List GT) : cmpArgs x y = cmpFrom x y 0 0 := by unfold cmpFrom; rw [if_pos rfl]; rfl

set_option maxRecDepth 100000 in
set_option maxHeartbeats 2000000 in
theorem cmpFunc_any (v u : Value) (xs ys : List GT) (w : World) {S T : Nat → Prop} (hv : TermsR S w v xs) (hu : TermsR T w u ys) :
 Calls Tryz.prog 141 #[v, u, .func (.func 142) #[] #[]] w fun e w' => e = .returned (.int .i64 (cmpArgs xs ys)) ∧ Ext w w' := by
 obtain ⟨A, c, rfl, hc1, hc2⟩ := SliceR.form hv
 obtain ⟨B, d, rfl, hd1, hd2⟩ := SliceR.form hu
 have HV := Lib.hid hv
 have HU := Lib.hid hu
 clear hv hu
 go_enter Tryz.func141, Tryz.ntmps141
 go_wp2
 go_loopw [13] (fun i wr => ∃ k : Nat, (k ≤ xs.length ∧ k ≤ ys.length) ∧ i = .int .i64 k ∧ Hid (cmpArgs xs ys = cmpFrom xs ys k 0) ∧ Ext w wr) (fun i _ => xs.length - (intOf i).toNat)
 case atStart => exact ⟨0, ⟨Nat.zero_le _, Nat.zero_le _⟩, rfl, cmpFrom_zero _ _, Ext.refl _⟩
 case round =>
  obtain ⟨k, ⟨hk1, hk2⟩, rfl, hz, hx⟩ := hrel
  by_cases h1 : k < xs.length
  · obtain ⟨ba, offa, x, rfl, hba, hxk, hxs, hx0, hx1⟩ := TermsR.at_ (HV.out.ext hx) h1
    by_cases h2 : k < ys.length
    · obtain ⟨bb, offb, y, rfl, hbb, hyk, hys, hy0, hy1⟩ := TermsR.at_ (HU.out.ext hx) h2
      have HZ := Lib.hid (hz.out.trans (cmpFrom_step hxk hyk))
      have hg : decide (ys.length ≤ k) = false := decide_eq_false (by omega)
      clear hxk hyk hz
      by_cases hq : cmpS x.n y.n = 0
      · have HQ := Lib.hid (show cmpArgs xs ys = cmpFrom xs ys (k + 1) 0 from by rw [HZ.out, hq])
        have HC : ∀ W : World, Calls Tryz.prog 142 #[.agg #[.bool x.v, .string x.n], .agg #[.bool y.v, .string y.n]] W fun e w' => e = .returned (.int .i64 0) ∧ Ext W w' := fun W => by
         have := aOrder1_any x y W; rw [hq] at this; exact this
        have HC := Lib.hid HC
        clear hq
        go_wp2_with (go_at_call 142; refine (HC.out _).mono ?_; rintro e w1 ⟨rfl, hw1⟩)
        go_roundw
        case rel => exact ⟨k + 1, ⟨by omega, by omega⟩, by go_num, HQ, ((hx.alloc _).alloc _).trans' hw1⟩
        case measure => simp [intOf]; omega
      · have HQ := Lib.hid (HZ.out.trans (cmpFrom_done hq))
        have hq1 : ((cmpS x.n y.n : Int) != 0) = true := by simp [hq]
        have hq2 : ((cmpS x.n y.n : Int) == 0) = false := by simp [hq]
        clear hq
        go_wp2_with (go_at_call 142; refine (aOrder1_any x y _).mono ?_; rintro e w1 ⟨rfl, hw1⟩)
        go_ret
        exact ⟨by rw [HQ.out]; rfl, ((hx.alloc _).alloc _).trans' hw1⟩
    · have HZ := Lib.hid (hz.out.trans (cmpFrom_end (.inr (by omega)) ⟨hk1, hk2⟩))
      have hl : ys.length < xs.length := by omega
      have hg : decide (ys.length ≤ k) = true := decide_eq_true (by omega)
      clear hxk hz
      go_wp2
      go_ret
      exact ⟨by rw [HZ.out, if_neg (by omega), if_pos hl]; rfl, hx.alloc _⟩
  · have HZ := Lib.hid (hz.out.trans (cmpFrom_end (.inl (by omega)) ⟨hk1, hk2⟩))
    clear hz
    by_cases hl : xs.length < ys.length
    · go_wp2
      go_ret
      exact ⟨by rw [HZ.out, if_pos hl]; rfl, hx⟩
    · go_wp2
      go_ret
      exact ⟨by rw [HZ.out, if_neg (by omega), if_neg (by omega)]; rfl, hx⟩

set_option maxRecDepth 100000 in
set_option maxHeartbeats 1000000 in
theorem order_any (a b : GA) (v u : Value) (w : World) {S T : Nat → Prop} (hv : TermsR S w v a.args) (hu : TermsR T w u b.args) :
 Calls Tryz.prog 107 #[.agg #[.string a.n, v], .agg #[.string b.n, u]] w fun e w' => e = .returned (.int .i64 (cmpA a b)) ∧ Ext w w' := by
 obtain ⟨A, c, rfl, hc1, hc2⟩ := SliceR.form hv
 obtain ⟨B, d, rfl, hd1, hd2⟩ := SliceR.form hu
 have HV := Lib.hid (hv.ext (((Ext.refl w).alloc (.cells #[.string a.n, .slice A a.args.length c] 26)).alloc (.cells #[.string b.n, .slice B b.args.length d] 26)))
 have HU := Lib.hid (hu.ext (((Ext.refl w).alloc (.cells #[.string a.n, .slice A a.args.length c] 26)).alloc (.cells #[.string b.n, .slice B b.args.length d] 26)))
 clear hv hu
 by_cases hq : cmpS a.n b.n = 0
 · have HC : ∀ W : World, Calls Tryz.prog 140 #[.string a.n, .string b.n] W fun e w' => e = .returned (.int .i64 0) ∧ w' = W := fun W => by
     have := compare_any a.n b.n W; rw [hq] at this; exact this
   have HC := Lib.hid HC
   have HF := Lib.hid (show cmpA a b = cmpArgs a.args b.args from if_pos hq)
   clear hq
   go_enter Tryz.func107, Tryz.ntmps107
   go_wp2_with (first
    | (go_at_call 140; refine (HC.out _).mono ?_; rintro e w1 ⟨rfl, rfl⟩)
    | (go_at_call 141; refine (cmpFunc_any _ _ a.args b.args _ HV.out HU.out).mono ?_; rintro e w1 ⟨rfl, hx1⟩))
   go_ret
   exact ⟨by rw [HF.out]; rfl, (((Ext.refl _).alloc _).alloc _).trans' hx1⟩
 · have HF := Lib.hid (show cmpA a b = cmpS a.n b.n from if_neg hq)
   have hq1 : ((cmpS a.n b.n : Int) != 0) = true := by simp [hq]
   have hq2 : ((cmpS a.n b.n : Int) == 0) = false := by simp [hq]
   clear hq
   go_enter Tryz.func107, Tryz.ntmps107
   go_wp2_with (go_at_call 140; refine (compare_any _ _ _).mono ?_; rintro e w1 ⟨rfl, rfl⟩)
   go_ret
   exact ⟨by rw [HF.out]; rfl, ((Ext.refl _).alloc _).alloc _⟩

set_option maxHeartbeats 400000 in
theorem sorted_any (A : Option Addr) (n c : Nat) (w : World) :
 Calls Tryz.prog 75 #[.slice A n c] w fun e w' => e = .returned (.agg #[.slice A n c, .func (.func 107) #[] #[]]) ∧ Ext w w' := by
 go_enter Tryz.func75, Tryz.ntmps75
 go_wp2
 exact bodyPost_ret (v := .agg #[.slice A n c, .func (.func 107) #[] #[]]) (by simp [results, Tryz.results75, go_sem]) rfl ⟨rfl, (Ext.refl _).alloc _⟩

set_option maxRecDepth 100000 in
set_option maxHeartbeats 2000000 in
theorem ascends_any (v : Value) (xs : List GA) (w : World) {S : Nat → Prop} (hv : AtomsR S w v xs) :
 Calls Tryz.prog 76 #[.agg #[v, .func (.func 107) #[] #[]]] w fun e w' => e = .returned (.bool (ascB xs)) ∧ Ext w w' := by
 obtain ⟨A, c, rfl, hc1, hc2⟩ := SliceR.form hv
 have HV := Lib.hid (hv.ext ((Ext.refl w).alloc (.cells #[.slice A xs.length c, .func (.func 107) #[] #[]] 98)))
 clear hv
 go_enter Tryz.func76, Tryz.ntmps76
 go_wp2
 go_loopw [3] (fun i wr => ∃ k : Nat, (1 ≤ k ∧ (k ≤ xs.length ∨ k = 1)) ∧ i = .int .i64 k ∧ Hid (ascTo xs k = true) ∧ Ext (w.alloc (.cells #[.slice A xs.length c, .func (.func 107) #[] #[]] 98)) wr) (fun i _ => xs.length - (intOf i).toNat)
 case atStart => exact ⟨1, ⟨Nat.le_refl _, .inr rfl⟩, rfl, (by show _ = _; unfold ascTo; cases xs <;> rfl), Ext.refl _⟩
 case round =>
  obtain ⟨k, ⟨hk1, hk2⟩, rfl, ha, hx⟩ := hrel
  obtain ⟨hcc, hcf⟩ := hx.cells
  have hz1 := hx.size
  simp only [World.size_alloc] at hz1
  have hz2 : w.heap.size < wr.heap.size := by omega
  obtain ⟨j, rfl⟩ : ∃ j, k = j + 1 := ⟨k - 1, by omega⟩
  clear hk1 hz1
  by_cases hlt : j + 1 < xs.length
  · obtain ⟨b, off, y, v2, rfl, hb, hyk, hys, ht', hd0, hd1⟩ := AtomsR.at_ (HV.out.ext hx) (k := j) (by omega)
    obtain ⟨b', off', x, v1, hbb, hb', hxk, hxs, ht, hc0, hc1⟩ := AtomsR.at_ (HV.out.ext hx) hlt
    injection hbb with hbb
    injection hbb with e1 e2
    subst e1; subst e2
    have HS := Lib.hid (ascTo_step hyk hxk)
    have HC := Lib.hid (fun (W : World) (h : Ext wr W) => order_any y x v2 v1 W (ht'.ext h) (ht.ext h))
    have hj0 : (0 : Int) ≤ (j : Int) := Int.natCast_nonneg _
    have hj1 : (j : Int) < (xs.length : Int) := by omega
    have hj2 : (j : Int) + 1 < (xs.length : Int) := by omega
    have hk2' := Lib.hid hk2
    clear ht' ht hyk hxk hk2
    by_cases hcmp : cmpA y x < 0
    · have HA := Lib.hid (show ascTo xs (j + 1 + 1) = true from by rw [HS.out, ha.out]; unfold ltA; simp [hcmp])
      go_wp2_with fail
      refine calm_region (by kernel_rfl) (by kernel_rfl) ?_
      repeat (go_big_quiet_step ((go_at_call 107; exact calm_call (HC.out _ (Later.ext _)))))
      refine wpQuiet_nil ?_
      rintro w1 ⟨⟨_, hx1⟩, rfl⟩
      go_wp2
      go_roundw
      case rel => exact ⟨j + 1 + 1, ⟨by omega, .inl (by omega)⟩, by go_num, HA, hx.trans' hx1⟩
      case measure => simp [intOf]; omega
    · have HF := Lib.hid (show ascB xs = false from ascTo_false (k := j + 1 + 1) (by rw [HS.out]; unfold ltA; simp [hcmp]))
      go_wp2_with fail
      refine calm_region (by kernel_rfl) (by kernel_rfl) ?_
      repeat (go_big_quiet_step ((go_at_call 107; exact calm_call (HC.out _ (Later.ext _)))))
      refine wpQuiet_nil ?_
      rintro w1 ⟨⟨_, hx1⟩, rfl⟩
      go_wp2
      go_ret
      exact ⟨by rw [HF.out]; rfl, ((Ext.refl _).alloc _).trans' (hx.trans' hx1)⟩
  · have HF := Lib.hid (show ascB xs = true from by
      have h2 := ha.out
      unfold ascTo at h2
      rwa [List.take_of_length_le (by omega)] at h2)
    clear hk2
    go_wp2
    go_ret
    exact ⟨by rw [HF.out]; rfl, ((Ext.refl _).alloc _).trans' hx⟩

set_option maxRecDepth 100000 in
set_option maxHeartbeats 2000000 in
theorem factsOk_any (v : Value) (xs : List GA) (w : World) {S : Nat → Prop} (hv : AtomsR S w v xs) :
 Calls Tryz.prog 37 #[v] w fun e w' => e = .returned (.bool (factsB xs 300)) ∧ Ext w w' := by
 obtain ⟨A, c, rfl, hc1, hc2⟩ := SliceR.form hv
 have HV := Lib.hid hv
 clear hv
 by_cases h3 : xs.length ≤ 300
 · go_enter Tryz.func37, Tryz.ntmps37
   go_wp2
   go_loopw [10] (fun i wr => ∃ k : Nat, k ≤ xs.length ∧ i = .int .i64 k ∧ Hid ((xs.take k).all factB = true) ∧ Ext w wr) (fun i _ => xs.length - (intOf i).toNat)
   case atStart => exact ⟨0, Nat.zero_le _, rfl, rfl, Ext.refl _⟩
   case round =>
    obtain ⟨k, hk, rfl, hp, hx⟩ := hrel
    by_cases hlt : k < xs.length
    · obtain ⟨b, off, x, v1, rfl, hb, hxk, hxs, ht, hc0, hc1⟩ := AtomsR.at_ (HV.out.ext hx) hlt
      obtain ⟨A1, c1, rfl, hq1, hq2⟩ := SliceR.form ht
      have HK := Lib.hid hxk
      have hw := bool_ways (isFact_any x _ (wr.alloc (.cells #[.string x.n, .slice A1 x.args.length c1] 26)) hxs (ht.ext ((Ext.refl _).alloc _)))
      clear hxk ht
      cases hf : factB x
      · have HF := Lib.hid (show factsB xs 300 = false from by unfold factsB; rw [all_false factB _ k x HK.out hf]; rfl)
        have HW := Lib.hid (hw.2 hf)
        clear hw hf
        go_wp2_with (go_at_call 74; refine HW.out.mono ?_; rintro e w1 ⟨rfl, hx1⟩)
        go_ret
        exact ⟨by rw [HF.out]; rfl, (hx.alloc _).trans' hx1⟩
      · have HP := Lib.hid (show (xs.take (k + 1)).all factB = true from by rw [all_snoc _ _ k x HK.out, hp.out, hf]; rfl)
        have HW := Lib.hid (hw.1 hf)
        clear hw hf
        go_wp2_with (go_at_call 74; refine HW.out.mono ?_; rintro e w1 ⟨rfl, hx1⟩)
        go_roundw
        case rel => exact ⟨k + 1, by omega, by go_num, HP, (hx.alloc _).trans' hx1⟩
        case measure => simp [intOf]; omega
    · have HF := Lib.hid (show factsB xs 300 = ascB xs from by
        unfold factsB; rw [all_whole factB _ k hlt hp.out]; simp [h3])
      go_wp2_with (first
       | (go_at_call 75; refine (sorted_any _ _ _ _).mono ?_; rintro e w1 ⟨rfl, hx1⟩)
       | (go_at_call 76; refine (ascends_any _ xs _ (HV.out.ext (hx.trans' hx1))).mono ?_; rintro e w2 ⟨rfl, hx2⟩))
      go_ret
      exact ⟨by rw [HF.out]; rfl, (hx.trans' hx1).trans' hx2⟩
 · have HF := Lib.hid (show factsB xs 300 = false from by unfold factsB; simp [h3])
   go_enter Tryz.func37, Tryz.ntmps37
   go_wp2
   go_ret
   exact ⟨by rw [HF.out]; rfl, Ext.refl _⟩

end Go.Proofs.YtfjdijakgjhieaaGreat

namespace Go.Proofs.YtfjdijakgjhieaaGreat
open Go.RowKit Go.Shelf

attribute [local go_sem] Oper.semAt_some

/-- What a round that goes on must keep: the blocks of R that were there. -/
def KeepR (R : Nat → Prop) (W W' : World) : Prop := W.heap.size ≤ W'.heap.size ∧ Agree R W W'
theorem KeepR.trans {R : Nat → Prop} {A B C : World} (h : KeepR R A B) (k : KeepR R B C) : KeepR R A C := ⟨Nat.le_trans h.1 k.1, h.2.trans' k.2 h.1⟩
theorem KeepR.of_ext {R : Nat → Prop} {A B : World} (h : Ext A B) : KeepR R A B := ⟨h.size, .of_ext h⟩
theorem KeepR.cell {R : Nat → Prop} {A B : World} (h : KeepR R A B) {b o : Nat} {u : Value} (hb : R b) (hc : A.cell? ⟨b, o, none⟩ = some u) : B.cell? ⟨b, o, none⟩ = some u :=
 (World.cell?_of_block (w := A) (a := ⟨b, o, none⟩) (h.2 b hb (cell_lt hc))).trans hc

end Go.Proofs.YtfjdijakgjhieaaGreat

namespace Go.Proofs.YtfjdijakgjhieaaGreat
open Go.RowKit Go.Shelf

attribute [local go_sem] Oper.semAt_some

theorem TermsR.low {S : Nat → Prop} {w : World} {v : Value} {xs : List GT} (h : TermsR S w v xs) : TermsR (fun b => b < w.heap.size) w v xs := by
 obtain ⟨A, c, hv, h1, h2, h3⟩ := h
 exact ⟨A, c, hv, h1, h2, fun h0 => let ⟨b, off, ha, hb, _, hc⟩ := h3 h0; ⟨b, off, ha, hb, hb, hc⟩⟩
theorem AtomsR.low {S : Nat → Prop} {w : World} {v : Value} {xs : List GA} (h : AtomsR S w v xs) : AtomsR (fun b => b < w.heap.size) w v xs := by
 obtain ⟨A, c, hv, h1, h2, h3⟩ := h
 exact ⟨A, c, hv, h1, h2, fun h0 => let ⟨b, off, ha, hb, _, hc⟩ := h3 h0; ⟨b, off, ha, hb, hb, fun i x hx => let ⟨cs, hl, hcs, u, e1, e2, e3⟩ := hc i x hx; ⟨cs, hl, hcs, u, e1, e2, e3.low⟩⟩⟩

end Go.Proofs.YtfjdijakgjhieaaGreat

namespace Go.Proofs.YtfjdijakgjhieaaGreat
open Go.RowKit

/-- The place of a fact, or where it would come. -/
def placeA (l : List GA) (a : GA) : Nat := (l.takeWhile fun x => ltA x a).length
def isAt (l : List GA) (k : Nat) (a : GA) : Bool := match l[k]? with | some x => decide (cmpA x a = 0) | none => false
def hasA (l : List GA) (a : GA) : Bool := isAt l (placeA l a) a

theorem place_eq : ∀ (l : List GA) (a : GA) (k : Nat), ((l.take k).all fun x => ltA x a) = true → k ≤ l.length → (∀ x, l[k]? = some x → ltA x a = false) → placeA l a = k
 | [], a, k, _, hk, _ => by have : k = 0 := by simpa using hk
                            subst this; rfl
 | x :: l, a, 0, _, _, hx => by
   have := hx x rfl
   unfold placeA; rw [List.takeWhile_cons, if_neg (by simp [this])]; rfl
 | x :: l, a, k + 1, h, hk, hx => by
   simp only [List.take_succ_cons, List.all_cons, Bool.and_eq_true] at h
   have ih := place_eq l a k h.2 (by simpa using hk) (fun y hy => hx y (by simpa using hy))
   unfold placeA at ih ⊢
   rw [List.takeWhile_cons, if_pos h.1, List.length_cons, ih]

set_option maxRecDepth 100000 in
set_option maxHeartbeats 2000000 in
theorem l3At_any (v u : Value) (xs : List GA) (a : GA) (w : World) {S T : Nat → Prop} (hv : AtomsR S w v xs) (hu : TermsR T w u a.args) :
 Calls Tryz.prog 78 #[v, .agg #[.string a.n, u]] w fun e w' => e = .returned (.tuple #[.int .i64 (placeA xs a), .bool (hasA xs a)]) ∧ Ext w w' := by
 obtain ⟨A, c, rfl, hc1, hc2⟩ := SliceR.form hv
 obtain ⟨B, d, rfl, hd1, hd2⟩ := SliceR.form hu
 have HV := Lib.hid (hv.ext ((Ext.refl w).alloc (.cells #[.string a.n, .slice B a.args.length d] 26)))
 have HU := Lib.hid (hu.ext ((Ext.refl w).alloc (.cells #[.string a.n, .slice B a.args.length d] 26)))
 clear hv hu
 go_enter Tryz.func78, Tryz.ntmps78
 go_wp2
 go_loopw [6] (fun i wr => ∃ k : Nat, k ≤ xs.length ∧ i = .int .i64 k ∧ Hid (((xs.take k).all fun x => ltA x a) = true) ∧ Ext (w.alloc (.cells #[.string a.n, .slice B a.args.length d] 26)) wr) (fun i _ => xs.length - (intOf i).toNat)
 case atStart => exact ⟨0, Nat.zero_le _, rfl, rfl, Ext.refl _⟩
 case round =>
  obtain ⟨k, hk, rfl, hp, hx⟩ := hrel
  obtain ⟨hcc, hcf⟩ := hx.cells
  have hz1 := hx.size
  simp only [World.size_alloc] at hz1
  have hz2 : w.heap.size < wr.heap.size := by omega
  have hk0 : (0 : Int) ≤ (k : Int) := Int.natCast_nonneg _
  by_cases hlt : k < xs.length
  · obtain ⟨b, off, x, v1, rfl, hb, hxk, hxs, ht, hc0, hc1⟩ := AtomsR.at_ (HV.out.ext hx) hlt
    have hk1 : (k : Int) < (xs.length : Int) := by omega
    have HK := Lib.hid hxk
    have HC := Lib.hid (fun (W : World) (h : Ext wr W) => l1Cmp_any x a v1 _ W (ht.ext h) (HU.out.ext (hx.trans' h)))
    have hg : decide (k < xs.length) = true := decide_eq_true hlt
    clear hxk ht hz1
    by_cases hcmp : cmpA x a < 0
    · have HA := Lib.hid (show ((xs.take (k + 1)).all fun x => ltA x a) = true from by rw [all_snoc _ _ k x HK.out, hp.out]; unfold ltA; simp [hcmp])
      go_wp2_with fail
      refine calm_region (by kernel_rfl) (by kernel_rfl) ?_
      repeat (go_big_quiet_step ((go_at_call 79; exact calm_call (HC.out _ (Later.ext _)))))
      refine wpQuiet_nil ?_
      rintro w1 ⟨⟨_, hx1⟩, rfl⟩
      go_wp2
      go_roundw
      case rel => exact ⟨k + 1, by omega, by go_num, HA, hx.trans' hx1⟩
      case measure => simp [intOf]; omega
    · have HA := Lib.hid (place_eq xs a k hp.out hk (fun y hy => by rw [HK.out] at hy; injection hy with hy; subst hy; unfold ltA; simp [hcmp]))
      have HI := Lib.hid (show hasA xs a = decide (cmpA x a = 0) from by unfold hasA; rw [HA.out]; unfold isAt; rw [HK.out])
      go_wp2_with fail
      refine calm_region (by kernel_rfl) (by kernel_rfl) ?_
      repeat (go_big_quiet_step ((go_at_call 79; exact calm_call (HC.out _ (Later.ext _)))))
      refine wpQuiet_nil ?_
      rintro w1 ⟨⟨_, hx1⟩, rfl⟩
      have HC1 := Lib.hid (fun (W : World) (h : Ext w1 W) => HC.out W (hx1.trans' h))
      obtain ⟨hcc1, hcf1⟩ := hx1.cells
      have hz3 := hx1.size
      have hz4 : w.heap.size < w1.heap.size := by omega
      have hb1 : b < w1.heap.size := by omega
      clear HC hz3
      go_wp2_with fail
      refine calm_region (by kernel_rfl) (by kernel_rfl) ?_
      repeat (go_big_quiet_step ((go_at_call 79; exact calm_call (HC1.out _ (Later.ext _)))))
      refine wpQuiet_nil ?_
      rintro w2 ⟨⟨_, hx2⟩, rfl⟩
      go_wp2
      go_ret2
      exact ⟨by rw [HA.out, HI.out]; simp; rw [Bool.eq_iff_iff]; simp, (((Ext.refl _).alloc _).trans' (hx.trans' hx1)).trans' hx2⟩
  · have HA := Lib.hid (place_eq xs a k hp.out hk (fun y hy => by rw [List.getElem?_eq_none (by omega)] at hy; cases hy))
    have HI := Lib.hid (show hasA xs a = false from by unfold hasA; rw [HA.out]; unfold isAt; rw [List.getElem?_eq_none (by omega)])
    have hg : decide (k < xs.length) = false := decide_eq_false hlt
    clear hz1
    go_wp2_with fail
    refine calm_region (by kernel_rfl) (by kernel_rfl) ?_
    repeat (go_big_quiet_step (fail))
    refine wpQuiet_nil ?_
    rintro w1 ⟨⟨_, hx1⟩, rfl⟩
    obtain ⟨hcc1, hcf1⟩ := hx1.cells
    go_wp2_with fail
    refine calm_region (by kernel_rfl) (by kernel_rfl) ?_
    repeat (go_big_quiet_step (fail))
    refine wpQuiet_nil ?_
    rintro w2 ⟨⟨_, hx2⟩, rfl⟩
    go_wp2
    go_ret2
    exact ⟨by rw [HA.out, HI.out]; rfl, (((Ext.refl _).alloc _).trans' (hx.trans' hx1)).trans' hx2⟩

set_option maxHeartbeats 1000000 in
theorem l3Has_any (v u : Value) (xs : List GA) (a : GA) (w : World) {S T : Nat → Prop} (hv : AtomsR S w v xs) (hu : TermsR T w u a.args) :
 Calls Tryz.prog 40 #[v, .agg #[.string a.n, u]] w fun e w' => e = .returned (.bool (hasA xs a)) ∧ Ext w w' := by
 obtain ⟨A, c, rfl, hc1, hc2⟩ := SliceR.form hv
 obtain ⟨B, d, rfl, hd1, hd2⟩ := SliceR.form hu
 have HV := Lib.hid (hv.ext ((Ext.refl w).alloc (.cells #[.string a.n, .slice B a.args.length d] 26)))
 have HU := Lib.hid (hu.ext ((Ext.refl w).alloc (.cells #[.string a.n, .slice B a.args.length d] 26)))
 clear hv hu
 go_enter Tryz.func40, Tryz.ntmps40
 go_wp2_with (go_at_call 78; refine (l3At_any _ _ xs a _ HV.out HU.out).mono ?_; rintro e w1 ⟨rfl, hx1⟩)
 go_ret
 exact ⟨rfl, ((Ext.refl _).alloc _).trans' hx1⟩

end Go.Proofs.YtfjdijakgjhieaaGreat

namespace Go.Proofs.YtfjdijakgjhieaaGreat
open Go.RowKit

/-- A comparison that is a total order. -/
structure Total {α : Type} (c : α → α → Int) : Prop where
 eq : ∀ a b, c a b = 0 ↔ a = b
 neg : ∀ a b, c b a = - c a b
 trans : ∀ a b d, c a b < 0 → c b d < 0 → c a d < 0

def lexC {α : Type} (c : α → α → Int) : List α → List α → Int
 | [], [] => 0
 | [], _ :: _ => -1
 | _ :: _, [] => 1
 | a :: x, b :: y => if c a b = 0 then lexC c x y else c a b

theorem lex_eq {α : Type} {c : α → α → Int} (h : Total c) : ∀ x y : List α, lexC c x y = 0 ↔ x = y
 | [], [] => by simp [lexC]
 | [], _ :: _ => by simp [lexC]
 | _ :: _, [] => by simp [lexC]
 | a :: x, b :: y => by
   have ih := lex_eq h x y
   unfold lexC
   by_cases hc : c a b = 0
   · rw [if_pos hc, ih]; have := (h.eq a b).1 hc; subst this; simp
   · rw [if_neg hc]
     have : a ≠ b := fun e => hc ((h.eq a b).2 e)
     simp [hc, this]
theorem lex_neg {α : Type} {c : α → α → Int} (h : Total c) : ∀ x y : List α, lexC c y x = - lexC c x y
 | [], [] => by simp [lexC]
 | [], _ :: _ => by simp [lexC]
 | _ :: _, [] => by simp [lexC]
 | a :: x, b :: y => by
   have ih := lex_neg h x y
   unfold lexC
   by_cases hc : c a b = 0
   · rw [if_pos hc, if_pos (by rw [h.neg a b]; omega), ih]
   · rw [if_neg hc, if_neg (by rw [h.neg a b]; omega), h.neg a b]
theorem lex_trans {α : Type} {c : α → α → Int} (h : Total c) : ∀ x y z : List α, lexC c x y < 0 → lexC c y z < 0 → lexC c x z < 0
 | [], [], z => by simp [lexC]
 | [], _ :: _, [] => by simp [lexC]
 | [], _ :: _, _ :: _ => by simp [lexC]
 | _ :: _, [], z => by simp [lexC]
 | _ :: _, _ :: _, [] => by simp [lexC]
 | a :: x, b :: y, d :: z => by
   have ih := lex_trans h x y z
   unfold lexC
   intro h1 h2
   by_cases e1 : c a b = 0
   · rw [if_pos e1] at h1
     have e1' := (h.eq a b).1 e1
     subst e1'
     by_cases e2 : c a d = 0
     · rw [if_pos e2] at h2 ⊢; exact ih h1 h2
     · rw [if_neg e2] at h2 ⊢; exact h2
   · rw [if_neg e1] at h1
     by_cases e2 : c b d = 0
     · have e2' := (h.eq b d).1 e2
       subst e2'
       rw [if_neg e1]; exact h1
     · rw [if_neg e2] at h2
       have h3 := h.trans a b d h1 h2
       rw [if_neg (by omega)]; exact h3
theorem lex_total {α : Type} {c : α → α → Int} (h : Total c) : Total (lexC c) := ⟨lex_eq h, fun a b => lex_neg h a b, lex_trans h⟩

def cByte (a b : UInt8) : Int := if a.toNat < b.toNat then -1 else if b.toNat < a.toNat then 1 else 0
theorem cByte_total : Total cByte where
 eq a b := by
  unfold cByte
  rw [← UInt8.toNat_inj]
  split
  · constructor <;> intro h <;> omega
  · split
    · constructor <;> intro h <;> omega
    · constructor <;> intro h <;> omega
 neg a b := by
  unfold cByte
  split <;> split <;> omega
 trans a b d := by
  unfold cByte
  intro h1 h2
  split at h1
  · split at h2
    · rw [if_pos (by omega)]; omega
    · split at h2 <;> omega
  · split at h1 <;> omega
theorem cByte_lt (a b : UInt8) : cByte a b = if a < b then -1 else if b < a then 1 else 0 := by
 unfold cByte
 by_cases h1 : a < b
 · rw [if_pos h1, if_pos (UInt8.lt_iff_toNat_lt.1 h1)]
 · rw [if_neg h1, if_neg (fun h => h1 (UInt8.lt_iff_toNat_lt.2 h))]
   by_cases h2 : b < a
   · rw [if_pos h2, if_pos (UInt8.lt_iff_toNat_lt.1 h2)]
   · rw [if_neg h2, if_neg (fun h => h2 (UInt8.lt_iff_toNat_lt.2 h))]
theorem compareBytes_lex : ∀ x y : List UInt8, Lib.compareBytes x y = lexC cByte x y
 | [], [] => rfl
 | [], _ :: _ => rfl
 | _ :: _, [] => rfl
 | a :: x, b :: y => by
   have ih := compareBytes_lex x y
   simp only [Lib.compareBytes, lexC, cByte_lt]
   by_cases h1 : a < b
   · simp [h1]
   · by_cases h2 : b < a
     · simp [h1, h2]
     · simp [h1, h2, ih]
theorem bytes_total : Total (Lib.compareBytes) := by
 have := lex_total cByte_total
 rw [show Lib.compareBytes = lexC cByte from funext fun x => funext fun y => compareBytes_lex x y]
 exact this

/-- What the order looks at. -/
def argKeys (l : List GT) : List (List UInt8) := l.map fun t => t.n.data.toList
def keyA (a : GA) : List (List UInt8) := a.n.data.toList :: argKeys a.args
theorem cmpArgs_lex : ∀ x y : List GT, cmpArgs x y = lexC Lib.compareBytes (argKeys x) (argKeys y)
 | [], [] => rfl
 | [], _ :: _ => rfl
 | _ :: _, [] => rfl
 | s :: x, t :: y => by
   have ih := cmpArgs_lex x y
   unfold cmpArgs
   simp only [argKeys, List.map_cons, lexC] at ih ⊢
   rw [ih]; rfl
theorem cmpA_lex (a b : GA) : cmpA a b = lexC Lib.compareBytes (keyA a) (keyA b) := by
 unfold cmpA keyA lexC
 rw [cmpArgs_lex]; rfl

theorem cmpA_eq (a b : GA) : cmpA a b = 0 ↔ keyA a = keyA b := by rw [cmpA_lex]; exact (lex_total bytes_total).eq _ _
theorem cmpA_trans {a b d : GA} (h1 : cmpA a b < 0) (h2 : cmpA b d < 0) : cmpA a d < 0 := by
 rw [cmpA_lex] at *; exact (lex_total bytes_total).trans _ _ _ h1 h2

def Asc (l : List GA) : Prop := l.Pairwise fun a b => cmpA a b < 0

theorem asc_of : ∀ (l : List GA), ascB l = true → Asc l
 | [], _ => List.Pairwise.nil
 | [a], _ => List.pairwise_singleton _ _
 | a :: b :: l, h => by
   simp only [ascB, Bool.and_eq_true] at h
   have ih := asc_of (b :: l) h.2
   have hab : cmpA a b < 0 := of_decide_eq_true h.1
   refine List.Pairwise.cons ?_ ih
   intro z hz
   rcases List.mem_cons.1 hz with rfl | hz
   · exact hab
   · exact cmpA_trans hab ((List.pairwise_cons.1 ih).1 z hz)

theorem hasA_cons_lt {y : GA} {m : List GA} {x : GA} (h : cmpA y x < 0) : hasA (y :: m) x = hasA m x := by
 have hp : placeA (y :: m) x = placeA m x + 1 := by
  unfold placeA; rw [List.takeWhile_cons, if_pos (show ltA y x = true from decide_eq_true h)]; rfl
 unfold hasA; rw [hp]; unfold isAt; rw [List.getElem?_cons_succ]
theorem hasA_cons_ge {y : GA} {m : List GA} {x : GA} (h : ¬ cmpA y x < 0) : hasA (y :: m) x = decide (cmpA y x = 0) := by
 have hp : placeA (y :: m) x = 0 := by
  unfold placeA; rw [List.takeWhile_cons, if_neg (by unfold ltA; simp; omega)]; rfl
 unfold hasA; rw [hp]; rfl

theorem hasA_iff : ∀ (m : List GA) (x : GA), Asc m → (hasA m x = true ↔ ∃ y ∈ m, cmpA y x = 0)
 | [], x, _ => by simp [hasA, isAt]
 | y :: m, x, h => by
   have h1 := List.pairwise_cons.1 h
   have ih := hasA_iff m x h1.2
   by_cases hlt : cmpA y x < 0
   · rw [hasA_cons_lt hlt, ih]
     constructor
     · rintro ⟨z, hz, e⟩; exact ⟨z, List.mem_cons_of_mem _ hz, e⟩
     · rintro ⟨z, hz, e⟩
       rcases List.mem_cons.1 hz with rfl | hz
       · omega
       · exact ⟨z, hz, e⟩
   · rw [hasA_cons_ge hlt]
     constructor
     · intro e; exact ⟨y, by simp, of_decide_eq_true e⟩
     · rintro ⟨z, hz, e⟩
       rcases List.mem_cons.1 hz with rfl | hz
       · exact decide_eq_true e
       · have hyz := h1.1 z hz
         have hxz : cmpA y x < 0 := by
          have e1 := (cmpA_eq z x).1 e
          have : cmpA y x = cmpA y z := by rw [cmpA_lex, cmpA_lex, e1]
          omega
         exact absurd hxz hlt

theorem factsB_asc {l : List GA} {n : Nat} (h : factsB l n = true) : Asc l := by
 unfold factsB at h
 simp only [Bool.and_eq_true] at h
 exact asc_of l h.1.2

end Go.Proofs.YtfjdijakgjhieaaGreat
