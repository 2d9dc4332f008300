/- Part of the texts of a proof: own texts joined in the order of their building; what they say stands at each theorem. -/
import Derived.Shelf.Strings.Builder1
import Derived.Shelf.Small.Bits
import Derived.Shelf.Small.Strs
import Derived.Shelf.Strings.BuilderF
import Derived.Shelf.Strings.BuilderK
import Derived.Shelf.Strconv.Itoa0
import Derived.Shelf.Sort.Plain
import Derived.Shelf.Strings.BuilderCap
import Derived.Shelf.Slices.CompactS
import Derived.Shelf.Slices.Cells
import Derived.Shelf.Slices.In.SortNone
import Derived.Ground.SlsfProg
import Derived.Shelf.SlSortCmp.Insertion
import Derived.Shelf.SlSortCmp.SiftDown1
import Derived.Shelf.SlSortCmp.HeapSort1
import Derived.Shelf.SlSortCmp.Insertion1
import Derived.Shelf.SlSortCmp.Median1
import Derived.Shelf.SlSortCmp.Pivot1
import Derived.Shelf.SlSortCmp.ReverseRange1
import Derived.Shelf.SlSortCmp.PartialInsertion1
import Derived.Shelf.SlSortCmp.PartitionEqual1
import Derived.Shelf.SlSortCmp.Partition1
import Derived.Shelf.SlSortCmp.Pdq1
import Derived.Shelf.SlSortCmp.Whole1
import Derived.Shelf.SlSortCmp.NoneTotal
import Derived.Test.YtfjdijakgjhieaaGreatProg
import Derived.Test.YtfjdijakgjhieaaGreatBas07
import Derived.Test.YtfjdijakgjhieaaGreatBas03
import Derived.Test.YtfjdijakgjhieaaGreatBas21
import Derived.Test.YtfjdijakgjhieaaGreatBas13
namespace Go.Proofs
open Go.Shelf
def Tryz.laysSlF6_f85_ren : Go.Shelf.Ren := ⟨fun | 6 => 85 | 15 => 116 | 14 => 115 | 28 => 157 | 29 => 158 | 20 => 149 | 21 => 150 | 22 => 151 | 23 => 152 | 24 => 153 | 25 => 154 | 26 => 155 | 27 => 156 | 46 => 185 | 47 => 186 | 48 => 187 | 49 => 188 | 50 => 189 | 57 => 204 | n => n, fun | 22 => 34 | 24 => 56 | 25 => 107 | 3 => 3 | 39 => 155 | 0 => 0 | 53 => 201 | 55 => 203 | 4 => 4 | 46 => 195 | 45 => 194 | 50 => 101 | 5 => 5 | 9 => 9 | 66 => 226 | 70 => 230 | 76 => 246 | 77 => 247 | n => n, fun | n => n⟩
theorem Tryz.laysSlF6_f85 : Go.Proofs.SlLaysF.n6 Tryz.prog Tryz.laysSlF6_f85_ren := {
 mixed := by kernel_rfl
 f6 := ⟨Tryz.f85.name, by decide, Tryz.func85.trans (congrArg some (by kernel_rfl))⟩
 f14 := ⟨Tryz.f115.name, by decide, Tryz.func115.trans (congrArg some (by kernel_rfl))⟩
 f15 := Tryz.func116.trans (congrArg some (by kernel_rfl))
 f20 := ⟨Tryz.f149.name, by decide, Tryz.func149.trans (congrArg some (by kernel_rfl))⟩
 f21 := ⟨Tryz.f150.name, by decide, Tryz.func150.trans (congrArg some (by kernel_rfl))⟩
 f22 := ⟨Tryz.f151.name, by decide, Tryz.func151.trans (congrArg some (by kernel_rfl))⟩
 f23 := ⟨Tryz.f152.name, by decide, Tryz.func152.trans (congrArg some (by kernel_rfl))⟩
 f24 := ⟨Tryz.f153.name, by decide, Tryz.func153.trans (congrArg some (by kernel_rfl))⟩
 f25 := ⟨Tryz.f154.name, by decide, Tryz.func154.trans (congrArg some (by kernel_rfl))⟩
 f26 := ⟨Tryz.f155.name, by decide, Tryz.func155.trans (congrArg some (by kernel_rfl))⟩
 f27 := ⟨Tryz.f156.name, by decide, Tryz.func156.trans (congrArg some (by kernel_rfl))⟩
 f28 := Tryz.func157.trans (congrArg some (by kernel_rfl))
 f29 := Tryz.func158.trans (congrArg some (by kernel_rfl))
 f46 := ⟨Tryz.f185.name, by decide, Tryz.func185.trans (congrArg some (by kernel_rfl))⟩
 f47 := Tryz.func186.trans (congrArg some (by kernel_rfl))
 f48 := Tryz.func187.trans (congrArg some (by kernel_rfl))
 f49 := ⟨Tryz.f188.name, by decide, Tryz.func188.trans (congrArg some (by kernel_rfl))⟩
 f50 := ⟨Tryz.f189.name, by decide, Tryz.func189.trans (congrArg some (by kernel_rfl))⟩
 f57 := ⟨Tryz.f204.name, by decide, Tryz.func204.trans (congrArg some (by kernel_rfl))⟩
 t0 := Tryz.underlying0
 a0 := Tryz.isAgg0
 z0 := Tryz.sizeOf0
 v0 := Tryz.zeroValue0
 t3 := Tryz.underlying3
 a3 := Tryz.isAgg3
 z3 := Tryz.sizeOf3
 v3 := Tryz.zeroValue3
 t4 := Tryz.underlying4
 a4 := Tryz.isAgg4
 z4 := Tryz.sizeOf4
 v4 := Tryz.zeroValue4
 t5 := Tryz.underlying5
 a5 := Tryz.isAgg5
 z5 := Tryz.sizeOf5
 v5 := Tryz.zeroValue5
 t9 := Tryz.underlying9
 a9 := Tryz.isAgg9
 z9 := Tryz.sizeOf9
 v9 := Tryz.zeroValue9
 t22 := Tryz.underlying34
 a22 := Tryz.isAgg34
 z22 := Tryz.sizeOf34
 v22 := Tryz.zeroValue34
 a24 := Tryz.isAgg56
 z24 := Tryz.sizeOf56
 t25 := Tryz.underlying107
 a25 := Tryz.isAgg107
 z25 := Tryz.sizeOf107
 v25 := Tryz.zeroValue107
 t39 := Tryz.underlying155
 a39 := Tryz.isAgg155
 z39 := Tryz.sizeOf155
 v39 := Tryz.zeroValue155
 t45 := Tryz.underlying194
 a45 := Tryz.isAgg194
 z45 := Tryz.sizeOf194
 v45 := Tryz.zeroValue194
 t46 := Tryz.underlying195
 a46 := Tryz.isAgg195
 z46 := Tryz.sizeOf195
 v46 := Tryz.zeroValue195
 t50 := Tryz.underlying101
 a50 := Tryz.isAgg101
 z50 := Tryz.sizeOf101
 v50 := Tryz.zeroValue101
 t53 := Tryz.underlying201
 a53 := Tryz.isAgg201
 z53 := Tryz.sizeOf201
 v53 := Tryz.zeroValue201
 t55 := Tryz.underlying203
 a55 := Tryz.isAgg203
 z55 := Tryz.sizeOf203
 v55 := Tryz.zeroValue203
 t66 := Tryz.underlying226
 a66 := Tryz.isAgg226
 z66 := Tryz.sizeOf226
 v66 := Tryz.zeroValue226
 t70 := Tryz.underlying230
 a70 := Tryz.isAgg230
 z70 := Tryz.sizeOf230
 v70 := Tryz.zeroValue230
 t76 := Tryz.underlying246
 a76 := Tryz.isAgg246
 z76 := Tryz.sizeOf246
 v76 := Tryz.zeroValue246
 t77 := Tryz.underlying247
 a77 := Tryz.isAgg247
 z77 := Tryz.sizeOf247
 v77 := Tryz.zeroValue247 }
open Go.RowKit Go.Lib Go.Sort in
/-- **slices.SortFunc, IN THE DOCUMENTATION's OWN TERMS: A PERMUTATION OF WHAT THE ROW HELD, SORTED BY 'cmp(a, b) < 0'.** Which of two equals comes first is left open ("The sort is not guaranteed to be stable"). (LAID AT THE INSTANCE 'slices.SortFunc[[][]string,[]string]': no walk: one application.) -/
theorem Tryz.slices_SortFunc {α : Type} [Inhabited α] (enc : α → Value) (h1 : OneCell enc) (cf : α → α → Int) (hO : SWO (ltOf cf)) (g : Nat) (cb : Array Value) (blk off cap : Nat) (d : Array α) (w : World) (eg : ∀ args w, (callFunc g args).run Tryz.prog w = .ok (.enter g args) w) (hcmp : CmpLays1 Tryz.prog g cb enc cf blk off d.size w) (hH : Holds enc w blk off d) (hblk : blk < w.heap.size) (hsz : d.size < 4611686018427387904) :
 Calls Tryz.prog 85 #[.slice (some ⟨blk, off, none⟩) d.size cap, .func (.func g) #[] cb] w fun e w' =>
  e = .returned (.tuple #[]) ∧ ∃ d' n os, PermIn 0 d.size d d' ∧ SortedIn (ltOf cf) 0 d.size d' ∧ w' = sortWorld enc w blk off n d' os := Any.slices_SortFunc Tryz.laysSlF6_f85 enc h1 cf hO g cb blk off cap d w eg hcmp hH hblk hsz
def Tryz.laysSlF06_f85_ren : Go.Shelf.Ren := ⟨fun | 6 => 85 | 15 => 116 | 14 => 115 | 28 => 157 | 29 => 158 | 20 => 149 | 21 => 150 | 22 => 151 | 23 => 152 | 24 => 153 | 25 => 154 | 26 => 155 | 27 => 156 | 46 => 185 | 47 => 186 | 48 => 187 | 49 => 188 | 50 => 189 | 57 => 204 | n => n, fun | 22 => 34 | 24 => 56 | 25 => 107 | 3 => 3 | 39 => 155 | 0 => 0 | 53 => 201 | 55 => 203 | 4 => 4 | 46 => 195 | 45 => 194 | 50 => 101 | 5 => 5 | 9 => 9 | 66 => 226 | 70 => 230 | 76 => 246 | 77 => 247 | n => n, fun | n => n⟩
theorem Tryz.laysSlF06_f85 : Go.Proofs.SlLaysF0.n6 Tryz.prog Tryz.laysSlF06_f85_ren := {
 mixed := by kernel_rfl
 f6 := ⟨Tryz.f85.name, by decide, Tryz.func85.trans (congrArg some (by kernel_rfl))⟩
 f14 := ⟨Tryz.f115.name, by decide, Tryz.func115.trans (congrArg some (by kernel_rfl))⟩
 f15 := Tryz.func116.trans (congrArg some (by kernel_rfl))
 f20 := ⟨Tryz.f149.name, by decide, Tryz.func149.trans (congrArg some (by kernel_rfl))⟩
 f21 := ⟨Tryz.f150.name, by decide, Tryz.func150.trans (congrArg some (by kernel_rfl))⟩
 f22 := ⟨Tryz.f151.name, by decide, Tryz.func151.trans (congrArg some (by kernel_rfl))⟩
 f23 := ⟨Tryz.f152.name, by decide, Tryz.func152.trans (congrArg some (by kernel_rfl))⟩
 f24 := ⟨Tryz.f153.name, by decide, Tryz.func153.trans (congrArg some (by kernel_rfl))⟩
 f25 := ⟨Tryz.f154.name, by decide, Tryz.func154.trans (congrArg some (by kernel_rfl))⟩
 f26 := ⟨Tryz.f155.name, by decide, Tryz.func155.trans (congrArg some (by kernel_rfl))⟩
 f27 := ⟨Tryz.f156.name, by decide, Tryz.func156.trans (congrArg some (by kernel_rfl))⟩
 f28 := Tryz.func157.trans (congrArg some (by kernel_rfl))
 f29 := Tryz.func158.trans (congrArg some (by kernel_rfl))
 f46 := ⟨Tryz.f185.name, by decide, Tryz.func185.trans (congrArg some (by kernel_rfl))⟩
 f47 := Tryz.func186.trans (congrArg some (by kernel_rfl))
 f48 := Tryz.func187.trans (congrArg some (by kernel_rfl))
 f49 := ⟨Tryz.f188.name, by decide, Tryz.func188.trans (congrArg some (by kernel_rfl))⟩
 f50 := ⟨Tryz.f189.name, by decide, Tryz.func189.trans (congrArg some (by kernel_rfl))⟩
 f57 := ⟨Tryz.f204.name, by decide, Tryz.func204.trans (congrArg some (by kernel_rfl))⟩
 t0 := Tryz.underlying0
 a0 := Tryz.isAgg0
 z0 := Tryz.sizeOf0
 v0 := Tryz.zeroValue0
 t3 := Tryz.underlying3
 a3 := Tryz.isAgg3
 z3 := Tryz.sizeOf3
 v3 := Tryz.zeroValue3
 t4 := Tryz.underlying4
 a4 := Tryz.isAgg4
 z4 := Tryz.sizeOf4
 v4 := Tryz.zeroValue4
 t5 := Tryz.underlying5
 a5 := Tryz.isAgg5
 z5 := Tryz.sizeOf5
 v5 := Tryz.zeroValue5
 t9 := Tryz.underlying9
 a9 := Tryz.isAgg9
 z9 := Tryz.sizeOf9
 v9 := Tryz.zeroValue9
 t22 := Tryz.underlying34
 a22 := Tryz.isAgg34
 z22 := Tryz.sizeOf34
 v22 := Tryz.zeroValue34
 t25 := Tryz.underlying107
 a25 := Tryz.isAgg107
 z25 := Tryz.sizeOf107
 v25 := Tryz.zeroValue107
 t39 := Tryz.underlying155
 a39 := Tryz.isAgg155
 z39 := Tryz.sizeOf155
 v39 := Tryz.zeroValue155
 t45 := Tryz.underlying194
 a45 := Tryz.isAgg194
 z45 := Tryz.sizeOf194
 v45 := Tryz.zeroValue194
 t46 := Tryz.underlying195
 a46 := Tryz.isAgg195
 z46 := Tryz.sizeOf195
 v46 := Tryz.zeroValue195
 t50 := Tryz.underlying101
 a50 := Tryz.isAgg101
 z50 := Tryz.sizeOf101
 v50 := Tryz.zeroValue101
 t53 := Tryz.underlying201
 a53 := Tryz.isAgg201
 z53 := Tryz.sizeOf201
 v53 := Tryz.zeroValue201
 t55 := Tryz.underlying203
 a55 := Tryz.isAgg203
 z55 := Tryz.sizeOf203
 v55 := Tryz.zeroValue203
 t66 := Tryz.underlying226
 a66 := Tryz.isAgg226
 z66 := Tryz.sizeOf226
 v66 := Tryz.zeroValue226
 t70 := Tryz.underlying230
 a70 := Tryz.isAgg230
 z70 := Tryz.sizeOf230
 v70 := Tryz.zeroValue230
 t76 := Tryz.underlying246
 a76 := Tryz.isAgg246
 z76 := Tryz.sizeOf246
 v76 := Tryz.zeroValue246
 t77 := Tryz.underlying247
 a77 := Tryz.isAgg247
 z77 := Tryz.sizeOf247
 v77 := Tryz.zeroValue247 }
open Go.RowKit Go.Lib Go.Sort in
/-- **slices.SortFunc AT NO ELEMENT, A nil SLICE TOO: nothing turns.** (LAID AT THE INSTANCE 'slices.SortFunc[[][]string,[]string]': no walk: one application.) -/
theorem Tryz.slices_SortFunc_none {α : Type} [Inhabited α] (p : Option Addr) (cap : Nat) (fv : Value) (w : World) :
 Calls Tryz.prog 85 #[.slice p 0 cap, fv] w fun e w' => e = .returned (.tuple #[]) ∧ w' = w := AnyF.slices_SortFunc_none Tryz.laysSlF06_f85 p cap fv w
end Go.Proofs

namespace Go.Proofs.YtfjdijakgjhieaaGreat
set_option linter.unusedSimpArgs false
set_option linter.unusedVariables false
open Go.RowKit

theorem drop_row {α : Type} {L : List α} {k : Nat} {j : α} (h : L[k]? = some j) : L.drop k = j :: L.drop (k + 1) := by
 obtain ⟨h1, h2⟩ := List.getElem?_eq_some_iff.1 h
 rw [← h2]; exact List.drop_eq_getElem_cons h1
theorem cmpR_cons {a b : ByteArray} {x y : List ByteArray} : cmpR (a :: x) (b :: y) = if cmpS a b = 0 then cmpR x y else cmpS a b := by
 unfold cmpR
 simp only [lexC]
theorem cmpR_nil_left {y : List ByteArray} : cmpR [] y = if y = [] then 0 else -1 := by
 cases y <;> rfl
theorem cmpR_nil_right {x : List ByteArray} : cmpR x [] = if x = [] then 0 else 1 := by
 cases x <;> rfl

set_option maxRecDepth 100000 in
set_option maxHeartbeats 1000000 in
theorem cmpCompare_any (x y : ByteArray) (w : World) : Calls Tryz.prog 117 #[.string x, .string y] w fun e w' => e = .returned (.int .i64 (cmpS x y)) ∧ w' = w := by
 have hgt : binOp .gtr 9 (.string x) (.string y) = pure (.bool !(Op.bytesLess x.toList y.toList || x.toList == y.toList)) := by simp [binOp, Op.stringOp]
 have tok : True := trivial
 rcases Bool.eq_false_or_eq_true (Op.bytesLess x.toList y.toList) with h1 | h1
 · have HF := Lib.hid (cmpS_less h1)
   go_enter Tryz.func117, Tryz.ntmps117
   go_wp2_with (first | (go_at_call 159; refine (nan_any _ _).mono ?_; rintro e w1 ⟨rfl, e1⟩; obtain rfl : w = w1 := e1.symm) | fail)
   go_ret
   exact ⟨by rw [HF.out]; rfl, rfl⟩
 · rw [h1] at hgt
   rcases Bool.eq_false_or_eq_true (x.toList == y.toList) with h2 | h2
   · rw [h2] at hgt
     have HF := Lib.hid (cmpS_same h1 (by rw [h2]; rfl))
     clear h2
     go_enter Tryz.func117, Tryz.ntmps117
     go_wp2_with (first | (go_at_call 159; refine (nan_any _ _).mono ?_; rintro e w1 ⟨rfl, e1⟩; obtain rfl : w = w1 := e1.symm) | fail)
     go_ret
     exact ⟨by rw [HF.out]; rfl, rfl⟩
   · rw [h2] at hgt
     have HF := Lib.hid (cmpS_more h1 (by rw [h2]; rfl))
     clear h2
     go_enter Tryz.func117, Tryz.ntmps117
     go_wp2_with (first | (go_at_call 159; refine (nan_any _ _).mono ?_; rintro e w1 ⟨rfl, e1⟩; obtain rfl : w = w1 := e1.symm) | fail)
     go_ret
     exact ⟨by rw [HF.out]; rfl, rfl⟩

set_option maxRecDepth 100000 in
set_option maxHeartbeats 4000000 in
theorem rowCompare_any (v u : Value) (xs ys : List ByteArray) (w : World) {S T : Nat → Prop} (hv : StrsR S w v xs) (hu : StrsR T w u ys) :
 Calls Tryz.prog 86 #[v, u] w fun e w' => e = .returned (.int .i64 (cmpR xs ys)) ∧ w' = w := by
 obtain ⟨A, c, rfl, hc1, hc2⟩ := SliceR.form hv
 obtain ⟨B, d, rfl, hd1, hd2⟩ := SliceR.form hu
 have HV := Lib.hid hv
 have HU := Lib.hid hu
 clear hv hu
 go_enter Tryz.func86, Tryz.ntmps86
 go_wp2
 go_loopw [11] (fun i wr => ∃ k : Nat, k ≤ xs.length ∧ i = .int .i64 k ∧ k ≤ ys.length ∧ wr = w ∧ Hid (cmpR xs ys = cmpR (xs.drop k) (ys.drop k))) (fun i _ => xs.length - (intOf i).toNat)
 case atStart => exact ⟨0, Nat.zero_le _, rfl, Nat.zero_le _, rfl, Lib.hid rfl⟩
 case round =>
  obtain ⟨k, hk, rfl, hky, rfl, hcm⟩ := hrel
  have hk0 : (0 : Int) ≤ (k : Int) := by omega
  by_cases hlt : k < xs.length
  · have hk1 : (k : Int) < (xs.length : Int) := by omega
    obtain ⟨b, off, x, rfl, hb, hxk, hxs, c0⟩ := StrsR.at_ HV.out hlt
    by_cases hly : k < ys.length
    · have hk2 : (k : Int) < (ys.length : Int) := by omega
      obtain ⟨b2, off2, y, rfl, hb2, hyk, hys, d0⟩ := StrsR.at_ HU.out hly
      have HD := Lib.hid (show cmpR xs ys = if cmpS x y = 0 then cmpR (xs.drop (k + 1)) (ys.drop (k + 1)) else cmpS x y from by
       rw [hcm.out, drop_row hxk, drop_row hyk, cmpR_cons])
      clear hxk hyk
      rcases cmpS_range x y with he | he | he
      · have HC := Lib.hid (fun (W : World) => show Calls Tryz.prog 117 #[.string x, .string y] W fun e w' => e = .returned (.int .i64 (-1)) ∧ w' = W from he ▸ cmpCompare_any x y W)
        have HF := Lib.hid (show cmpR xs ys = -1 from by rw [HD.out, if_neg (by rw [he]; decide), he])
        clear he
        go_wp2_with (go_at_call 117; refine (HC.out _).mono ?_; rintro e w1 ⟨rfl, e1⟩; obtain rfl := e1)
        go_ret
        exact ⟨by rw [HF.out]; rfl, rfl⟩
      · have HC := Lib.hid (fun (W : World) => show Calls Tryz.prog 117 #[.string x, .string y] W fun e w' => e = .returned (.int .i64 0) ∧ w' = W from he ▸ cmpCompare_any x y W)
        have HF := Lib.hid (show cmpR xs ys = cmpR (xs.drop (k + 1)) (ys.drop (k + 1)) from by rw [HD.out, if_pos he])
        clear he
        go_wp2_with (go_at_call 117; refine (HC.out _).mono ?_; rintro e w1 ⟨rfl, e1⟩; obtain rfl := e1)
        go_roundw
        case rel => exact ⟨k + 1, by omega, by go_num, by omega, trivial, HF⟩
        case measure => simp [intOf]; omega
      · have HC := Lib.hid (fun (W : World) => show Calls Tryz.prog 117 #[.string x, .string y] W fun e w' => e = .returned (.int .i64 1) ∧ w' = W from he ▸ cmpCompare_any x y W)
        have HF := Lib.hid (show cmpR xs ys = 1 from by rw [HD.out, if_neg (by rw [he]; decide), he])
        clear he
        go_wp2_with (go_at_call 117; refine (HC.out _).mono ?_; rintro e w1 ⟨rfl, e1⟩; obtain rfl := e1)
        go_ret
        exact ⟨by rw [HF.out]; rfl, rfl⟩
    · have HF := Lib.hid (show cmpR xs ys = 1 from by
        rw [hcm.out, show ys.drop k = [] from List.drop_eq_nil_of_le (by omega), cmpR_nil_right, if_neg (by rw [drop_row hxk]; simp)])
      clear hxk
      go_wp2
      go_ret
      exact ⟨by rw [HF.out]; rfl, rfl⟩
  · by_cases hly : k < ys.length
    · have HF := Lib.hid (show cmpR xs ys = -1 from by
        rw [hcm.out, show xs.drop k = [] from List.drop_eq_nil_of_le (by omega), cmpR_nil_left, if_neg (by intro e; have := congrArg List.length e; simp at this; omega)])
      have h1 : xs.length < ys.length := by omega
      go_wp2
      go_ret
      exact ⟨by rw [HF.out]; rfl, rfl⟩
    · have HF := Lib.hid (show cmpR xs ys = 0 from by
        rw [hcm.out, show xs.drop k = [] from List.drop_eq_nil_of_le (by omega), show ys.drop k = [] from List.drop_eq_nil_of_le (by omega)]; rfl)
      have h1 : ¬ xs.length < ys.length := by omega
      go_wp2
      go_ret
      exact ⟨by rw [HF.out]; rfl, rfl⟩

end Go.Proofs.YtfjdijakgjhieaaGreat

namespace Go.Proofs.YtfjdijakgjhieaaGreat
set_option linter.unusedSimpArgs false
set_option linter.unusedVariables false
open Go.RowKit

theorem total_le {α : Type} {c : α → α → Int} (h : Total c) {x y z : α} (h1 : ¬ c x y < 0) (h2 : ¬ c y z < 0) : ¬ c x z < 0 := by
 intro h3
 have n1 := h.neg x y
 have n2 := h.neg y z
 by_cases e : c x y = 0
 · rw [(h.eq x y).1 e] at h3
   exact h2 h3
 · exact h2 (h.trans y x z (by omega) h3)
theorem sort_block {α : Type} [Inhabited α] (enc : α → Value) (w : World) (g o m : Nat) (d : Array α) (os : Array Obj) {k : Nat} (hk : k < w.heap.size) (hne : k ≠ g) : (sortWorld enc w g o m d os).heap[k]? = w.heap[k]? := by
 unfold sortWorld
 rw [Sort.heap_grow_old _ _ (by rw [Sort.size_putRow]; exact hk)]
 show ((Sort.ahead w m).heap.modify g _)[k]? = _
 rw [Array.getElem?_modify, if_neg (fun e => hne e.symm)]
 rfl
theorem sort_size {α : Type} [Inhabited α] (enc : α → Value) (w : World) (g o m : Nat) (d : Array α) (os : Array Obj) : w.heap.size ≤ (sortWorld enc w g o m d os).heap.size := by
 unfold sortWorld
 rw [Sort.size_grow, Sort.size_putRow]
 show w.heap.size ≤ w.heap.size + _
 omega
theorem sort_inside {α : Type} [Inhabited α] (enc : α → Value) (w : World) (g o m : Nat) (d : Array α) (os : Array Obj) : Inside (fun b => b = g) w (sortWorld enc w g o m d os) :=
 ⟨rfl, rfl, rfl, sort_size _ _ _ _ _ _ _, fun k hk hne => sort_block _ _ _ _ _ _ _ hk hne⟩

set_option maxHeartbeats 2000000 in
theorem sortRows_any (rows : List (List ByteArray)) (v : Value) (w : World) {base : Nat} {e : TypeId} {S : Nat → Prop} (ho : OwnO kRowO base e S w v rows) (hl : rows.length < 4611686018427387904) :
 Calls Tryz.prog 85 #[v, .func (.func 86) #[] #[]] w fun e w' => e = .returned (.tuple #[]) ∧
  (∃ sorted : List (List ByteArray), sorted.Perm rows ∧ sorted.Pairwise (fun a b => cmpR a b ≤ 0) ∧ RowsO (fun b => S b ∨ base ≤ b) w' v sorted) ∧ Inside (fun b => base ≤ b) w w' := by
 by_cases hne : rows = []
 · subst hne
   obtain ⟨A, n, c, rfl, hn, hc1, hc2⟩ := ho.form2
   obtain rfl : n = 0 := hn.out
   refine (Tryz.slices_SortFunc_none (α := Nat) A c _ w).mono fun e w' ⟨h1, h2⟩ => ⟨h1, ⟨[], .refl _, List.Pairwise.nil, SliceO.nil c hc2 A⟩, ?_⟩
   rw [h2]; exact Inside.refl _ _
 · obtain ⟨rws, F, k1, k2, k3, k4, k5, k6⟩ := ho
   have hpos : 0 < rows.length := List.length_pos_iff.2 hne
   rcases k1.2 with ⟨rfl, h0⟩ | ⟨g, cap, cur, rfl, hb, hc, h2, h3, h4, h5⟩
   · omega
   · have hblk : Blk w g e cur := hc
     have hrl : rws.length = rows.length := by rw [k2]; show rows.length * 1 = _; omega
     haveI : Inhabited (Fin rows.length) := ⟨⟨0, hpos⟩⟩
     have hval : ∀ i : Fin rows.length, ∃ u, rws[i.val]? = some u ∧ StrsO (F i.val) w u (rows[i.val]'i.isLt) := fun i => by
      obtain ⟨l, m1, m2, u, rfl, m3⟩ := k3 i.val _ (List.getElem?_eq_getElem i.isLt)
      have := m2 0 u rfl
      rw [show i.val * kRowO.size + 0 = i.val from by show i.val * 1 + 0 = _; omega] at this
      exact ⟨u, this, m3⟩
     obtain ⟨enc, henc⟩ : ∃ enc : Fin rows.length → Value, ∀ i, rws[i.val]? = some (enc i) ∧ StrsO (F i.val) w (enc i) (rows[i.val]'i.isLt) := ⟨fun i => (hval i).choose, fun i => (hval i).choose_spec⟩
     have hone : OneCell enc := fun i => by
      obtain ⟨A, c, he, _⟩ := SliceO.form (henc i).2
      rw [he]; rfl
     obtain ⟨cf, hcf⟩ : ∃ cf : Fin rows.length → Fin rows.length → Int, cf = fun i j => cmpR (rows[i.val]'i.isLt) (rows[j.val]'j.isLt) := ⟨_, rfl⟩
     have hO : Sort.SWO (ltOf cf) := by
      rw [hcf]
      refine ⟨fun x => ?_, fun x y z h1 h2 => ?_, fun x y z h1 h2 => ?_⟩
      · unfold ltOf
        show decide (cmpR (rows[x.val]'x.isLt) (rows[x.val]'x.isLt) < 0) = false
        rw [self_zero cmpR_total]; rfl
      · exact decide_eq_true (cmpR_total.trans _ _ _ (of_decide_eq_true h1) (of_decide_eq_true h2))
      · exact decide_eq_false (total_le cmpR_total (of_decide_eq_false h1) (of_decide_eq_false h2))
     have hd : (Array.ofFn (n := rows.length) id).size = rows.length := by simp
     have hH : Sort.Holds enc w g 0 (Array.ofFn (n := rows.length) id) := fun j hj => by
      have hj' : j < rows.length := by rw [hd] at hj; exact hj
      refine ⟨?_, hblk.frozen _⟩
      have h6 := (henc ⟨j, hj'⟩).1
      rw [← h5, List.getElem?_take] at h6
      split at h6
      · rw [hblk.cell, Nat.zero_add]
        rw [show (Array.ofFn (n := rows.length) id)[j]! = ⟨j, hj'⟩ from by simp [getElem!_pos, hj']]
        simpa using h6
      · cases h6
     have hcmp : CmpLays1 Tryz.prog 86 #[] enc cf g 0 (Array.ofFn (n := rows.length) id).size w := fun m os dk _ x y => by
      have key : ∀ z : Fin rows.length, StrsR Any (sortWorld enc w g 0 m dk os) (enc z) (rows[z.val]'z.isLt) := fun z => by
       have h := StrsO.imp (henc z).2 (fun _ h _ => h) (fun b hb hlt => sort_block enc w g 0 m dk os hlt (fun e => k6 g rfl z.val (e ▸ hb))) (sort_size enc w g 0 m dk os)
       exact h.read.sub (fun _ _ => trivial)
      have hc := rowCompare_any (enc x) (enc y) _ _ (sortWorld enc w g 0 m dk os) (key x) (key y)
      refine hc.mono fun e w' ⟨h1, h2⟩ => ⟨by rw [h1, hcf], 0, #[], ?_⟩
      rw [h2, Sort.grow_empty]; rfl
     have eg : ∀ args w, (callFunc 86 args).run Tryz.prog w = .ok (.enter 86 args) w := enters_of Tryz.func86 (by kernel_rfl) (by rfl)
     have hmain := Tryz.slices_SortFunc enc hone cf hO 86 #[] g 0 cap (Array.ofFn (n := rows.length) id) w eg hcmp hH hblk.lt (by rw [hd]; exact hl)
     rw [hd] at hmain
     refine hmain.mono fun e' w' ⟨he, d', m, os, hp, hs, hw⟩ => ⟨he, ?_, ?_⟩
     · have hsz : d'.size = rows.length := by rw [hp.1, hd]
       have hperm : d'.toList.Perm (List.finRange rows.length) := by
        have h := hp.2.2
        rw [show d'.extract 0 rows.length = d' from by
         have : d'.extract 0 d'.size = d' := by simp
         rwa [hsz] at this, show (Array.ofFn (n := rows.length) id).extract 0 rows.length = Array.ofFn (n := rows.length) id from by
         have : (Array.ofFn (n := rows.length) id).extract 0 (Array.ofFn (n := rows.length) id).size = Array.ofFn (n := rows.length) id := by simp
         rwa [hd] at this] at h
        rw [Array.toList_ofFn] at h
        exact h
       have hnd : d'.toList.Nodup := hperm.nodup_iff.2 (List.nodup_finRange _)
       have hH2 : Sort.Holds enc w' g 0 d' := by
        rw [hw]
        unfold sortWorld
        exact Sort.holds_grow _ _ _ _ _ _ (by rw [Sort.size_putRow]; exact hblk.lt) (Sort.holds_putRow _ _ _ _ _ _ (Sort.holds_ahead _ _ _ _ _ _ hH) (by rw [hsz, hd]))
       have hin : Inside (fun b => b = g) w w' := by rw [hw]; exact sort_inside _ _ _ _ _ _ _
       refine ⟨d'.toList.map fun i => rows[i.val]'i.isLt, ?_, ?_, ?_⟩
       · have h := hperm.map (fun i : Fin rows.length => rows[i.val]'i.isLt)
         have e : (List.finRange rows.length).map (fun i : Fin rows.length => rows[i.val]'i.isLt) = rows := by
          apply List.ext_getElem?
          intro i
          by_cases hi : i < rows.length
          · simp [hi]
          · rw [List.getElem?_eq_none (by simp; omega), List.getElem?_eq_none (by omega)]
         rwa [e] at h
       · rw [List.pairwise_map, List.pairwise_iff_getElem]
         intro i j hi hj hij
         have hi' : i < d'.size := by simpa using hi
         have hj' : j < d'.size := by simpa using hj
         have h := hs i j (Nat.zero_le _) hij (by omega)
         rw [getElem!_pos d' j hj', getElem!_pos d' i hi'] at h
         have h := of_decide_eq_false h
         rw [hcf] at h
         have n1 := cmpR_total.neg (rows[(d'[j]).val]'(d'[j]).isLt) (rows[(d'[i]).val]'(d'[i]).isLt)
         simp only [Array.getElem_toList] at h n1 ⊢
         omega
       · have hlen : (d'.toList.map fun i => rows[i.val]'i.isLt).length = rows.length := by simp [hsz]
         refine ⟨some ⟨g, 0, none⟩, cap, by rw [hlen], by rw [hlen]; exact h2, h3, fun _ => ⟨g, 0, fun k b => ∃ i : Fin rows.length, d'.toList[k]? = some i ∧ F i.val b, rfl, Nat.lt_of_lt_of_le hblk.lt hin.size, .inr hb, fun j hj => ?_, ?_, ?_, ?_⟩⟩
         · rw [hlen] at hj
           have hj : j < d'.size := by rw [hsz]; have h1 : j < rows.length * 1 := hj; omega
           exact (hH2 j hj).2
         · rintro k b ⟨i, hi, hF⟩
           obtain ⟨f1, f2⟩ := k4 _ _ hF
           exact ⟨.inl f1, fun e => k6 g rfl i.val (e ▸ hF), Nat.lt_of_lt_of_le f2 hin.size⟩
         · rintro a b n ⟨i, hi, hF⟩ ⟨j, hj, hF'⟩
           have hij : i = j := Fin.ext (k5 _ _ _ hF hF')
           subst hij
           obtain ⟨a1, a2⟩ := List.getElem?_eq_some_iff.1 hi
           obtain ⟨b1, b2⟩ := List.getElem?_eq_some_iff.1 hj
           exact (List.getElem_inj hnd).1 (a2.trans b2.symm)
         · intro k x hx
           rw [List.getElem?_map] at hx
           obtain ⟨i, hi, rfl⟩ := Option.map_eq_some_iff.1 hx
           obtain ⟨a1, a2⟩ := List.getElem?_eq_some_iff.1 hi
           have hk : k < d'.size := by simpa using a1
           refine ⟨[enc i], rfl, fun j u hu => ?_, enc i, rfl, ?_⟩
           · match j, hu with
             | 0, hu =>
               simp only [List.getElem?_cons_zero, Option.some.injEq] at hu
               subst hu
               show w'.cell? ⟨g, 0 + (k * 1 + 0), none⟩ = _
               have h := (hH2 k hk).1
               rw [getElem!_pos d' k hk] at h
               rw [show 0 + (k * 1 + 0) = 0 + k by omega, h]
               simp only [Array.getElem_toList] at a2
               rw [a2]
           · exact StrsO.imp (henc i).2 (fun b hb _ => ⟨i, hi, hb⟩) (fun b hb hlt => hin.block b hlt (fun e => k6 g rfl i.val (e ▸ hb))) hin.size
     · rw [hw]
       exact (sort_inside enc w g 0 m d' os).sub (fun b hb _ => by
        have hb2 : b = g := hb
        omega)

end Go.Proofs.YtfjdijakgjhieaaGreat

namespace Go.Proofs.YtfjdijakgjhieaaGreat
set_option linter.unusedSimpArgs false
set_option linter.unusedVariables false
open Go.RowKit

theorem tight_ask (nm : ByteArray) (ps : List GP) : tightB (ruleN nm ps) = bodyTight ps := by
 have h0 : varsOf (ruleN nm ps).head = varsN ps := by
  unfold varsOf ruleN
  induction varsN ps with
  | nil => rfl
  | cons x l ih => simpa [varT] using ih
 unfold tightB ruleAtoms
 rw [List.all_cons, h0, Bool.eq_iff_iff]
 simp only [Bool.and_eq_true, List.all_eq_true, List.mem_map, bodyTight]
 constructor
 · rintro ⟨_, h⟩ p hp x hx
   exact h _ ⟨p, hp, rfl⟩ x hx
 · intro h
   refine ⟨fun x hx => ?_, ?_⟩
   · obtain ⟨p, hp, hx2⟩ := varsN_mem.1 hx
     exact h p hp x hx2
   · rintro _ ⟨p, hp, rfl⟩ x hx
     exact h p hp x hx
theorem askOk_false {ps : List GP} {k : Nat} {p : GP} (h : ps[k]? = some p) (hp : atomOkB p.atom = false) : askOkB ps = false := by
 unfold askOkB
 rw [all_false (fun p => atomOkB p.atom) ps k p h hp]; simp

set_option maxRecDepth 100000 in
set_option maxHeartbeats 2000000 in
theorem specAskOk_any (ps : List GP) (u : Value) (w : World) {S : Nat → Prop} (hu : PartsR S w u ps) :
 Calls Tryz.prog 29 #[u] w fun e w' => e = .returned (.bool (askOkB ps)) ∧ Ext w w' := by
 obtain ⟨B, d, rfl, hd1, hd2⟩ := SliceR.form hu
 have HU := Lib.hid hu
 clear hu
 go_enter Tryz.func29, Tryz.ntmps29
 go_wp2
 go_loopw [3] (fun i wr => ∃ k : Nat, k ≤ ps.length ∧ i = .int .i64 k ∧ Hid ((ps.take k).all (fun p => atomOkB p.atom) = true) ∧ Ext w wr) (fun i _ => ps.length - (intOf i).toNat)
 case atStart => exact ⟨0, Nat.zero_le _, rfl, Lib.hid rfl, Ext.refl _⟩
 case round =>
  obtain ⟨k, hk, rfl, hall, hx⟩ := hrel
  have hk0 : (0 : Int) ≤ (k : Int) := by omega
  by_cases hlt : k < ps.length
  · have hk1 : (k : Int) < (ps.length : Int) := by omega
    obtain ⟨bp, op, p, vp, rfl, hbp, hpk, hpn, hpt, hp0, hp1, hp2⟩ := PartsR.at_ HU.out hlt
    obtain ⟨G, cg, rfl, hcg1, hcg2⟩ := SliceR.form hpt
    have r1 := (hx.cells.1 bp (op + k * 3 + 1) hbp).trans hp1
    have r2 := (hx.cells.1 bp (op + k * 3 + 2) hbp).trans hp2
    have HPT := Lib.hid (hpt.ext hx)
    have HPN := Lib.hid hpn
    have HPK := Lib.hid hpk
    have hway := bool_ways (specAtomOk_any p.atom _ wr hpn HPT.out)
    clear hp0 hp1 hp2 hpt hpn hpk
    cases hok : atomOkB p.atom
    · have HW := Lib.hid (hway.2 hok)
      have HF := Lib.hid (askOk_false HPK.out hok)
      clear hok hway
      go_wp2_with (go_at_call 13; refine HW.out.mono ?_; rintro e w1 ⟨rfl, hx1⟩)
      go_ret
      exact ⟨by rw [HF.out]; rfl, hx.trans' hx1⟩
    · have HW := Lib.hid (hway.1 hok)
      have HA := Lib.hid (show (ps.take (k + 1)).all (fun p => atomOkB p.atom) = true from by rw [all_snoc _ _ k p HPK.out, hall.out, hok]; rfl)
      clear hok hway
      go_wp2_with (go_at_call 13; refine HW.out.mono ?_; rintro e w1 ⟨rfl, hx1⟩)
      go_roundw
      case rel => exact ⟨k + 1, by omega, by go_num, HA, hx.trans' hx1⟩
      case measure => simp [intOf]; omega
  · have HAL := Lib.hid (show ∀ p ∈ ps, atomOkB p.atom = true from by
      have h := hall.out
      rw [List.take_of_length_le (by omega)] at h
      exact List.all_eq_true.1 h)
    by_cases hin : 1 ≤ ps.length ∧ ps.length ≤ 4
    · have hi1 : inB (ps.length : Int) 1 4 = true := inB_yes (by omega) (by omega)
      have HI := Lib.hid (show Calls Tryz.prog 66 #[.int .i64 ps.length, .int .i64 1, .int .i64 4] wr fun e w' => e = .returned (.bool true) ∧ w' = wr from by rw [← hi1]; exact l1In_any _ _ _ _)
      have HPS := Lib.hid (show ∀ p ∈ ps, p.atom.args.length ≤ 3 from fun p hp => atomOk_few (HAL.out p hp))
      have HF := Lib.hid (show askOkB ps = bodyTight ps from by
       unfold askOkB
       rw [decide_eq_true hin, List.all_eq_true.2 HAL.out]; rfl)
      have HVF := Lib.hid (show ((varsN ps).map varT).length ≤ 12 from by rw [List.length_map]; exact varsN_few HPS.out hin.2)
      have hpl := hin.2
      clear hi1 hin
      go_wp2_with (first
       | (go_at_call 66; refine HI.out.mono ?_; rintro e w1 ⟨rfl, rfl⟩)
       | (go_at_call 68; refine (l5Rule_any _ ps _ _ (HU.out.ext hx) (fun p hp => Nat.le_trans (HPS.out p hp) (by omega)) hpl).mono ?_; rintro e w2 ⟨⟨v2, rfl, hv2⟩, hx2⟩; have HX2 := Lib.hid hx2; have HV2 := Lib.hid hv2; clear hv2)
       | (go_at_call 67; refine (l2Tight_gen (ruleN _ ps) _ _ _ (by show (1 : Nat) ≤ maxLen; unfold maxLen; omega) HV2.out (HU.out.ext (hx.trans' HX2.out)) ⟨HVF.out, hpl, HPS.out⟩).mono ?_; rintro e w3 ⟨rfl, hx3⟩; have HX3 := Lib.hid hx3))
      go_ret
      exact ⟨by rw [HF.out, tight_ask]; rfl, (hx.trans' HX2.out).trans' HX3.out⟩
    · have hi1 : inB (ps.length : Int) 1 4 = false := by
        rcases Nat.lt_or_ge ps.length 1 with h | h
        · exact inB_low (by omega)
        · exact inB_high (by omega)
      have HI := Lib.hid (show Calls Tryz.prog 66 #[.int .i64 ps.length, .int .i64 1, .int .i64 4] wr fun e w' => e = .returned (.bool false) ∧ w' = wr from by rw [← hi1]; exact l1In_any _ _ _ _)
      have HF := Lib.hid (show askOkB ps = false from by unfold askOkB; rw [decide_eq_false hin]; rfl)
      clear hi1 hin
      go_wp2_with (go_at_call 66; refine HI.out.mono ?_; rintro e w1 ⟨rfl, rfl⟩)
      go_ret
      exact ⟨by rw [HF.out]; rfl, hx⟩

theorem cmp5_drop {a b : List ByteArray} {k : Nat} {x y : ByteArray} (ha : a[k]? = some x) (hb : b[k]? = some y) : cmp5 (a.drop k) (b.drop k) = if cmpS x y = 0 then cmp5 (a.drop (k + 1)) (b.drop (k + 1)) else cmpS x y := by
 rw [drop_cons ha, drop_cons hb]; rfl
theorem cmp5_end {a b : List ByteArray} {k : Nat} (h : a.length ≤ k ∨ b.length ≤ k) : cmp5 (a.drop k) (b.drop k) = 0 := by
 rcases h with h | h
 · rw [List.drop_eq_nil_of_le h]; rfl
 · rw [List.drop_eq_nil_of_le h]; cases a.drop k <;> rfl

set_option maxRecDepth 100000 in
set_option maxHeartbeats 2000000 in
theorem l5Cmp_any (a b : List ByteArray) (v u : Value) (w : World) {S T : Nat → Prop} (hv : StrsR S w v a) (hu : StrsR T w u b) :
 Calls Tryz.prog 121 #[v, u] w fun e w' => e = .returned (.int .i64 (cmp5 a b)) ∧ Ext w w' := by
 obtain ⟨A, c, rfl, hc1, hc2⟩ := SliceR.form hv
 obtain ⟨B, d, rfl, hd1, hd2⟩ := SliceR.form hu
 have HV := Lib.hid hv
 have HU := Lib.hid hu
 clear hv hu
 go_enter Tryz.func121, Tryz.ntmps121
 go_wp2
 go_loopw [5] (fun i wr => ∃ k : Nat, k ≤ a.length ∧ k ≤ b.length ∧ i = .int .i64 k ∧ Hid (cmp5 a b = cmp5 (a.drop k) (b.drop k)) ∧ Ext w wr) (fun i _ => a.length - (intOf i).toNat)
 case atStart => exact ⟨0, Nat.zero_le _, Nat.zero_le _, rfl, Lib.hid rfl, Ext.refl _⟩
 case round =>
  obtain ⟨k, hka, hkb, rfl, hz, hx⟩ := hrel
  have hk0 : (0 : Int) ≤ (k : Int) := by omega
  by_cases ha : k < a.length
  · have ha1 : (k : Int) < (a.length : Int) := by omega
    by_cases hb : k < b.length
    · have hb1 : (k : Int) < (b.length : Int) := by omega
      obtain ⟨ba, oa, x, rfl, hba, hxk, hxs, hx0⟩ := StrsR.at_ (HV.out.ext hx) ha
      obtain ⟨bb, ob, y, rfl, hbb, hyk, hys, hy0⟩ := StrsR.at_ (HU.out.ext hx) hb
      have HST := Lib.hid (hz.out.trans (cmp5_drop hxk hyk))
      obtain ⟨z, hze⟩ : ∃ z, z = cmpS x y := ⟨_, rfl⟩
      have HC := Lib.hid (fun (W : World) => show Calls Tryz.prog 109 #[.string x, .string y] W fun e w' => e = .returned (.int .i64 z) ∧ w' = W from by rw [hze]; exact l1Texts_any x y W)
      rw [← hze] at HST
      clear hxk hyk hze
      by_cases hq : z = 0
      · subst hq
        have HS2 := Lib.hid (show cmp5 a b = cmp5 (a.drop (k + 1)) (b.drop (k + 1)) from by rw [HST.out, if_pos rfl])
        go_wp2_with fail
        refine calm_region (by kernel_rfl) (by kernel_rfl) ?_
        repeat (go_big_quiet_step ((go_at_call 109; exact calm_same (HC.out _))))
        refine wpQuiet_nil ?_
        rintro w1 ⟨⟨_, hx1⟩, rfl⟩
        go_wp2
        go_roundw
        case rel => exact ⟨k + 1, by omega, by omega, by go_num, HS2, hx.trans' hx1⟩
        case measure => simp [intOf]; omega
      · have HS2 := Lib.hid (show cmp5 a b = z from by rw [HST.out, if_neg hq])
        have hq0 : ((z : Int) == 0) = false := by simp [hq]
        have hq1 : ((z : Int) != 0) = true := by simp [hq]
        clear hq
        go_wp2_with fail
        refine calm_region (by kernel_rfl) (by kernel_rfl) ?_
        repeat (go_big_quiet_step ((go_at_call 109; exact calm_same (HC.out _))))
        refine wpQuiet_nil ?_
        rintro w1 ⟨⟨_, hx1⟩, rfl⟩
        go_wp2
        go_ret
        exact ⟨by rw [HS2.out]; rfl, hx.trans' hx1⟩
    · have HZ := Lib.hid (hz.out.trans (cmp5_end (.inr (by omega))))
      go_wp2
      go_ret
      exact ⟨by rw [HZ.out]; rfl, hx⟩
  · have HZ := Lib.hid (hz.out.trans (cmp5_end (.inl (by omega))))
    go_wp2
    go_ret
    exact ⟨by rw [HZ.out]; rfl, hx⟩

theorem row_info : (Tryz.prog.info? 56).map (fun i => (i.zero, i.size, i.bytes)) = some (some (.slice none 0 0), 1, 24) := by kernel_rfl

set_option maxRecDepth 100000 in
set_option maxHeartbeats 4000000 in
theorem l5Put_any (rows : List (List ByteArray)) (row : List ByteArray) (v u : Value) (w : World) {S T : Nat → Prop} (hv : RowsR S w v rows) (hu : StrsR T w u row) (hn : rows.length ≤ 1000000000000) :
 Calls Tryz.prog 90 #[v, u] w fun e w' => (∃ v', e = .returned v' ∧ RowsR Any w' v' (insC cmp5 rows row)) ∧ Ext w w' := by
 obtain ⟨A, c, rfl, hc1, hc2⟩ := SliceR.form hv
 obtain ⟨B, d, rfl, hd1, hd2⟩ := SliceR.form hu
 obtain ⟨i0, hi0, hz0, hz1, hz2⟩ := info_parts row_info
 have HV := Lib.hid hv
 have HU := Lib.hid hu
 clear hv hu
 go_enter Tryz.func90, Tryz.ntmps90
 go_wp2
 go_loopw [5] (fun i wr => ∃ k : Nat, k ≤ rows.length ∧ i = .int .i64 k ∧ Hid (∀ i x, i < k → rows[i]? = some x → cmp5 x row < 0) ∧ Ext w wr) (fun i _ => rows.length - (intOf i).toNat)
 case atStart => exact ⟨0, Nat.zero_le _, rfl, Lib.hid (fun i x h => absurd h (Nat.not_lt_zero _)), Ext.refl _⟩
 case round =>
  obtain ⟨k, hk, rfl, hlow, hx⟩ := hrel
  have hk0 : (0 : Int) ≤ (k : Int) := by omega
  have hk1 : (k : Int) ≤ (c : Int) := by omega
  have hk2 : (k : Int) ≤ (rows.length : Int) := by omega
  have hend : ∀ hw : whileC cmp5 rows row = k, isC cmp5 rows row = false → insC cmp5 rows row = rows.take k ++ [row] ++ rows.drop k := fun hw hne => by rw [insC_eq, hw, hne]; rfl
  by_cases hlt : k < rows.length
  · have hk3 : (k : Int) < (rows.length : Int) := by omega
    obtain ⟨b, off, x, vx, rfl, hb, hxk, hxs, p0⟩ := RowsR.at_ (HV.out.ext hx) hlt
    obtain ⟨X, cx, rfl, hcx1, hcx2⟩ := SliceR.form hxs
    obtain ⟨z, hze⟩ : ∃ z, z = cmp5 x row := ⟨_, rfl⟩
    have HC := Lib.hid (fun (W : World) (hW : Ext wr W) => show Calls Tryz.prog 121 #[.slice X x.length cx, .slice B row.length d] W fun e w' => e = .returned (.int .i64 z) ∧ Ext W w' from by rw [hze]; exact l5Cmp_any x row _ _ W (hxs.ext hW) (HU.out.ext (hx.trans' hW)))
    by_cases hq : z < 0
    · have HL := Lib.hid (show ∀ i y, i < k + 1 → rows[i]? = some y → cmp5 y row < 0 from fun i y hi hy => by
        rcases Nat.lt_or_ge i k with h | h
        · exact hlow.out i y h hy
        · rw [show i = k from by omega, hxk] at hy; injection hy with hy; subst hy; rw [← hze]; exact hq)
      clear hend hxk hlow hze hxs
      go_wp2_with (go_at_call 121; refine (HC.out _ (Ext.refl _)).mono ?_; rintro e w1 ⟨rfl, hx1⟩)
      go_roundw
      case rel => exact ⟨k + 1, by omega, by go_num, HL, hx.trans' hx1⟩
      case measure => simp [intOf]; omega
    · have hw : whileC cmp5 rows row = k := whileC_is hk hlow.out (fun y hy => by rw [hxk] at hy; injection hy with hy; subst hy; rw [← hze]; exact hq)
      by_cases he : z = 0
      · subst he
        have HP := Lib.hid (show insC cmp5 rows row = rows from by rw [insC_eq, show isC cmp5 rows row = true from by unfold isC; rw [hw, hxk]; simp [← hze]]; rfl)
        clear hw hend hxk hlow hze hxs hq
        go_wp2_with (go_at_call 121; refine (HC.out _ (by first | exact Ext.refl _ | exact HX.out)).mono ?_; rintro e w9 ⟨rfl, hx9⟩; have HX := Lib.hid (show Ext wr w9 from by first | exact HX.out.trans' hx9 | exact hx9); have p9 := (HX.out.cells.1 b (off + k) hb).trans p0; have hb9 := Nat.lt_of_lt_of_le hb HX.out.size)
        go_ret
        exact ⟨⟨_, rfl, by rw [HP.out]; exact RowsR.sub (HV.out.ext (hx.trans' HX.out)) (fun _ _ => trivial)⟩, hx.trans' HX.out⟩
      · have HP := Lib.hid (hend hw (by unfold isC; rw [hw, hxk]; simp [← hze, he]))
        have hq0 : ((z : Int) == 0) = false := by simp [he]
        have hqz : ¬ z < 0 := hq
        clear hw hend hxk hlow hze hxs hq he
        go_wp2_with (go_at_call 121; refine (HC.out _ (by first | exact Ext.refl _ | exact HX.out)).mono ?_; rintro e w9 ⟨rfl, hx9⟩; have HX := Lib.hid (show Ext wr w9 from by first | exact HX.out.trans' hx9 | exact hx9); have p9 := (HX.out.cells.1 b (off + k) hb).trans p0; have hb9 := Nat.lt_of_lt_of_le hb HX.out.size)
        clear p0 hb p9 hb9 hx9
        try clear p9 hb9 hx9
        generalize (some (⟨b, off, none⟩ : Addr)) = A at HV ⊢
        have HE1 := Lib.hid (show ∀ W, Ext w9 W → ElemsK kRow (fun b => b < w9.heap.size) W (.slice A k c) (rows.take k) from fun W hW =>
         ElemsK.ext ((ListK.elems (k := kRow) (SliceR.fst (HV.out.ext (hx.trans' HX.out)) k hk)).sub (fun b hb hlt => hlt)) hW)
        have HE2 := Lib.hid (show ∀ W, Ext w9 W → kRow.E (fun b => b < w9.heap.size) W [.slice B row.length d] row from fun W hW => ⟨_, rfl, StrsR.impL (HU.out.ext (hx.trans' HX.out)) (fun b hb hlt => hlt) (.of_ext hW) hW.size⟩)
        have HE3 := Lib.hid (show ∀ W, Ext w9 W → ElemsK kRow (fun b => b < w9.heap.size) W (.slice (if c = k then A else A.map (·.add k)) (rows.length - k) (c - k)) (rows.drop k) from fun W hW =>
         ElemsK.ext ((ListK.elems (k := kRow) (by have h := SliceR.drop (HV.out.ext (hx.trans' HX.out)) k hk; simp only [Nat.mul_one] at h; exact h)).sub (fun b hb hlt => hlt)) hW)
        have hlk : (rows.take k).length = k := by rw [List.length_take]; omega
        go_region_held3 (fun _ => True) (exact trivial)
         (first
          | (refine step_appL (o := ⟨some 39, _, _, _, _, _⟩) (k := kRow) (S := fun b => b < w9.heap.size) (T := fun b => b < w9.heap.size) (base := w9.heap.size) (v := .slice (some ⟨_, 0, none⟩) 0 0) (xs := []) (ys := rows.take k) (by rfl) (.tmp 35) (.tmp 38) 34 (by rfl) i0 _ 24 Tryz.underlying34 hi0 hz0 hz1 hz2 (by rfl) (by rfl)
              (by first | exact OwnK.drew (OwnK.empty rfl (Nat.le_refl _)) | exact OwnK.drew (OwnK.alloc (OwnK.empty rfl (Nat.le_refl _)) _) | exact OwnK.drew (OwnK.empty (w := w9.alloc _) (by simp) (by simp))) A k c (by rfl) (HE1.out _ (by first | exact Ext.drew (Ext.alloc (Ext.refl _) _) | exact Ext.drew (Ext.alloc (Ext.alloc (Ext.refl _) _) _))) (fun b hb => ⟨hb, hb⟩) (by unfold maxLen; simp; omega) (by simp; omega) (by go_size) ?_
             intro v1 w2 hap1; obtain ⟨A1, n1, c1, rfl, hn1, hd11, hd12⟩ := hap1.own.form2; have HX2 := Lib.hid (hap1.toExt (w0 := w9) (by first | exact Ext.drew (Ext.alloc (Ext.refl _) _) | exact Ext.drew (Ext.alloc (Ext.alloc (Ext.refl _) _) _)) (Nat.le_refl _)); have HA1 := Lib.hid hap1; clear hap1)
          | (refine step_appL (o := ⟨some 42, _, _, _, _, _⟩) (k := kRow) (S := fun b => b < w9.heap.size) (T := fun b => b < w9.heap.size) (base := w9.heap.size) (xs := [] ++ rows.take k) (ys := [row]) (by rfl) (.tmp 39) (.tmp 41) 34 (by rfl) i0 _ 24 Tryz.underlying34 hi0 hz0 hz1 hz2 (by rfl) (by rfl)
              (by first | exact HA1.out.own | exact OwnK.alloc HA1.out.own _) _ 1 1 (by rfl) (ElemsK.one (k := kRow) (x := row) (by first | exact Blk.at_new rfl | exact HA1.out.blk2 (Blk.drew (Blk.at_new (w := w9.alloc _) (by simp))) (by simp [Value.ownBlock]) | exact HA1.out.blk2 (Blk.drew (Blk.alloc (Blk.at_new rfl) _)) (by simp [Value.ownBlock])) (HE2.out _ (by first | exact HX2.out | exact Ext.alloc HX2.out _))) (fun b hb => ⟨hb, hb⟩) (by unfold maxLen; simp; omega) (by simp; omega) (by have := HX2.out.size; go_size) ?_
             intro v2 w3 hap2; obtain ⟨A2, n2, c2, rfl, hn2, hd21, hd22⟩ := hap2.own.form2; have HX3 := Lib.hid (hap2.toExt (w0 := w9) (by first | exact HX2.out | exact Ext.alloc HX2.out _) (Nat.le_refl _)); have HA2 := Lib.hid hap2; clear hap2)
          | (refine step_appL (o := ⟨some 46, _, _, _, _, _⟩) (k := kRow) (S := fun b => b < w9.heap.size) (T := fun b => b < w9.heap.size) (base := w9.heap.size) (xs := ([] ++ rows.take k) ++ [row]) (ys := rows.drop k) (by rfl) (.tmp 42) (.tmp 45) 34 (by rfl) i0 _ 24 Tryz.underlying34 hi0 hz0 hz1 hz2 (by rfl) (by rfl)
              (by exact HA2.out.own) _ _ _ (by rfl) (HE3.out _ HX3.out) (fun b hb => ⟨hb, hb⟩) (by unfold maxLen; simp; omega) (by simp; omega) (by have := HX3.out.size; go_size) ?_
             intro v3 w4 hap3; obtain ⟨A3, n3, c3, rfl, hn3, hd31, hd32⟩ := hap3.own.form2; have HX4 := Lib.hid (hap3.toExt (w0 := w9) HX3.out (Nat.le_refl _)); have HA3 := Lib.hid hap3; clear hap3))
        all_goals go_wp2
        all_goals
         go_ret
         refine ⟨⟨_, rfl, ?_⟩, (hx.trans' HX.out).trans' HX4.out⟩
         rw [HP.out]
         have h := HA3.out.own.list (S' := Any) (fun b hb => trivial) (fun b hb => trivial)
         simp only [List.nil_append] at h
         exact h
  · have hw : whileC cmp5 rows row = k := whileC_is hk hlow.out (fun y hy => by rw [List.getElem?_eq_none (by omega)] at hy; cases hy)
    have HP := Lib.hid (hend hw (by unfold isC; rw [hw, List.getElem?_eq_none (by omega)]))
    have HX := Lib.hid (Ext.refl wr)
    clear hw hend hlow
    rename World => w9
    go_wp2
    have HE1 := Lib.hid (show ∀ W, Ext w9 W → ElemsK kRow (fun b => b < w9.heap.size) W (.slice A k c) (rows.take k) from fun W hW =>
     ElemsK.ext ((ListK.elems (k := kRow) (SliceR.fst (HV.out.ext (hx.trans' HX.out)) k hk)).sub (fun b hb hlt => hlt)) hW)
    have HE2 := Lib.hid (show ∀ W, Ext w9 W → kRow.E (fun b => b < w9.heap.size) W [.slice B row.length d] row from fun W hW => ⟨_, rfl, StrsR.impL (HU.out.ext (hx.trans' HX.out)) (fun b hb hlt => hlt) (.of_ext hW) hW.size⟩)
    have HE3 := Lib.hid (show ∀ W, Ext w9 W → ElemsK kRow (fun b => b < w9.heap.size) W (.slice (if c = k then A else A.map (·.add k)) (rows.length - k) (c - k)) (rows.drop k) from fun W hW =>
     ElemsK.ext ((ListK.elems (k := kRow) (by have h := SliceR.drop (HV.out.ext (hx.trans' HX.out)) k hk; simp only [Nat.mul_one] at h; exact h)).sub (fun b hb hlt => hlt)) hW)
    have hlk : (rows.take k).length = k := by rw [List.length_take]; omega
    go_region_held3 (fun _ => True) (exact trivial)
     (first
      | (refine step_appL (o := ⟨some 39, _, _, _, _, _⟩) (k := kRow) (S := fun b => b < w9.heap.size) (T := fun b => b < w9.heap.size) (base := w9.heap.size) (v := .slice (some ⟨_, 0, none⟩) 0 0) (xs := []) (ys := rows.take k) (by rfl) (.tmp 35) (.tmp 38) 34 (by rfl) i0 _ 24 Tryz.underlying34 hi0 hz0 hz1 hz2 (by rfl) (by rfl)
          (by first | exact OwnK.drew (OwnK.empty rfl (Nat.le_refl _)) | exact OwnK.drew (OwnK.alloc (OwnK.empty rfl (Nat.le_refl _)) _) | exact OwnK.drew (OwnK.empty (w := w9.alloc _) (by simp) (by simp))) A k c (by rfl) (HE1.out _ (by first | exact Ext.drew (Ext.alloc (Ext.refl _) _) | exact Ext.drew (Ext.alloc (Ext.alloc (Ext.refl _) _) _))) (fun b hb => ⟨hb, hb⟩) (by unfold maxLen; simp; omega) (by simp; omega) (by go_size) ?_
         intro v1 w2 hap1; obtain ⟨A1, n1, c1, rfl, hn1, hd11, hd12⟩ := hap1.own.form2; have HX2 := Lib.hid (hap1.toExt (w0 := w9) (by first | exact Ext.drew (Ext.alloc (Ext.refl _) _) | exact Ext.drew (Ext.alloc (Ext.alloc (Ext.refl _) _) _)) (Nat.le_refl _)); have HA1 := Lib.hid hap1; clear hap1)
      | (refine step_appL (o := ⟨some 42, _, _, _, _, _⟩) (k := kRow) (S := fun b => b < w9.heap.size) (T := fun b => b < w9.heap.size) (base := w9.heap.size) (xs := [] ++ rows.take k) (ys := [row]) (by rfl) (.tmp 39) (.tmp 41) 34 (by rfl) i0 _ 24 Tryz.underlying34 hi0 hz0 hz1 hz2 (by rfl) (by rfl)
          (by first | exact HA1.out.own | exact OwnK.alloc HA1.out.own _) _ 1 1 (by rfl) (ElemsK.one (k := kRow) (x := row) (by first | exact Blk.at_new rfl | exact HA1.out.blk2 (Blk.drew (Blk.at_new (w := w9.alloc _) (by simp))) (by simp [Value.ownBlock]) | exact HA1.out.blk2 (Blk.drew (Blk.alloc (Blk.at_new rfl) _)) (by simp [Value.ownBlock])) (HE2.out _ (by first | exact HX2.out | exact Ext.alloc HX2.out _))) (fun b hb => ⟨hb, hb⟩) (by unfold maxLen; simp; omega) (by simp; omega) (by have := HX2.out.size; go_size) ?_
         intro v2 w3 hap2; obtain ⟨A2, n2, c2, rfl, hn2, hd21, hd22⟩ := hap2.own.form2; have HX3 := Lib.hid (hap2.toExt (w0 := w9) (by first | exact HX2.out | exact Ext.alloc HX2.out _) (Nat.le_refl _)); have HA2 := Lib.hid hap2; clear hap2)
      | (refine step_appL (o := ⟨some 46, _, _, _, _, _⟩) (k := kRow) (S := fun b => b < w9.heap.size) (T := fun b => b < w9.heap.size) (base := w9.heap.size) (xs := ([] ++ rows.take k) ++ [row]) (ys := rows.drop k) (by rfl) (.tmp 42) (.tmp 45) 34 (by rfl) i0 _ 24 Tryz.underlying34 hi0 hz0 hz1 hz2 (by rfl) (by rfl)
          (by exact HA2.out.own) _ _ _ (by rfl) (HE3.out _ HX3.out) (fun b hb => ⟨hb, hb⟩) (by unfold maxLen; simp; omega) (by simp; omega) (by have := HX3.out.size; go_size) ?_
         intro v3 w4 hap3; obtain ⟨A3, n3, c3, rfl, hn3, hd31, hd32⟩ := hap3.own.form2; have HX4 := Lib.hid (hap3.toExt (w0 := w9) HX3.out (Nat.le_refl _)); have HA3 := Lib.hid hap3; clear hap3))
    all_goals go_wp2
    all_goals
     go_ret
     refine ⟨⟨_, rfl, ?_⟩, (hx.trans' HX.out).trans' HX4.out⟩
     rw [HP.out]
     have h := HA3.out.own.list (S' := Any) (fun b hb => trivial) (fun b hb => trivial)
     simp only [List.nil_append] at h
     exact h

theorem insC_len {α : Type} (c : α → α → Int) : ∀ (l : List α) (s : α), (insC c l s).length ≤ l.length + 1 := fun l s => by
 rw [insC_eq]
 split
 · omega
 · simp only [List.length_append, List.length_take, List.length_drop, List.length_cons, List.length_nil]; omega
theorem fold_insC_len {α : Type} (c : α → α → Int) : ∀ (l out : List α), (l.foldl (insC c) out).length ≤ out.length + l.length
 | [], out => by simp
 | x :: l, out => by
   have h1 := fold_insC_len c l (insC c out x)
   have h2 := insC_len c out x
   rw [List.foldl_cons, List.length_cons]; omega
theorem insC_same {n : Nat} {s : List ByteArray} (hs : s.length = n) : ∀ {l : List (List ByteArray)}, (∀ x ∈ l, x.length = n) → insC cmp5 l s = insC cmpR l s
 | [], _ => rfl
 | x :: l, h => by
   simp only [insC]
   rw [cmp5_same ((h x List.mem_cons_self).trans hs.symm), insC_same hs (fun y hy => h y (List.mem_cons_of_mem _ hy))]
theorem fold_insC_same {n : Nat} : ∀ {vs out : List (List ByteArray)}, (∀ x ∈ vs, x.length = n) → (∀ x ∈ out, x.length = n) → vs.foldl (insC cmp5) out = vs.foldl (insC cmpR) out
 | [], _, _, _ => rfl
 | v :: vs, out, h, ho => by
   have hv := h v List.mem_cons_self
   rw [List.foldl_cons, List.foldl_cons, insC_same hv ho]
   exact fold_insC_same (fun x hx => h x (List.mem_cons_of_mem _ hx)) (fun x hx => by
    rcases (insC_mem cmpR_total).1 hx with h1 | h1
    · exact ho x h1
    · rw [h1]; exact hv)

end Go.Proofs.YtfjdijakgjhieaaGreat
