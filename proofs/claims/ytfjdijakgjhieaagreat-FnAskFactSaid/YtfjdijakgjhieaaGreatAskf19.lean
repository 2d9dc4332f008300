/- Texts of the proof: AskYS, ShelfC, SlCmp, Srt, EvZ, EvU, AskI. -/
import Derived.Test.YtfjdijakgjhieaaGreatAskf18
import Derived.Laws.CopyOwn
import Derived.Shelf.Strings.Builder1
import Derived.Shelf.Small.Bits
import Derived.Shelf.Small.Strs
import Derived.Shelf.Strings.BuilderF
import Derived.Shelf.Strings.BuilderK
import Derived.Shelf.Strconv.Itoa0
import Derived.Shelf.Sort.Plain
import Derived.Shelf.Strings.BuilderCap
import Derived.Shelf.Slices.CompactS
import Derived.Shelf.Slices.Cells
import Derived.Shelf.Slices.In.SortNone
import Derived.Ground.SlsfProg
import Derived.Shelf.SlSortCmp.Insertion
import Derived.Shelf.SlSortCmp.SiftDown1
import Derived.Shelf.SlSortCmp.HeapSort1
import Derived.Shelf.SlSortCmp.Insertion1
import Derived.Shelf.SlSortCmp.Median1
import Derived.Shelf.SlSortCmp.Pivot1
import Derived.Shelf.SlSortCmp.ReverseRange1
import Derived.Shelf.SlSortCmp.PartialInsertion1
import Derived.Shelf.SlSortCmp.PartitionEqual1
import Derived.Shelf.SlSortCmp.Partition1
import Derived.Shelf.SlSortCmp.Pdq1
import Derived.Shelf.SlSortCmp.Whole1
import Derived.Shelf.SlSortCmp.NoneTotal
import Derived.Test.YtfjdijakgjhieaaGreatProg
import Derived.Test.YtfjdijakgjhieaaGreatAskf07
import Derived.Test.YtfjdijakgjhieaaGreatAskf05
import Derived.Test.YtfjdijakgjhieaaGreatAskf10
import Derived.Test.YtfjdijakgjhieaaGreatAskf08
namespace Go.Proofs.YtfjdijakgjhieaaGreat
set_option linter.unusedSimpArgs false
set_option linter.unusedVariables false
open Go.RowKit

theorem strsO_new {g : Nat} {t : TypeId} {w : World} {xs : List ByteArray} (hb : Blk w g t (xs.map Value.string).toArray) (hs : ∀ x ∈ xs, x.size ≤ maxLen) (hm : xs.length ≤ maxLen) : StrsO (fun b => b = g) w (.slice (some ⟨g, 0, none⟩) xs.length xs.length) xs := by
  refine ⟨_, _, rfl, Nat.le_refl _, hm, fun _ => ⟨g, 0, fun _ _ => False, rfl, hb.lt, rfl, fun j _ => hb.frozen _, fun _ _ h => h.elim, fun _ _ _ h => h.elim, fun i x hx => ⟨[.string x], rfl, fun j u hu => ?_, rfl, hs x (List.mem_of_getElem? hx)⟩⟩⟩
  match j, hu with
  | 0, hu =>
    simp only [List.getElem?_cons_zero, Option.some.injEq] at hu
    subst hu
    show w.cell? ⟨g, 0 + (i * 1 + 0), none⟩ = _
    rw [hb.cell, show 0 + (i * 1 + 0) = i by omega]
    simp [hx]
theorem splice_all {α : Type} (L cs : List α) (h : L.length = cs.length) : splice L 0 cs = cs := by unfold splice; simp [← h]
theorem below_inside {B : Nat} {w w' : World} (h : Below B w w') : Inside (fun b => B ≤ b) w w' := ⟨h.os, h.tape, h.output, h.size, fun k hk hn => h.block k (by omega)⟩
/-- ask's out, and the rows in it. -/
def AskR (ob base : Nat) (rows : List (List ByteArray)) (w : World) : Prop := ∃ v, Blk w ob 34 #[v] ∧ OwnO kRowO base 56 (fun b => base ≤ b) w v rows ∧ base ≤ w.heap.size ∧ ob < base
theorem enters_ask1 : ∀ args w, (callFunc 84 args).run Tryz.prog w = .ok (.enter 84 args) w := enters_of Tryz.func84 (by kernel_rfl) (by rfl)

set_option maxRecDepth 100000 in
set_option maxHeartbeats 2000000 in
theorem ask1_yields (H : Hunt) {n ob base N : Nat} (hn : n ≤ 12) (hob : ob < H.sb) (hsb : H.sb < base) (hM : H.M = fun b => b = ob ∨ base ≤ b) (hN : N ≤ 2430000000000) (hG : H.G = Gok) :
    Yields H n 84 #[.pointer (some ⟨ob, 0, none⟩)] (AskR ob base) (fun st r => st ++ [r]) List.length N := by
  refine ⟨enters_ask1, fun st r => by simp, fun st Q w hs hr hGQ hrk => ?_, fun st w w' hr hi => ?_⟩
  · obtain ⟨v, r1, r2, r3, r4⟩ := hr
    obtain ⟨A, m, c, rfl, hm, hm1, hm2⟩ := r2.form2
    obtain ⟨i1, hi1⟩ : ∃ i, Tryz.prog.info? 9 = some i := ⟨_, by rfl⟩
    have hz1 : i1.zero = some (.string ⟨#[]⟩) := by have := hi1; revert this; intro h; cases h; rfl
    have hs1 : i1.size = 1 := by have := hi1; revert this; intro h; cases h; rfl
    have hb1 : i1.bytes = 16 := by have := hi1; revert this; intro h; cases h; rfl
    obtain ⟨i0, hi0⟩ : ∃ i, Tryz.prog.info? 56 = some i := ⟨_, by rfl⟩
    have hz0 : i0.zero = some (.slice none 0 0) := by have := hi0; revert this; intro h; cases h; rfl
    have hs0 : i0.size = 1 := by have := hi0; revert this; intro h; cases h; rfl
    have hb0 : i0.bytes = 24 := by have := hi0; revert this; intro h; cases h; rfl
    obtain ⟨cs0, hcs0, hmk⟩ := made 56 9 i1 _ Tryz.underlying56 hi1 hz1 n (by rw [hb1]; omega) (by omega)
    rw [hs1, Nat.mul_one] at hcs0
    have hwl : (rowW n Q.W).length = n := by simp [rowW]
    have hwat : ∀ j, j < n → w.cell? ⟨H.sb, 18 + j, none⟩ = some (.string (Q.W.at_ j)) := fun j hj => hs.sea.word (by omega)
    have hsm : ∀ x ∈ rowW n Q.W, x.size ≤ maxLen := fun x hx => by
      obtain ⟨j, _, rfl⟩ := List.mem_map.1 hx
      exact word_small hs.sea j
    obtain ⟨row, hrow⟩ : ∃ row, row = rowW n Q.W := ⟨_, rfl⟩
    have HWC := Lib.hid (show ∀ j u, (row.map Value.string)[j]? = some u → w.cell? ⟨H.sb, 18 + j, none⟩ = some u from fun j u hu => by
      rw [hrow] at hu
      have hj : j < n := by
        have := (List.getElem?_eq_some_iff.1 hu).1
        simp [rowW] at this; exact this
      rw [hwat j hj]
      simp [rowW, hj] at hu
      rw [hu])
    rw [← hrow] at hwl hsm
    have HSM := Lib.hid hsm
    have HWL := Lib.hid hwl
    have HCS := Lib.hid hcs0
    have HR1 := Lib.hid r1
    have HR2 := Lib.hid (show OwnO kRowO base 56 (fun b => base ≤ b ∧ b < w.heap.size) w (.slice A m c) st from r2.sub (fun b hb hlt => ⟨hb, hlt⟩))
    have HRW := Lib.hid hrow
    have HMM := Lib.hid hM
    have sl := hs.sea.lt
    have hol := r1.lt
    clear hs hGQ hwat hsm hrow r1 r2 hwl hcs0
    show Calls _ _ #[.slice (some ⟨H.sb, 18, none⟩) n 12, .pointer (some ⟨ob, 0, none⟩)] _ _
    go_enter Tryz.func84, Tryz.ntmps84
    go_wp2_with (first
      | ((with_reducible show wpList _ _ _ (⟨some 9, _, _, _, _, _⟩ :: _) _ _); go_loud (refine wpList_copy_splice rfl (.tmp 7) (.tmp 8) 56 56 rfl 9 Tryz.underlying56 (by rfl) (some ⟨w.heap.size, 0, none⟩) (some ⟨H.sb, 18, none⟩) n n n 12 rfl rfl w.heap.size 0 cs0.toList 9 (by rw [Array.toArray_toList]; exact Blk.new w 9 cs0) (row.map Value.string) (by simp [HWL.out]) (fun _ => ⟨rfl, _, rfl, fun j u hu => by rw [addr_add]; exact (((Ext.refl w).alloc _).cells.1 H.sb (18 + j) sl).trans (HWC.out j u hu)⟩) (by simp [HWL.out, HCS.out]) (fun v hv => by obtain ⟨x, _, rfl⟩ := List.mem_map.1 hv; rfl) w.heap.size w ((Ext.refl w).alloc _) (Nat.le_refl _) ?_)
         intro w2 HG2 hB2
         have HX2 := Lib.hid (show Ext w w2 from hB2)
         have o2 := (HR1.out.ext HX2.out).cell 0
         have f2 := (HR1.out.ext HX2.out).frozen 0
         have l2 := (HR1.out.ext HX2.out).lt
         have HE2 := Lib.hid (show StrsO (fun b => b = w.heap.size) w2 (.slice (some ⟨w.heap.size, 0, none⟩) n n) row from by
           have h1 := HG2.out
           rw [splice_all _ _ (by simp [HWL.out, HCS.out])] at h1
           have h2 := strsO_new (w := w2) (g := w.heap.size) (t := 9) (xs := row) h1 HSM.out (by rw [HWL.out]; unfold maxLen; omega)
           rwa [HWL.out] at h2)
         clear hB2 hmk)
      | (at_builtin; go_loud (refine wpList_appO (k := kRowO) (S := fun b => base ≤ b ∧ b < w.heap.size) (S' := fun b => base ≤ b) (T := fun b => b = w.heap.size) (base := base) (xs := st) rfl (.tmp 10) (.tmp 12) 34 (by rfl) i0 _ 24 Tryz.underlying34 hi0 hz0 hs0 hb0 (by rfl) (by rfl) (HR2.out.ext (HX2.out.alloc _)) _ (by rfl) [.slice (some ⟨w.heap.size, 0, none⟩) n n] row 56 ⟨_, rfl, StrsO.imp HE2.out (fun _ h _ => h) (.of_ext ((Ext.refl _).alloc _)) ((Ext.refl _).alloc _).size⟩ (Blk.new _ _ _) (fun b hb _ => by subst hb; exact r3) (fun b hb => hb.1) (fun b hb h => by omega) (fun g hg hb => by have := (HR2.out.at_ g hg).2; omega) (Nat.le_trans (show st.length + 1 ≤ 2430000000001 from by omega) (by decide)) (by omega) (Nat.le_trans r3 (HX2.out.alloc _).size) ?_)
         intro v3 w3 hap
         obtain ⟨A3, n3, c3, rfl, hn3, h31, h32⟩ := hap.own.form2
         have o3 := (hap.blk ((HR1.out.ext (HX2.out.alloc _))) r4).cell 0
         have f3 := (hap.blk ((HR1.out.ext (HX2.out.alloc _))) r4).frozen 0
         have l3 := (hap.blk ((HR1.out.ext (HX2.out.alloc _))) r4).lt
         have HAP := Lib.hid hap
         clear hap))
    go_end0
    refine ⟨rfl, ⟨.slice A3 n3 c3, ?_, ?_, ?_, r4⟩, ?_⟩
    · have h := (HAP.out.blk ((HR1.out.ext (HX2.out.alloc _))) r4).set_ 0 (.slice A3 n3 c3)
      simpa using h
    · have h := HAP.out.own
      rw [HRW.out] at h
      exact h.agree (((Agree.refl _ _).setCell (fun (hb : base ≤ ob) => by omega) _)) (fun g hg => Below.heap_setCell _ _ _ _ (by have := (h.at_ g hg).1; show g ≠ ob; omega)) (by simp [World.setCell])
    · have h1 := HAP.out.below.size
      have h2 := (HX2.out.alloc (.cells #[.slice (some ⟨w.heap.size, 0, none⟩) n n] 56)).size
      exact Nat.le_trans r3 (Nat.le_trans h2 (Nat.le_trans h1 (by simp [World.setCell])))
    · rw [HMM.out]
      exact ((Inside.of_ext (HX2.out.alloc _)).trans' ((below_inside HAP.out.below).sub (fun _ h _ => .inr h))).trans' (Inside.set _ ⟨ob, 0, none⟩ _ (.inl rfl))
  · obtain ⟨v, r1, r2, r3, r4⟩ := hr
    have hob2 : ¬ (ob = H.sb) := by omega
    refine ⟨v, hi.blk r1 hob2, ?_, Nat.le_trans r3 hi.size, r4⟩
    exact r2.agree (fun b hb hlt => hi.block b hlt (fun e => by omega)) (fun g hg => hi.block g (r2.at_ g hg).2 (fun e => by have := (r2.at_ g hg).1; omega)) hi.size

end Go.Proofs.YtfjdijakgjhieaaGreat

namespace Go.Proofs
open Go.Shelf
def Tryz.laysSlF6_f85_ren : Go.Shelf.Ren := ⟨fun | 6 => 85 | 15 => 116 | 14 => 115 | 28 => 157 | 29 => 158 | 20 => 149 | 21 => 150 | 22 => 151 | 23 => 152 | 24 => 153 | 25 => 154 | 26 => 155 | 27 => 156 | 46 => 185 | 47 => 186 | 48 => 187 | 49 => 188 | 50 => 189 | 57 => 204 | n => n, fun | 22 => 34 | 24 => 56 | 25 => 107 | 3 => 3 | 39 => 155 | 0 => 0 | 53 => 201 | 55 => 203 | 4 => 4 | 46 => 195 | 45 => 194 | 50 => 101 | 5 => 5 | 9 => 9 | 66 => 226 | 70 => 230 | 76 => 246 | 77 => 247 | n => n, fun | n => n⟩
theorem Tryz.laysSlF6_f85 : Go.Proofs.SlLaysF.n6 Tryz.prog Tryz.laysSlF6_f85_ren := {
  mixed := by kernel_rfl
  f6 := ⟨Tryz.f85.name, by decide, Tryz.func85.trans (congrArg some (by kernel_rfl))⟩
  f14 := ⟨Tryz.f115.name, by decide, Tryz.func115.trans (congrArg some (by kernel_rfl))⟩
  f15 := Tryz.func116.trans (congrArg some (by kernel_rfl))
  f20 := ⟨Tryz.f149.name, by decide, Tryz.func149.trans (congrArg some (by kernel_rfl))⟩
  f21 := ⟨Tryz.f150.name, by decide, Tryz.func150.trans (congrArg some (by kernel_rfl))⟩
  f22 := ⟨Tryz.f151.name, by decide, Tryz.func151.trans (congrArg some (by kernel_rfl))⟩
  f23 := ⟨Tryz.f152.name, by decide, Tryz.func152.trans (congrArg some (by kernel_rfl))⟩
  f24 := ⟨Tryz.f153.name, by decide, Tryz.func153.trans (congrArg some (by kernel_rfl))⟩
  f25 := ⟨Tryz.f154.name, by decide, Tryz.func154.trans (congrArg some (by kernel_rfl))⟩
  f26 := ⟨Tryz.f155.name, by decide, Tryz.func155.trans (congrArg some (by kernel_rfl))⟩
  f27 := ⟨Tryz.f156.name, by decide, Tryz.func156.trans (congrArg some (by kernel_rfl))⟩
  f28 := Tryz.func157.trans (congrArg some (by kernel_rfl))
  f29 := Tryz.func158.trans (congrArg some (by kernel_rfl))
  f46 := ⟨Tryz.f185.name, by decide, Tryz.func185.trans (congrArg some (by kernel_rfl))⟩
  f47 := Tryz.func186.trans (congrArg some (by kernel_rfl))
  f48 := Tryz.func187.trans (congrArg some (by kernel_rfl))
  f49 := ⟨Tryz.f188.name, by decide, Tryz.func188.trans (congrArg some (by kernel_rfl))⟩
  f50 := ⟨Tryz.f189.name, by decide, Tryz.func189.trans (congrArg some (by kernel_rfl))⟩
  f57 := ⟨Tryz.f204.name, by decide, Tryz.func204.trans (congrArg some (by kernel_rfl))⟩
  t0 := Tryz.underlying0
  a0 := Tryz.isAgg0
  z0 := Tryz.sizeOf0
  v0 := Tryz.zeroValue0
  t3 := Tryz.underlying3
  a3 := Tryz.isAgg3
  z3 := Tryz.sizeOf3
  v3 := Tryz.zeroValue3
  t4 := Tryz.underlying4
  a4 := Tryz.isAgg4
  z4 := Tryz.sizeOf4
  v4 := Tryz.zeroValue4
  t5 := Tryz.underlying5
  a5 := Tryz.isAgg5
  z5 := Tryz.sizeOf5
  v5 := Tryz.zeroValue5
  t9 := Tryz.underlying9
  a9 := Tryz.isAgg9
  z9 := Tryz.sizeOf9
  v9 := Tryz.zeroValue9
  t22 := Tryz.underlying34
  a22 := Tryz.isAgg34
  z22 := Tryz.sizeOf34
  v22 := Tryz.zeroValue34
  a24 := Tryz.isAgg56
  z24 := Tryz.sizeOf56
  t25 := Tryz.underlying107
  a25 := Tryz.isAgg107
  z25 := Tryz.sizeOf107
  v25 := Tryz.zeroValue107
  t39 := Tryz.underlying155
  a39 := Tryz.isAgg155
  z39 := Tryz.sizeOf155
  v39 := Tryz.zeroValue155
  t45 := Tryz.underlying194
  a45 := Tryz.isAgg194
  z45 := Tryz.sizeOf194
  v45 := Tryz.zeroValue194
  t46 := Tryz.underlying195
  a46 := Tryz.isAgg195
  z46 := Tryz.sizeOf195
  v46 := Tryz.zeroValue195
  t50 := Tryz.underlying101
  a50 := Tryz.isAgg101
  z50 := Tryz.sizeOf101
  v50 := Tryz.zeroValue101
  t53 := Tryz.underlying201
  a53 := Tryz.isAgg201
  z53 := Tryz.sizeOf201
  v53 := Tryz.zeroValue201
  t55 := Tryz.underlying203
  a55 := Tryz.isAgg203
  z55 := Tryz.sizeOf203
  v55 := Tryz.zeroValue203
  t66 := Tryz.underlying226
  a66 := Tryz.isAgg226
  z66 := Tryz.sizeOf226
  v66 := Tryz.zeroValue226
  t70 := Tryz.underlying230
  a70 := Tryz.isAgg230
  z70 := Tryz.sizeOf230
  v70 := Tryz.zeroValue230
  t76 := Tryz.underlying246
  a76 := Tryz.isAgg246
  z76 := Tryz.sizeOf246
  v76 := Tryz.zeroValue246
  t77 := Tryz.underlying247
  a77 := Tryz.isAgg247
  z77 := Tryz.sizeOf247
  v77 := Tryz.zeroValue247 }
open Go.RowKit Go.Lib Go.Sort in
/-- **slices.SortFunc: WHAT THE ROW HOLDS, TO THE ELEMENT.** (LAID AT THE INSTANCE 'slices.SortFunc[[][]string,[]string]': no walk: one application.) -/
theorem Tryz.slices_SortFunc_eq {α : Type} [Inhabited α] (enc : α → Value) (h1 : OneCell enc) (cf : α → α → Int) (hO : SWO (ltOf cf)) (g : Nat) (cb : Array Value) (blk off cap : Nat) (d : Array α) (w : World) (eg : ∀ args w, (callFunc g args).run Tryz.prog w = .ok (.enter g args) w) (hcmp : CmpLays1 Tryz.prog g cb enc cf blk off d.size w) (hH : Holds enc w blk off d) (hblk : blk < w.heap.size) (hsz : d.size < 4611686018427387904) :
    Calls Tryz.prog 85 #[.slice (some ⟨blk, off, none⟩) d.size cap, .func (.func g) #[] cb] w fun e w' =>
      e = .returned (.tuple #[]) ∧ ∃ n os, w' = sortWorld enc w blk off n (pdq (ltOf cf) d 0 d.size (Lib.bitLen d.size) true true) os := Any.slices_SortFunc_eq Tryz.laysSlF6_f85 enc h1 cf hO g cb blk off cap d w eg hcmp hH hblk hsz
open Go.RowKit Go.Lib Go.Sort in
/-- **slices.SortFunc, IN THE DOCUMENTATION's OWN TERMS: A PERMUTATION OF WHAT THE ROW HELD, SORTED BY 'cmp(a, b) < 0'.** Which of two equals comes first is left open ("The sort is not guaranteed to be stable"). (LAID AT THE INSTANCE 'slices.SortFunc[[][]string,[]string]': no walk: one application.) -/
theorem Tryz.slices_SortFunc {α : Type} [Inhabited α] (enc : α → Value) (h1 : OneCell enc) (cf : α → α → Int) (hO : SWO (ltOf cf)) (g : Nat) (cb : Array Value) (blk off cap : Nat) (d : Array α) (w : World) (eg : ∀ args w, (callFunc g args).run Tryz.prog w = .ok (.enter g args) w) (hcmp : CmpLays1 Tryz.prog g cb enc cf blk off d.size w) (hH : Holds enc w blk off d) (hblk : blk < w.heap.size) (hsz : d.size < 4611686018427387904) :
    Calls Tryz.prog 85 #[.slice (some ⟨blk, off, none⟩) d.size cap, .func (.func g) #[] cb] w fun e w' =>
      e = .returned (.tuple #[]) ∧ ∃ d' n os, PermIn 0 d.size d d' ∧ SortedIn (ltOf cf) 0 d.size d' ∧ w' = sortWorld enc w blk off n d' os := Any.slices_SortFunc Tryz.laysSlF6_f85 enc h1 cf hO g cb blk off cap d w eg hcmp hH hblk hsz
def Tryz.laysSlF06_f85_ren : Go.Shelf.Ren := ⟨fun | 6 => 85 | 15 => 116 | 14 => 115 | 28 => 157 | 29 => 158 | 20 => 149 | 21 => 150 | 22 => 151 | 23 => 152 | 24 => 153 | 25 => 154 | 26 => 155 | 27 => 156 | 46 => 185 | 47 => 186 | 48 => 187 | 49 => 188 | 50 => 189 | 57 => 204 | n => n, fun | 22 => 34 | 24 => 56 | 25 => 107 | 3 => 3 | 39 => 155 | 0 => 0 | 53 => 201 | 55 => 203 | 4 => 4 | 46 => 195 | 45 => 194 | 50 => 101 | 5 => 5 | 9 => 9 | 66 => 226 | 70 => 230 | 76 => 246 | 77 => 247 | n => n, fun | n => n⟩
theorem Tryz.laysSlF06_f85 : Go.Proofs.SlLaysF0.n6 Tryz.prog Tryz.laysSlF06_f85_ren := {
  mixed := by kernel_rfl
  f6 := ⟨Tryz.f85.name, by decide, Tryz.func85.trans (congrArg some (by kernel_rfl))⟩
  f14 := ⟨Tryz.f115.name, by decide, Tryz.func115.trans (congrArg some (by kernel_rfl))⟩
  f15 := Tryz.func116.trans (congrArg some (by kernel_rfl))
  f20 := ⟨Tryz.f149.name, by decide, Tryz.func149.trans (congrArg some (by kernel_rfl))⟩
  f21 := ⟨Tryz.f150.name, by decide, Tryz.func150.trans (congrArg some (by kernel_rfl))⟩
  f22 := ⟨Tryz.f151.name, by decide, Tryz.func151.trans (congrArg some (by kernel_rfl))⟩
  f23 := ⟨Tryz.f152.name, by decide, Tryz.func152.trans (congrArg some (by kernel_rfl))⟩
  f24 := ⟨Tryz.f153.name, by decide, Tryz.func153.trans (congrArg some (by kernel_rfl))⟩
  f25 := ⟨Tryz.f154.name, by decide, Tryz.func154.trans (congrArg some (by kernel_rfl))⟩
  f26 := ⟨Tryz.f155.name, by decide, Tryz.func155.trans (congrArg some (by kernel_rfl))⟩
  f27 := ⟨Tryz.f156.name, by decide, Tryz.func156.trans (congrArg some (by kernel_rfl))⟩
  f28 := Tryz.func157.trans (congrArg some (by kernel_rfl))
  f29 := Tryz.func158.trans (congrArg some (by kernel_rfl))
  f46 := ⟨Tryz.f185.name, by decide, Tryz.func185.trans (congrArg some (by kernel_rfl))⟩
  f47 := Tryz.func186.trans (congrArg some (by kernel_rfl))
  f48 := Tryz.func187.trans (congrArg some (by kernel_rfl))
  f49 := ⟨Tryz.f188.name, by decide, Tryz.func188.trans (congrArg some (by kernel_rfl))⟩
  f50 := ⟨Tryz.f189.name, by decide, Tryz.func189.trans (congrArg some (by kernel_rfl))⟩
  f57 := ⟨Tryz.f204.name, by decide, Tryz.func204.trans (congrArg some (by kernel_rfl))⟩
  t0 := Tryz.underlying0
  a0 := Tryz.isAgg0
  z0 := Tryz.sizeOf0
  v0 := Tryz.zeroValue0
  t3 := Tryz.underlying3
  a3 := Tryz.isAgg3
  z3 := Tryz.sizeOf3
  v3 := Tryz.zeroValue3
  t4 := Tryz.underlying4
  a4 := Tryz.isAgg4
  z4 := Tryz.sizeOf4
  v4 := Tryz.zeroValue4
  t5 := Tryz.underlying5
  a5 := Tryz.isAgg5
  z5 := Tryz.sizeOf5
  v5 := Tryz.zeroValue5
  t9 := Tryz.underlying9
  a9 := Tryz.isAgg9
  z9 := Tryz.sizeOf9
  v9 := Tryz.zeroValue9
  t22 := Tryz.underlying34
  a22 := Tryz.isAgg34
  z22 := Tryz.sizeOf34
  v22 := Tryz.zeroValue34
  t25 := Tryz.underlying107
  a25 := Tryz.isAgg107
  z25 := Tryz.sizeOf107
  v25 := Tryz.zeroValue107
  t39 := Tryz.underlying155
  a39 := Tryz.isAgg155
  z39 := Tryz.sizeOf155
  v39 := Tryz.zeroValue155
  t45 := Tryz.underlying194
  a45 := Tryz.isAgg194
  z45 := Tryz.sizeOf194
  v45 := Tryz.zeroValue194
  t46 := Tryz.underlying195
  a46 := Tryz.isAgg195
  z46 := Tryz.sizeOf195
  v46 := Tryz.zeroValue195
  t50 := Tryz.underlying101
  a50 := Tryz.isAgg101
  z50 := Tryz.sizeOf101
  v50 := Tryz.zeroValue101
  t53 := Tryz.underlying201
  a53 := Tryz.isAgg201
  z53 := Tryz.sizeOf201
  v53 := Tryz.zeroValue201
  t55 := Tryz.underlying203
  a55 := Tryz.isAgg203
  z55 := Tryz.sizeOf203
  v55 := Tryz.zeroValue203
  t66 := Tryz.underlying226
  a66 := Tryz.isAgg226
  z66 := Tryz.sizeOf226
  v66 := Tryz.zeroValue226
  t70 := Tryz.underlying230
  a70 := Tryz.isAgg230
  z70 := Tryz.sizeOf230
  v70 := Tryz.zeroValue230
  t76 := Tryz.underlying246
  a76 := Tryz.isAgg246
  z76 := Tryz.sizeOf246
  v76 := Tryz.zeroValue246
  t77 := Tryz.underlying247
  a77 := Tryz.isAgg247
  z77 := Tryz.sizeOf247
  v77 := Tryz.zeroValue247 }
open Go.RowKit Go.Lib Go.Sort in
/-- **slices.SortFunc AT NO ELEMENT, A nil SLICE TOO: nothing turns.** (LAID AT THE INSTANCE 'slices.SortFunc[[][]string,[]string]': no walk: one application.) -/
theorem Tryz.slices_SortFunc_none {α : Type} [Inhabited α] (p : Option Addr) (cap : Nat) (fv : Value) (w : World) :
    Calls Tryz.prog 85 #[.slice p 0 cap, fv] w fun e w' => e = .returned (.tuple #[]) ∧ w' = w := AnyF.slices_SortFunc_none Tryz.laysSlF06_f85 p cap fv w
open Go.RowKit Go.Lib Go.Sort in
/-- **slices.SortFunc AT ONE CELL, UNDER A 'cmp' THAT PARTS WHATEVER TWO THAT ARE NOT ONE: THE ROW HOLDS core's 'mergeSort'.** (LAID AT THE INSTANCE 'slices.SortFunc[[][]string,[]string]': no walk: one application.) -/
theorem Tryz.slices_SortFunc_total {α : Type} [Inhabited α] (enc : α → Value) (h1 : OneCell enc) (cf : α → α → Int) (hO : SWO (ltOf cf)) (g : Nat) (cb : Array Value) (blk off cap : Nat) (d : Array α) (w : World) (eg : ∀ args w, (callFunc g args).run Tryz.prog w = .ok (.enter g args) w) (hcmp : CmpLays1 Tryz.prog g cb enc cf blk off d.size w) (hH : Holds enc w blk off d) (hblk : blk < w.heap.size) (hsz : d.size < 4611686018427387904) (hT : ∀ x y, (ltOf cf) x y = false → (ltOf cf) y x = false → x = y) :
    Calls Tryz.prog 85 #[.slice (some ⟨blk, off, none⟩) d.size cap, .func (.func g) #[] cb] w fun e w' =>
      e = .returned (.tuple #[]) ∧ ∃ n os, w' = sortWorld enc w blk off n (d.toList.mergeSort fun x y => !(ltOf cf) y x).toArray os := Any.slices_SortFunc_total Tryz.laysSlF6_f85 enc h1 cf hO g cb blk off cap d w eg hcmp hH hblk hsz hT
end Go.Proofs

namespace Go.Proofs.YtfjdijakgjhieaaGreat
set_option linter.unusedSimpArgs false
set_option linter.unusedVariables false
open Go.RowKit

theorem drop_row {α : Type} {L : List α} {k : Nat} {j : α} (h : L[k]? = some j) : L.drop k = j :: L.drop (k + 1) := by
  obtain ⟨h1, h2⟩ := List.getElem?_eq_some_iff.1 h
  rw [← h2]; exact List.drop_eq_getElem_cons h1
theorem cmpR_cons {a b : ByteArray} {x y : List ByteArray} : cmpR (a :: x) (b :: y) = if cmpS a b = 0 then cmpR x y else cmpS a b := by
  unfold cmpR
  simp only [lexC]
theorem cmpR_nil_left {y : List ByteArray} : cmpR [] y = if y = [] then 0 else -1 := by
  cases y <;> rfl
theorem cmpR_nil_right {x : List ByteArray} : cmpR x [] = if x = [] then 0 else 1 := by
  cases x <;> rfl

set_option maxRecDepth 100000 in
set_option maxHeartbeats 1000000 in
theorem cmpCompare_any (x y : ByteArray) (w : World) : Calls Tryz.prog 117 #[.string x, .string y] w fun e w' => e = .returned (.int .i64 (cmpS x y)) ∧ w' = w := by
  have hgt : binOp .gtr 9 (.string x) (.string y) = pure (.bool !(Op.bytesLess x.toList y.toList || x.toList == y.toList)) := by simp [binOp, Op.stringOp]
  have tok : True := trivial
  rcases Bool.eq_false_or_eq_true (Op.bytesLess x.toList y.toList) with h1 | h1
  · have HF := Lib.hid (cmpS_less h1)
    go_enter Tryz.func117, Tryz.ntmps117
    go_wp2_with (first | (go_at_call 159; refine (nan_any _ _).mono ?_; rintro e w1 ⟨rfl, e1⟩; obtain rfl : w = w1 := e1.symm) | fail)
    go_ret
    exact ⟨by rw [HF.out]; rfl, rfl⟩
  · rw [h1] at hgt
    rcases Bool.eq_false_or_eq_true (x.toList == y.toList) with h2 | h2
    · rw [h2] at hgt
      have HF := Lib.hid (cmpS_same h1 (by rw [h2]; rfl))
      clear h2
      go_enter Tryz.func117, Tryz.ntmps117
      go_wp2_with (first | (go_at_call 159; refine (nan_any _ _).mono ?_; rintro e w1 ⟨rfl, e1⟩; obtain rfl : w = w1 := e1.symm) | fail)
      go_ret
      exact ⟨by rw [HF.out]; rfl, rfl⟩
    · rw [h2] at hgt
      have HF := Lib.hid (cmpS_more h1 (by rw [h2]; rfl))
      clear h2
      go_enter Tryz.func117, Tryz.ntmps117
      go_wp2_with (first | (go_at_call 159; refine (nan_any _ _).mono ?_; rintro e w1 ⟨rfl, e1⟩; obtain rfl : w = w1 := e1.symm) | fail)
      go_ret
      exact ⟨by rw [HF.out]; rfl, rfl⟩

set_option maxRecDepth 100000 in
set_option maxHeartbeats 4000000 in
theorem rowCompare_any (v u : Value) (xs ys : List ByteArray) (w : World) {S T : Nat → Prop} (hv : StrsR S w v xs) (hu : StrsR T w u ys) :
    Calls Tryz.prog 86 #[v, u] w fun e w' => e = .returned (.int .i64 (cmpR xs ys)) ∧ w' = w := by
  obtain ⟨A, c, rfl, hc1, hc2⟩ := SliceR.form hv
  obtain ⟨B, d, rfl, hd1, hd2⟩ := SliceR.form hu
  have HV := Lib.hid hv
  have HU := Lib.hid hu
  clear hv hu
  go_enter Tryz.func86, Tryz.ntmps86
  go_wp2
  go_loopw [11] (fun i wr => ∃ k : Nat, k ≤ xs.length ∧ i = .int .i64 k ∧ k ≤ ys.length ∧ wr = w ∧ Hid (cmpR xs ys = cmpR (xs.drop k) (ys.drop k))) (fun i _ => xs.length - (intOf i).toNat)
  case atStart => exact ⟨0, Nat.zero_le _, rfl, Nat.zero_le _, rfl, Lib.hid rfl⟩
  case round =>
    obtain ⟨k, hk, rfl, hky, rfl, hcm⟩ := hrel
    have hk0 : (0 : Int) ≤ (k : Int) := by omega
    by_cases hlt : k < xs.length
    · have hk1 : (k : Int) < (xs.length : Int) := by omega
      obtain ⟨b, off, x, rfl, hb, hxk, hxs, c0⟩ := StrsR.at_ HV.out hlt
      by_cases hly : k < ys.length
      · have hk2 : (k : Int) < (ys.length : Int) := by omega
        obtain ⟨b2, off2, y, rfl, hb2, hyk, hys, d0⟩ := StrsR.at_ HU.out hly
        have HD := Lib.hid (show cmpR xs ys = if cmpS x y = 0 then cmpR (xs.drop (k + 1)) (ys.drop (k + 1)) else cmpS x y from by
          rw [hcm.out, drop_row hxk, drop_row hyk, cmpR_cons])
        clear hxk hyk
        rcases cmpS_range x y with he | he | he
        · have HC := Lib.hid (fun (W : World) => show Calls Tryz.prog 117 #[.string x, .string y] W fun e w' => e = .returned (.int .i64 (-1)) ∧ w' = W from he ▸ cmpCompare_any x y W)
          have HF := Lib.hid (show cmpR xs ys = -1 from by rw [HD.out, if_neg (by rw [he]; decide), he])
          clear he
          go_wp2_with (go_at_call 117; refine (HC.out _).mono ?_; rintro e w1 ⟨rfl, e1⟩; obtain rfl := e1)
          go_ret
          exact ⟨by rw [HF.out]; rfl, rfl⟩
        · have HC := Lib.hid (fun (W : World) => show Calls Tryz.prog 117 #[.string x, .string y] W fun e w' => e = .returned (.int .i64 0) ∧ w' = W from he ▸ cmpCompare_any x y W)
          have HF := Lib.hid (show cmpR xs ys = cmpR (xs.drop (k + 1)) (ys.drop (k + 1)) from by rw [HD.out, if_pos he])
          clear he
          go_wp2_with (go_at_call 117; refine (HC.out _).mono ?_; rintro e w1 ⟨rfl, e1⟩; obtain rfl := e1)
          go_roundw
          case rel => exact ⟨k + 1, by omega, by go_num, by omega, trivial, HF⟩
          case measure => simp [intOf]; omega
        · have HC := Lib.hid (fun (W : World) => show Calls Tryz.prog 117 #[.string x, .string y] W fun e w' => e = .returned (.int .i64 1) ∧ w' = W from he ▸ cmpCompare_any x y W)
          have HF := Lib.hid (show cmpR xs ys = 1 from by rw [HD.out, if_neg (by rw [he]; decide), he])
          clear he
          go_wp2_with (go_at_call 117; refine (HC.out _).mono ?_; rintro e w1 ⟨rfl, e1⟩; obtain rfl := e1)
          go_ret
          exact ⟨by rw [HF.out]; rfl, rfl⟩
      · have HF := Lib.hid (show cmpR xs ys = 1 from by
          rw [hcm.out, show ys.drop k = [] from List.drop_eq_nil_of_le (by omega), cmpR_nil_right, if_neg (by rw [drop_row hxk]; simp)])
        clear hxk
        go_wp2
        go_ret
        exact ⟨by rw [HF.out]; rfl, rfl⟩
    · by_cases hly : k < ys.length
      · have HF := Lib.hid (show cmpR xs ys = -1 from by
          rw [hcm.out, show xs.drop k = [] from List.drop_eq_nil_of_le (by omega), cmpR_nil_left, if_neg (by intro e; have := congrArg List.length e; simp at this; omega)])
        have h1 : xs.length < ys.length := by omega
        go_wp2
        go_ret
        exact ⟨by rw [HF.out]; rfl, rfl⟩
      · have HF := Lib.hid (show cmpR xs ys = 0 from by
          rw [hcm.out, show xs.drop k = [] from List.drop_eq_nil_of_le (by omega), show ys.drop k = [] from List.drop_eq_nil_of_le (by omega)]; rfl)
        have h1 : ¬ xs.length < ys.length := by omega
        go_wp2
        go_ret
        exact ⟨by rw [HF.out]; rfl, rfl⟩

end Go.Proofs.YtfjdijakgjhieaaGreat

namespace Go.Proofs.YtfjdijakgjhieaaGreat
set_option linter.unusedSimpArgs false
set_option linter.unusedVariables false
open Go.RowKit

theorem total_le {α : Type} {c : α → α → Int} (h : Total c) {x y z : α} (h1 : ¬ c x y < 0) (h2 : ¬ c y z < 0) : ¬ c x z < 0 := by
  intro h3
  have n1 := h.neg x y
  have n2 := h.neg y z
  by_cases e : c x y = 0
  · rw [(h.eq x y).1 e] at h3
    exact h2 h3
  · exact h2 (h.trans y x z (by omega) h3)
theorem sort_block {α : Type} [Inhabited α] (enc : α → Value) (w : World) (g o m : Nat) (d : Array α) (os : Array Obj) {k : Nat} (hk : k < w.heap.size) (hne : k ≠ g) : (sortWorld enc w g o m d os).heap[k]? = w.heap[k]? := by
  unfold sortWorld
  rw [Sort.heap_grow_old _ _ (by rw [Sort.size_putRow]; exact hk)]
  show ((Sort.ahead w m).heap.modify g _)[k]? = _
  rw [Array.getElem?_modify, if_neg (fun e => hne e.symm)]
  rfl
theorem sort_size {α : Type} [Inhabited α] (enc : α → Value) (w : World) (g o m : Nat) (d : Array α) (os : Array Obj) : w.heap.size ≤ (sortWorld enc w g o m d os).heap.size := by
  unfold sortWorld
  rw [Sort.size_grow, Sort.size_putRow]
  show w.heap.size ≤ w.heap.size + _
  omega
theorem sort_inside {α : Type} [Inhabited α] (enc : α → Value) (w : World) (g o m : Nat) (d : Array α) (os : Array Obj) : Inside (fun b => b = g) w (sortWorld enc w g o m d os) :=
  ⟨rfl, rfl, rfl, sort_size _ _ _ _ _ _ _, fun k hk hne => sort_block _ _ _ _ _ _ _ hk hne⟩

set_option maxHeartbeats 2000000 in
theorem sortRows_any (rows : List (List ByteArray)) (v : Value) (w : World) {base : Nat} {e : TypeId} {S : Nat → Prop} (ho : OwnO kRowO base e S w v rows) (hl : rows.length < 4611686018427387904) :
    Calls Tryz.prog 85 #[v, .func (.func 86) #[] #[]] w fun e w' => e = .returned (.tuple #[]) ∧
      (∃ sorted : List (List ByteArray), sorted.Perm rows ∧ sorted.Pairwise (fun a b => cmpR a b ≤ 0) ∧ RowsO (fun b => S b ∨ base ≤ b) w' v sorted) ∧ Inside (fun b => base ≤ b) w w' := by
  by_cases hne : rows = []
  · subst hne
    obtain ⟨A, n, c, rfl, hn, hc1, hc2⟩ := ho.form2
    obtain rfl : n = 0 := hn.out
    refine (Tryz.slices_SortFunc_none (α := Nat) A c _ w).mono fun e w' ⟨h1, h2⟩ => ⟨h1, ⟨[], .refl _, List.Pairwise.nil, SliceO.nil c hc2 A⟩, ?_⟩
    rw [h2]; exact Inside.refl _ _
  · obtain ⟨rws, F, k1, k2, k3, k4, k5, k6⟩ := ho
    have hpos : 0 < rows.length := List.length_pos_iff.2 hne
    rcases k1.2 with ⟨rfl, h0⟩ | ⟨g, cap, cur, rfl, hb, hc, h2, h3, h4, h5⟩
    · omega
    · have hblk : Blk w g e cur := hc
      have hrl : rws.length = rows.length := by rw [k2]; show rows.length * 1 = _; omega
      haveI : Inhabited (Fin rows.length) := ⟨⟨0, hpos⟩⟩
      have hval : ∀ i : Fin rows.length, ∃ u, rws[i.val]? = some u ∧ StrsO (F i.val) w u (rows[i.val]'i.isLt) := fun i => by
        obtain ⟨l, m1, m2, u, rfl, m3⟩ := k3 i.val _ (List.getElem?_eq_getElem i.isLt)
        have := m2 0 u rfl
        rw [show i.val * kRowO.size + 0 = i.val from by show i.val * 1 + 0 = _; omega] at this
        exact ⟨u, this, m3⟩
      obtain ⟨enc, henc⟩ : ∃ enc : Fin rows.length → Value, ∀ i, rws[i.val]? = some (enc i) ∧ StrsO (F i.val) w (enc i) (rows[i.val]'i.isLt) := ⟨fun i => (hval i).choose, fun i => (hval i).choose_spec⟩
      have hone : OneCell enc := fun i => by
        obtain ⟨A, c, he, _⟩ := SliceO.form (henc i).2
        rw [he]; rfl
      obtain ⟨cf, hcf⟩ : ∃ cf : Fin rows.length → Fin rows.length → Int, cf = fun i j => cmpR (rows[i.val]'i.isLt) (rows[j.val]'j.isLt) := ⟨_, rfl⟩
      have hO : Sort.SWO (ltOf cf) := by
        rw [hcf]
        refine ⟨fun x => ?_, fun x y z h1 h2 => ?_, fun x y z h1 h2 => ?_⟩
        · unfold ltOf
          show decide (cmpR (rows[x.val]'x.isLt) (rows[x.val]'x.isLt) < 0) = false
          rw [self_zero cmpR_total]; rfl
        · exact decide_eq_true (cmpR_total.trans _ _ _ (of_decide_eq_true h1) (of_decide_eq_true h2))
        · exact decide_eq_false (total_le cmpR_total (of_decide_eq_false h1) (of_decide_eq_false h2))
      have hd : (Array.ofFn (n := rows.length) id).size = rows.length := by simp
      have hH : Sort.Holds enc w g 0 (Array.ofFn (n := rows.length) id) := fun j hj => by
        have hj' : j < rows.length := by rw [hd] at hj; exact hj
        refine ⟨?_, hblk.frozen _⟩
        have h6 := (henc ⟨j, hj'⟩).1
        rw [← h5, List.getElem?_take] at h6
        split at h6
        · rw [hblk.cell, Nat.zero_add]
          rw [show (Array.ofFn (n := rows.length) id)[j]! = ⟨j, hj'⟩ from by simp [getElem!_pos, hj']]
          simpa using h6
        · cases h6
      have hcmp : CmpLays1 Tryz.prog 86 #[] enc cf g 0 (Array.ofFn (n := rows.length) id).size w := fun m os dk _ x y => by
        have key : ∀ z : Fin rows.length, StrsR Any (sortWorld enc w g 0 m dk os) (enc z) (rows[z.val]'z.isLt) := fun z => by
          have h := StrsO.imp (henc z).2 (fun _ h _ => h) (fun b hb hlt => sort_block enc w g 0 m dk os hlt (fun e => k6 g rfl z.val (e ▸ hb))) (sort_size enc w g 0 m dk os)
          exact h.read.sub (fun _ _ => trivial)
        have hc := rowCompare_any (enc x) (enc y) _ _ (sortWorld enc w g 0 m dk os) (key x) (key y)
        refine hc.mono fun e w' ⟨h1, h2⟩ => ⟨by rw [h1, hcf], 0, #[], ?_⟩
        rw [h2, Sort.grow_empty]; rfl
      have eg : ∀ args w, (callFunc 86 args).run Tryz.prog w = .ok (.enter 86 args) w := enters_of Tryz.func86 (by kernel_rfl) (by rfl)
      have hmain := Tryz.slices_SortFunc enc hone cf hO 86 #[] g 0 cap (Array.ofFn (n := rows.length) id) w eg hcmp hH hblk.lt (by rw [hd]; exact hl)
      rw [hd] at hmain
      refine hmain.mono fun e' w' ⟨he, d', m, os, hp, hs, hw⟩ => ⟨he, ?_, ?_⟩
      · have hsz : d'.size = rows.length := by rw [hp.1, hd]
        have hperm : d'.toList.Perm (List.finRange rows.length) := by
          have h := hp.2.2
          rw [show d'.extract 0 rows.length = d' from by
            have : d'.extract 0 d'.size = d' := by simp
            rwa [hsz] at this, show (Array.ofFn (n := rows.length) id).extract 0 rows.length = Array.ofFn (n := rows.length) id from by
            have : (Array.ofFn (n := rows.length) id).extract 0 (Array.ofFn (n := rows.length) id).size = Array.ofFn (n := rows.length) id := by simp
            rwa [hd] at this] at h
          rw [Array.toList_ofFn] at h
          exact h
        have hnd : d'.toList.Nodup := hperm.nodup_iff.2 (List.nodup_finRange _)
        have hH2 : Sort.Holds enc w' g 0 d' := by
          rw [hw]
          unfold sortWorld
          exact Sort.holds_grow _ _ _ _ _ _ (by rw [Sort.size_putRow]; exact hblk.lt) (Sort.holds_putRow _ _ _ _ _ _ (Sort.holds_ahead _ _ _ _ _ _ hH) (by rw [hsz, hd]))
        have hin : Inside (fun b => b = g) w w' := by rw [hw]; exact sort_inside _ _ _ _ _ _ _
        refine ⟨d'.toList.map fun i => rows[i.val]'i.isLt, ?_, ?_, ?_⟩
        · have h := hperm.map (fun i : Fin rows.length => rows[i.val]'i.isLt)
          have e : (List.finRange rows.length).map (fun i : Fin rows.length => rows[i.val]'i.isLt) = rows := by
            apply List.ext_getElem?
            intro i
            by_cases hi : i < rows.length
            · simp [hi]
            · rw [List.getElem?_eq_none (by simp; omega), List.getElem?_eq_none (by omega)]
          rwa [e] at h
        · rw [List.pairwise_map, List.pairwise_iff_getElem]
          intro i j hi hj hij
          have hi' : i < d'.size := by simpa using hi
          have hj' : j < d'.size := by simpa using hj
          have h := hs i j (Nat.zero_le _) hij (by omega)
          rw [getElem!_pos d' j hj', getElem!_pos d' i hi'] at h
          have h := of_decide_eq_false h
          rw [hcf] at h
          have n1 := cmpR_total.neg (rows[(d'[j]).val]'(d'[j]).isLt) (rows[(d'[i]).val]'(d'[i]).isLt)
          simp only [Array.getElem_toList] at h n1 ⊢
          omega
        · have hlen : (d'.toList.map fun i => rows[i.val]'i.isLt).length = rows.length := by simp [hsz]
          refine ⟨some ⟨g, 0, none⟩, cap, by rw [hlen], by rw [hlen]; exact h2, h3, fun _ => ⟨g, 0, fun k b => ∃ i : Fin rows.length, d'.toList[k]? = some i ∧ F i.val b, rfl, Nat.lt_of_lt_of_le hblk.lt hin.size, .inr hb, fun j hj => ?_, ?_, ?_, ?_⟩⟩
          · rw [hlen] at hj
            have hj : j < d'.size := by rw [hsz]; have h1 : j < rows.length * 1 := hj; omega
            exact (hH2 j hj).2
          · rintro k b ⟨i, hi, hF⟩
            obtain ⟨f1, f2⟩ := k4 _ _ hF
            exact ⟨.inl f1, fun e => k6 g rfl i.val (e ▸ hF), Nat.lt_of_lt_of_le f2 hin.size⟩
          · rintro a b n ⟨i, hi, hF⟩ ⟨j, hj, hF'⟩
            have hij : i = j := Fin.ext (k5 _ _ _ hF hF')
            subst hij
            obtain ⟨a1, a2⟩ := List.getElem?_eq_some_iff.1 hi
            obtain ⟨b1, b2⟩ := List.getElem?_eq_some_iff.1 hj
            exact (List.getElem_inj hnd).1 (a2.trans b2.symm)
          · intro k x hx
            rw [List.getElem?_map] at hx
            obtain ⟨i, hi, rfl⟩ := Option.map_eq_some_iff.1 hx
            obtain ⟨a1, a2⟩ := List.getElem?_eq_some_iff.1 hi
            have hk : k < d'.size := by simpa using a1
            refine ⟨[enc i], rfl, fun j u hu => ?_, enc i, rfl, ?_⟩
            · match j, hu with
              | 0, hu =>
                simp only [List.getElem?_cons_zero, Option.some.injEq] at hu
                subst hu
                show w'.cell? ⟨g, 0 + (k * 1 + 0), none⟩ = _
                have h := (hH2 k hk).1
                rw [getElem!_pos d' k hk] at h
                rw [show 0 + (k * 1 + 0) = 0 + k by omega, h]
                simp only [Array.getElem_toList] at a2
                rw [a2]
            · exact StrsO.imp (henc i).2 (fun b hb _ => ⟨i, hi, hb⟩) (fun b hb hlt => hin.block b hlt (fun e => k6 g rfl i.val (e ▸ hb))) hin.size
      · rw [hw]
        exact (sort_inside enc w g 0 m d' os).sub (fun b hb _ => by
          have hb2 : b = g := hb
          omega)

end Go.Proofs.YtfjdijakgjhieaaGreat

namespace Go.Proofs.YtfjdijakgjhieaaGreat
set_option linter.unusedSimpArgs false
set_option linter.unusedVariables false
open Go.RowKit

end Go.Proofs.YtfjdijakgjhieaaGreat

namespace Go.Proofs.YtfjdijakgjhieaaGreat
set_option linter.unusedSimpArgs false
set_option linter.unusedVariables false
open Go.RowKit

/-- What the reference answers. -/
noncomputable def askW (xs : List GA) (ps : List GP) : List (List ByteArray) := if factsB xs 300 && askOkB ps then askN xs ps (varsN ps) else []

end Go.Proofs.YtfjdijakgjhieaaGreat

namespace Go.Proofs.YtfjdijakgjhieaaGreat
set_option linter.unusedSimpArgs false
set_option linter.unusedVariables false
open Go.RowKit

theorem foldl_id {α : Type} : ∀ (l st : List α), l.foldl (fun st r => st ++ [r]) st = st ++ l
  | [], st => by simp
  | x :: l, st => by rw [List.foldl_cons, foldl_id l, List.append_assoc]; rfl

set_option maxRecDepth 100000 in
set_option maxHeartbeats 4000000 in
theorem ask_any (xs : List GA) (ps : List GP) (v u : Value) (w : World) {S T : Nat → Prop} (hv : AtomsR S w v xs) (hu : PartsR T w u ps) (hf : factsB xs 300 = true) (hok : askOkB ps = true) :
    Calls Tryz.prog 45 #[v, u] w fun e w' => (∃ b, e = .returned b ∧ RowsO (From w.heap.size) w' b (askN xs ps (varsN ps))) ∧ Ext w w' := by
  obtain ⟨A, c, rfl, hc1, hc2⟩ := SliceR.form hv
  obtain ⟨A', c', rfl, hc1', hc2'⟩ := SliceR.form hu
  obtain ⟨a1, a2, a3, a4⟩ := askOk_parts hok
  have hl : xs.length ≤ 300 := by
    have := hf
    unfold factsB at this
    simp only [Bool.and_eq_true, decide_eq_true_eq] at this
    exact this.2
  have hff : ∀ a ∈ xs, factB a = true := by
    have := hf
    unfold factsB at this
    simp only [Bool.and_eq_true, List.all_eq_true] at this
    exact this.1.1
  have hn12 := varsN_few (fun p hp => atomOk_few (a3 p hp)) a2
  obtain ⟨K, hK⟩ : ∃ K, K = (toldAll (seOf xs (List.replicate xs.length 0) (varsN ps) ps (wantAll (varsN ps).length))).map (rowW (varsN ps).length) := ⟨_, rfl⟩
  have hKl : K.length ≤ 2430000000000 := by
    rw [hK, List.length_map]
    refine toldAll_len hl ?_
    show (partsOf (varsN ps) ps).length ≤ 4
    unfold partsOf
    rw [List.length_map]
    exact Nat.le_trans (List.length_filter_le _ _) a2
  have HSA := Lib.hid (fun (s : List (List ByteArray)) (hp : s.Perm K) (hs : s.Pairwise fun a b => cmpR a b ≤ 0) => ask_same (askable hok) (fun a ha => fact_ok (hff a ha)) (factsB_asc hf) (hK ▸ hp) hs)
  have HRW := Lib.hid (show Calls Tryz.prog 83 #[.slice A xs.length c, .slice A' ps.length c', .func (.func 84) #[] #[.pointer (some ⟨w.heap.size, 0, none⟩)]] (w.alloc (.cells #[.slice none 0 0] 34)) fun e w' => e = .returned (.tuple #[]) ∧
      (∃ base, w.heap.size + 1 ≤ base ∧ AskR w.heap.size base K w') ∧ Inside (fun b => b = w.heap.size ∨ w.heap.size + 1 ≤ b) (w.alloc (.cells #[.slice none 0 0] 34)) w' from by
    have hz : (w.alloc (.cells #[.slice none 0 0] 34)).heap.size = w.heap.size + 1 := by simp
    have hlow := hv.low
    have h := rows_any (N := 2430000000000) xs ps _ _ _ (hlow.ext ((Ext.refl w).alloc (.cells #[.slice none 0 0] 34))) (hu.ext ((Ext.refl w).alloc (.cells #[.slice none 0 0] 34))) (fun b hb => by rw [hz]; have : b < w.heap.size := hb; omega) (fun b => b = w.heap.size) (fun b hb => by rw [hz, hb]; omega) (fun b hb e => by
      have h1 : b < w.heap.size := hb
      have h2 : b = w.heap.size := e
      omega) hff hl hok (g := 84) (caps := #[.pointer (some ⟨w.heap.size, 0, none⟩)]) (R := AskR w.heap.size) (put := fun st r => st ++ [r]) (rank := List.length) [] (fun H base hG h1 h2 h3 => ask1_yields H hn12 (by rw [hz] at h1; omega) h2 h3 (Nat.le_refl _) hG)
      (fun W hW => ⟨_, (Blk.new w _ _).ext hW, OwnO.nil, Nat.le_refl _, by have := hW.size; rw [hz] at this; omega⟩) (by
        have := hKl
        rw [hK, List.length_map] at this
        simpa using this)
    refine h.mono fun e w' ⟨h1, ⟨base, h2, h3⟩, h4⟩ => ⟨h1, ⟨base, by rw [hz] at h2; exact h2, ?_⟩, ?_⟩
    · rw [foldl_id, List.nil_append, ← hK] at h3; exact h3
    · rw [hz] at h4; exact h4)
  have HKL := Lib.hid hKl
  clear hv hu hf hok a1 a3 a4 hff hK hKl
  go_enter Tryz.func45, Tryz.ntmps45
  go_wp2_with (first
    | (go_at_call 83; refine HRW.out.mono ?_; rintro e w2 ⟨rfl, ⟨base, hb2, ⟨v2, hk2, ho2, hz2, hlt2⟩⟩, hi2⟩
       obtain ⟨A2, n2, c2, rfl, hn2, h21, h22⟩ := ho2.form2
       have o2 := hk2.cell 0
       have l2 := hk2.lt
       have HK2 := Lib.hid hk2
       have HI2 := Lib.hid hi2
       have HSR := Lib.hid (sortRows_any K _ w2 ho2 (by have := HKL.out; omega))
       clear hk2 ho2 hi2)
    | (go_at_call 85; refine HSR.out.mono ?_; rintro e w3 ⟨rfl, ⟨srt, hp3, hs3, hr3⟩, hi3⟩
       have HI3 := Lib.hid hi3
       have o3 := (hi3.blk HK2.out (by omega)).cell 0
       have l3 := (hi3.blk HK2.out (by omega)).lt
       have HR3 := Lib.hid hr3
       have HP3 := Lib.hid (HSA.out srt hp3 hs3)
       clear hi3 hr3 hp3 hs3)
    | fail)
  go_ret
  refine ⟨⟨_, rfl, ?_⟩, ?_⟩
  · rw [← HP3.out]
    exact SliceO.sub HR3.out (fun b hb => by
      have : w.heap.size ≤ b := hb.elim (fun h => by omega) (fun h => by omega)
      exact this)
  · have hx1 : Ext w w2 := HI2.out.toExt ((Ext.refl w).alloc _) (fun i hi => by
      rcases hi with hi | hi
      · omega
      · omega)
    exact HI3.out.toExt hx1 (fun i hi => by
      have hi2 : base ≤ i := hi
      omega)

set_option maxRecDepth 100000 in
set_option maxHeartbeats 2000000 in
theorem askOk_any (ps : List GP) (u : Value) (w : World) {T : Nat → Prop} (hu : PartsR T w u ps) :
    Calls Tryz.prog 44 #[u] w fun e w' => e = .returned (.bool (askOkB ps)) ∧ Ext w w' := by
  obtain ⟨A, c, rfl, hc1, hc2⟩ := SliceR.form hu
  have HBO := Lib.hid (fun (W : World) (hW : Ext w W) => bodyOk_any _ ps W (hu.ext hW))
  have HBL := Lib.hid (fun (W : World) (hW : Ext w W) => bodyLoose_any _ ps W (hu.ext hW))
  have hA : askOkB ps = (decide (0 < ps.length) && (decide (ps.length ≤ 4) && ps.all partOkB) && ps.all (tightP ps)) := by
    unfold askOkB bodyTight
    have e1 : (ps.all fun p => atomOkB p.atom) = ps.all partOkB := rfl
    have e2 : (ps.all fun p => (varsOf p.atom).all (boundIn ps)) = ps.all (tightP ps) := rfl
    rw [e1, e2]
    have e3 : decide (1 ≤ ps.length ∧ ps.length ≤ 4) = (decide (0 < ps.length) && decide (ps.length ≤ 4)) := by
      apply Bool.eq_iff_iff.2; simp; omega
    rw [e3, Bool.and_assoc (decide (0 < ps.length))]
  have HA := Lib.hid hA
  clear hu hA
  obtain ⟨b1, hb1⟩ : ∃ b, b = (decide (ps.length ≤ 4) && ps.all partOkB) := ⟨_, rfl⟩
  obtain ⟨b2, hb2⟩ : ∃ b, b = ps.all (tightP ps) := ⟨_, rfl⟩
  rw [← hb1, ← hb2] at HA
  rw [← hb1] at HBO
  rw [← hb2] at HBL
  clear hb1 hb2
  by_cases h0 : 0 < ps.length
  · have h1 : (0 : Int) < (ps.length : Int) := by omega
    rw [decide_eq_true h0, Bool.true_and] at HA
    cases b1
    · have HF := Lib.hid (show askOkB ps = false from HA.out)
      clear HA
      go_enter Tryz.func44, Tryz.ntmps44
      go_wp2_with (first | (go_at_call 81; refine (HBO.out _ (Ext.refl _)).mono ?_; rintro e w1 ⟨rfl, hx1⟩) | fail)
      go_ret
      exact ⟨by rw [HF.out]; rfl, hx1⟩
    · cases b2
      · have HF := Lib.hid (show askOkB ps = false from HA.out)
        clear HA
        go_enter Tryz.func44, Tryz.ntmps44
        go_wp2_with (first | (go_at_call 81; refine (HBO.out _ (Ext.refl _)).mono ?_; rintro e w1 ⟨rfl, hx1⟩; have HX1 := Lib.hid hx1; clear hx1) | (go_at_call 82; refine (HBL.out _ HX1.out).mono ?_; rintro e w2 ⟨rfl, hx2⟩) | fail)
        go_ret
        exact ⟨by rw [HF.out]; rfl, HX1.out.trans' hx2⟩
      · have HF := Lib.hid (show askOkB ps = true from HA.out)
        clear HA
        go_enter Tryz.func44, Tryz.ntmps44
        go_wp2_with (first | (go_at_call 81; refine (HBO.out _ (Ext.refl _)).mono ?_; rintro e w1 ⟨rfl, hx1⟩; have HX1 := Lib.hid hx1; clear hx1) | (go_at_call 82; refine (HBL.out _ HX1.out).mono ?_; rintro e w2 ⟨rfl, hx2⟩) | fail)
        go_ret
        exact ⟨by rw [HF.out]; rfl, HX1.out.trans' hx2⟩
  · have h1 : ¬ (0 : Int) < (ps.length : Int) := by omega
    have HF := Lib.hid (show askOkB ps = false from by rw [HA.out, decide_eq_false h0]; rfl)
    clear HA
    go_enter Tryz.func44, Tryz.ntmps44
    go_wp2
    go_ret
    exact ⟨by rw [HF.out]; rfl, Ext.refl _⟩

set_option maxRecDepth 100000 in
set_option maxHeartbeats 2000000 in
theorem implAsk_any (xs : List GA) (ps : List GP) (v u : Value) (w : World) {S T : Nat → Prop} (hv : AtomsR S w v xs) (hu : PartsR T w u ps) :
    Calls Tryz.prog 14 #[v, u] w fun e w' => (∃ b, e = .returned b ∧ RowsO (From w.heap.size) w' b (askW xs ps)) ∧ Ext w w' := by
  obtain ⟨A, c, rfl, hc1, hc2⟩ := SliceR.form hv
  obtain ⟨A', c', rfl, hc1', hc2'⟩ := SliceR.form hu
  have HFO := Lib.hid (fun (W : World) (hW : Ext w W) => factsOk_any _ xs W (hv.ext hW))
  have HAO := Lib.hid (fun (W : World) (hW : Ext w W) => askOk_any ps _ W (hu.ext hW))
  have HV := Lib.hid hv
  have HU := Lib.hid hu
  clear hv hu
  rcases Bool.eq_false_or_eq_true (factsB xs 300) with hf | hf
  · rw [hf] at HFO
    rcases Bool.eq_false_or_eq_true (askOkB ps) with ha | ha
    · rw [ha] at HAO
      have HAS := Lib.hid (fun (W : World) (hW : Ext w W) => ask_any xs ps _ _ W (HV.out.ext hW) (HU.out.ext hW) hf ha)
      have HR := Lib.hid (show askW xs ps = askN xs ps (varsN ps) from by unfold askW; rw [hf, ha]; rfl)
      clear hf ha
      go_enter Tryz.func14, Tryz.ntmps14
      go_wp2_with (first
        | (go_at_call 37; refine (HFO.out _ (Ext.refl _)).mono ?_; rintro e w1 ⟨rfl, hx1⟩; have HX1 := Lib.hid hx1; clear hx1)
        | (go_at_call 44; refine (HAO.out _ HX1.out).mono ?_; rintro e w2 ⟨rfl, hx2⟩; have HX2 := Lib.hid (HX1.out.trans' hx2); clear hx2)
        | (go_at_call 45; refine (HAS.out _ HX2.out).mono ?_; rintro e w3 ⟨⟨b3, rfl, hb3⟩, hx3⟩; obtain ⟨B3, d3, rfl, hd3, hd4⟩ := SliceO.form hb3; have HB3 := Lib.hid hb3; have HX3 := Lib.hid (HX2.out.trans' hx3); clear hb3 hx3) | fail)
      go_ret
      refine ⟨⟨_, rfl, ?_⟩, HX3.out⟩
      rw [HR.out]
      exact SliceO.sub HB3.out (fun b hb => Nat.le_trans HX2.out.size hb)
    · rw [ha] at HAO
      have HR := Lib.hid (show askW xs ps = [] from by unfold askW; rw [hf, ha]; rfl)
      clear hf ha
      go_enter Tryz.func14, Tryz.ntmps14
      go_wp2_with (first
        | (go_at_call 37; refine (HFO.out _ (Ext.refl _)).mono ?_; rintro e w1 ⟨rfl, hx1⟩; have HX1 := Lib.hid hx1; clear hx1)
        | (go_at_call 44; refine (HAO.out _ HX1.out).mono ?_; rintro e w2 ⟨rfl, hx2⟩; have HX2 := Lib.hid (HX1.out.trans' hx2); clear hx2) | fail)
      go_ret
      exact ⟨⟨_, rfl, by rw [HR.out]; exact SliceO.nil 0 (Nat.zero_le _) none⟩, HX2.out⟩
  · rw [hf] at HFO
    have HR := Lib.hid (show askW xs ps = [] from by unfold askW; rw [hf]; rfl)
    clear hf
    go_enter Tryz.func14, Tryz.ntmps14
    go_wp2_with (first | (go_at_call 37; refine (HFO.out _ (Ext.refl _)).mono ?_; rintro e w1 ⟨rfl, hx1⟩; have HX1 := Lib.hid hx1; clear hx1) | fail)
    go_ret
    exact ⟨⟨_, rfl, by rw [HR.out]; exact SliceO.nil 0 (Nat.zero_le _) none⟩, HX1.out⟩

end Go.Proofs.YtfjdijakgjhieaaGreat
