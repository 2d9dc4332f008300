/- Part of the texts of a proof: own texts joined in the order of their building; what they say stands at each theorem. -/
import Derived.Test.YtfjdijakgjhieaaGreatBas03
import Derived.Test.YtfjdijakgjhieaaGreatBas05
import Derived.Test.YtfjdijakgjhieaaGreatBas02
import Derived.Test.YtfjdijakgjhieaaGreatBas06
import Derived.Test.YtfjdijakgjhieaaGreatBas04
import Derived.Deep.DeepCutAuto
import Derived.BigQuiet
import Derived.Shelf.Strings.Builder1
import Derived.Shelf.Small.Bits
import Derived.Shelf.Small.Strs
import Derived.Shelf.Strings.BuilderF
import Derived.Shelf.Strings.BuilderK
import Derived.Shelf.Strconv.Itoa0
import Derived.Shelf.Sort.Plain
import Derived.Shelf.Strings.BuilderCap
import Derived.Shelf.Slices.CompactS
import Derived.Shelf.Slices.Cells
import Derived.Shelf.Slices.In.SortNone
import Derived.Ground.SlsfProg
import Derived.Shelf.SlSortCmp.Insertion
import Derived.Shelf.SlSortCmp.SiftDown1
import Derived.Shelf.SlSortCmp.HeapSort1
import Derived.Shelf.SlSortCmp.Insertion1
import Derived.Shelf.SlSortCmp.Median1
import Derived.Shelf.SlSortCmp.Pivot1
import Derived.Shelf.SlSortCmp.ReverseRange1
import Derived.Shelf.SlSortCmp.PartialInsertion1
import Derived.Shelf.SlSortCmp.PartitionEqual1
import Derived.Shelf.SlSortCmp.Partition1
import Derived.Shelf.SlSortCmp.Pdq1
import Derived.Shelf.SlSortCmp.Whole1
import Derived.Shelf.SlSortCmp.NoneTotal
import Derived.Test.YtfjdijakgjhieaaGreatProg
import Derived.Lib.SlicesCompact
import Derived.Sort.Walk0
namespace Go.Proofs.YtfjdijakgjhieaaGreat
set_option linter.unusedSimpArgs false
set_option linter.unusedVariables false
open Go.RowKit

def partOkB (p : GP) : Bool := atomOkB p.atom
theorem ruleOkB_eq (r : GR) : ruleOkB r = (r.body.all partOkB && (atomOkB r.head && decide (r.body.length ≤ 4))) := rfl

set_option maxHeartbeats 1000000 in
theorem specRule_any (r : GR) (v u : Value) (w : World) {S T : Nat → Prop} (hs : r.head.n.size ≤ maxLen) (hv : TermsR S w v r.head.args) (hu : PartsR T w u r.body) :
 Calls Tryz.prog 132 #[.agg #[.string r.head.n, v, u]] w fun e w' => e = .returned (.bool (ruleOkB r)) ∧ Ext w w' := by
 obtain ⟨A, c, rfl, hc1, hc2⟩ := SliceR.form hv
 obtain ⟨B, d, rfl, hd1, hd2⟩ := SliceR.form hu
 have HV := Lib.hid (hv.ext ((Ext.refl w).alloc (.cells #[.string r.head.n, .slice A r.head.args.length c, .slice B r.body.length d] 93)))
 have HU := Lib.hid (hu.ext ((Ext.refl w).alloc (.cells #[.string r.head.n, .slice A r.head.args.length c, .slice B r.body.length d] 93)))
 have HB := Lib.hid (Blk.new w 93 #[.string r.head.n, .slice A r.head.args.length c, .slice B r.body.length d])
 clear hv hu
 go_enter Tryz.func132, Tryz.ntmps132
 go_wp2
 go_loopw [3] (fun i wr => ∃ k : Nat, k ≤ r.body.length ∧ i = .int .i64 k ∧ Hid ((r.body.take k).all partOkB = true) ∧ Ext (w.alloc (.cells #[.string r.head.n, .slice A r.head.args.length c, .slice B r.body.length d] 93)) wr) (fun i _ => r.body.length - (intOf i).toNat)
 case atStart => exact ⟨0, Nat.zero_le _, rfl, rfl, Ext.refl _⟩
 case round =>
  obtain ⟨k, hk, rfl, hp, hx⟩ := hrel
  have hb1 := HB.out.ext hx
  have q0 := hb1.cell 0
  have q1 := hb1.cell 1
  have q2 := hb1.cell 2
  have hl := hb1.lt
  clear hb1
  by_cases hlt : k < r.body.length
  · obtain ⟨b, off, x, y, rfl, hb, hxk, hxs, htx, p0, p1, p2⟩ := PartsR.at_ (HU.out.ext hx) hlt
    obtain ⟨C, e, rfl, he1, he2⟩ := SliceR.form htx
    have HK := Lib.hid hxk
    have hw := bool_ways (specAtomOk_any x.atom _ wr hxs htx)
    clear hxk htx
    cases ht : atomOkB x.atom
    · have HF := Lib.hid (show ruleOkB r = false from by rw [ruleOkB_eq, all_false partOkB _ k x HK.out ht]; rfl)
      have HW := Lib.hid (hw.2 ht)
      clear hw ht
      go_wp2_with (go_at_call 13; refine HW.out.mono ?_; rintro e w1 ⟨rfl, hx1⟩)
      go_ret
      exact ⟨by rw [HF.out]; rfl, ((Ext.refl _).alloc _).trans' (hx.trans' hx1)⟩
    · have HP := Lib.hid (show (r.body.take (k + 1)).all partOkB = true from by rw [all_snoc partOkB _ k x HK.out, hp.out, show partOkB x = true from ht]; rfl)
      have HW := Lib.hid (hw.1 ht)
      clear hw ht
      go_wp2_with (go_at_call 13; refine HW.out.mono ?_; rintro e w1 ⟨rfl, hx1⟩)
      go_roundw
      case rel => exact ⟨k + 1, by omega, by go_num, HP, hx.trans' hx1⟩
      case measure => simp [intOf]; omega
  · have hall := all_whole partOkB _ k hlt hp.out
    have hw := bool_ways (specAtomOk_any r.head _ wr hs (HV.out.ext hx))
    clear hp
    cases hn : atomOkB r.head
    · have HF := Lib.hid (show ruleOkB r = false from by rw [ruleOkB_eq, hn, hall]; rfl)
      have HW := Lib.hid (hw.2 hn)
      clear hw hn hall
      go_wp2_with (go_at_call 13; refine HW.out.mono ?_; rintro e w1 ⟨rfl, hx1⟩)
      go_ret
      exact ⟨by rw [HF.out]; rfl, ((Ext.refl _).alloc _).trans' (hx.trans' hx1)⟩
    · have HF := Lib.hid (show ruleOkB r = decide (r.body.length ≤ 4) from by rw [ruleOkB_eq, hn, hall]; rfl)
      have HW := Lib.hid (hw.1 hn)
      clear hw hn hall
      go_wp2_with (go_at_call 13; refine HW.out.mono ?_; rintro e w1 ⟨rfl, hx1⟩; have hb2 := (HB.out.ext (hx.trans' hx1)); have p2 := hb2.cell 2; have hl2 := hb2.lt; clear hb2)
      go_ret
      refine ⟨ret_bool ?_, ((Ext.refl _).alloc _).trans' (hx.trans' hx1)⟩
      rw [HF.out]
      exact decide_eq_decide.2 (by omega)

/-! ### Texts, ascending -/
theorem str_info : (Tryz.prog.info? 9).map (fun i => (i.zero, i.size, i.bytes)) = some (some (.string ByteArray.empty), 1, 16) := by kernel_rfl
theorem ltS_less (a b : ByteArray) : Op.bytesLess a.toList b.toList = ltS a b := by
 unfold ltS
 cases h : Op.bytesLess a.toList b.toList
 · cases h2 : (!a.toList == b.toList)
   · have := cmpS_same h h2
     unfold cmpS at this
     rw [this]; rfl
   · have := cmpS_more h h2
     unfold cmpS at this
     rw [this]; rfl
 · have := cmpS_less h
   unfold cmpS at this
   rw [this]; rfl
theorem str_ne' {a b : ByteArray} (h : a ≠ b) : (a.toList == b.toList) = false := by
 rw [beq_eq_false_iff_ne, ByteArray.toList_eq, ByteArray.toList_eq]
 intro e
 apply h
 cases a; cases b
 simp at e
 rw [e]
theorem putS_len (l : List ByteArray) (s : ByteArray) : (putS l s).length ≤ l.length + 1 := by
 induction l with
 | nil => exact Nat.le_refl _
 | cons x l ih =>
   unfold putS
   split
   · simp; exact ih
   · split <;> simp

/-- Texts hold no memory. -/
theorem OwnK.strs {S S' : Nat → Prop} {w : World} {v : Value} {xs : List ByteArray} {base : Nat} {e : TypeId} (h : OwnK kStr base e S w v xs) : OwnK kStr base e S' w v xs := by
 obtain ⟨rows, T, h1, h2, _, _⟩ := h
 exact ⟨rows, fun _ => False, h1, h2, fun _ h => h.elim, fun _ _ h => h⟩

set_option maxRecDepth 100000 in
set_option maxHeartbeats 4000000 in
theorem l2Put_in (v : Value) (xs : List ByteArray) (s : ByteArray) (w : World) {S : Nat → Prop} (hv : StrsR S w v xs) (hs : s.size ≤ maxLen) (hn : xs.length ≤ 1000000) :
 Calls Tryz.prog 135 #[v, .string s] w fun e w' => (∃ v', e = .returned v' ∧ StrsR (fun b => S b ∨ w.heap.size ≤ b) w' v' (putS xs s)) ∧ Ext w w' := by
 obtain ⟨A, c, rfl, hc1, hc2⟩ := SliceR.form hv
 obtain ⟨i0, hi0, hz0, hz1, hz2⟩ := info_parts str_info
 have HV := Lib.hid hv
 clear hv
 go_enter Tryz.func135, Tryz.ntmps135
 go_wp2
 go_loopw [5] (fun i wr => ∃ k : Nat, k ≤ xs.length ∧ i = .int .i64 k ∧ Hid (∀ i x, i < k → xs[i]? = some x → ltS x s = true) ∧ w = wr) (fun i _ => xs.length - (intOf i).toNat)
 case atStart => exact ⟨0, Nat.zero_le _, rfl, Lib.hid (fun i x h => absurd h (Nat.not_lt_zero _)), rfl⟩
 case round =>
  obtain ⟨k, hk, rfl, hlow, rfl⟩ := hrel
  have hk0 : (0 : Int) ≤ (k : Int) := by omega
  have hk1 : (k : Int) ≤ (c : Int) := by omega
  have hk2 : (k : Int) ≤ (xs.length : Int) := by omega
  have hend : ∀ hw : whileS xs s = k, xs[k]? ≠ some s → putS xs s = xs.take k ++ [s] ++ xs.drop k := fun hw hne => by rw [putS_eq, hw, if_neg hne]
  by_cases hlt : k < xs.length
  · obtain ⟨b, off, x, rfl, hb, hxk, hxs, p0⟩ := StrsR.at_ HV.out hlt
    cases hl : ltS x s
    · have hw : whileS xs s = k := whileS_is hk hlow.out (fun y hy => by rw [hxk] at hy; injection hy with hy; subst hy; exact hl)
      have hbl : Op.bytesLess x.toList s.toList = false := (ltS_less x s).trans hl
      by_cases he : x = s
      · have HP := Lib.hid (show putS xs s = xs from by rw [putS_eq, hw, if_pos (by rw [hxk, he])])
        have he1 : (x.toList == s.toList) = true := by rw [he]; exact beq_self_eq_true _
        clear hw hend hl hxk hlow he
        go_wp2
        go_ret
        exact ⟨⟨_, rfl, by rw [HP.out]; exact StrsR.imp HV.out (fun _ h => .inl h) (.refl _ _) (Nat.le_refl _)⟩, Ext.refl _⟩
      · have HP := Lib.hid (hend hw (by rw [hxk]; intro e; injection e with e; exact he e))
        have he1 : (x.toList == s.toList) = false := str_ne' he
        clear hw hend hl hxk hlow he
        go_wp2
        clear p0 hb
        generalize (some (⟨b, off, none⟩ : Addr)) = A at HV ⊢
        have HE1 := Lib.hid (show ∀ W, Ext w W → ElemsK kStr (fun b => b < w.heap.size) W (.slice A k c) (xs.take k) from fun W hW =>
         ElemsK.ext ((ListK.elems (k := kStr) (SliceR.fst HV.out k hk)).sub (fun b hb hlt => hlt)) hW)
        have HE2 := Lib.hid (show ∀ W, Ext w W → kStr.E (fun b => b < w.heap.size) W [.string s] s from fun W hW => ⟨rfl, hs⟩)
        have HE3 := Lib.hid (show ∀ W, Ext w W → ElemsK kStr (fun b => b < w.heap.size) W (.slice (if c = k then A else A.map (·.add k)) (xs.length - k) (c - k)) (xs.drop k) from fun W hW =>
         ElemsK.ext ((ListK.elems (k := kStr) (by have h := SliceR.drop HV.out k hk; simp only [Nat.mul_one] at h; exact h)).sub (fun b hb hlt => hlt)) hW)
        have hlk : (xs.take k).length = k := by rw [List.length_take]; omega
        go_region_held3 (fun _ => True) (exact trivial)
         (first
          | (refine step_appL (o := ⟨some 37, _, _, _, _, _⟩) (k := kStr) (S := fun b => b < w.heap.size) (T := fun b => b < w.heap.size) (base := w.heap.size) (v := .slice (some ⟨_, 0, none⟩) 0 0) (xs := []) (ys := xs.take k) (by rfl) (.tmp 33) (.tmp 36) 56 (by rfl) i0 _ 16 Tryz.underlying56 hi0 hz0 hz1 hz2 (by rfl) (by rfl)
              (by first | exact OwnK.drew (OwnK.empty rfl (Nat.le_refl _)) | exact OwnK.drew (OwnK.alloc (OwnK.empty rfl (Nat.le_refl _)) _) | exact OwnK.drew (OwnK.empty (w := w.alloc _) (by simp) (by simp))) A k c (by rfl) (HE1.out _ (by first | exact Ext.drew (Ext.alloc (Ext.refl _) _) | exact Ext.drew (Ext.alloc (Ext.alloc (Ext.refl _) _) _))) (fun b hb => ⟨hb, hb⟩) (maxOf (by simp; omega)) (by simp; omega) (by go_size) ?_
             intro v1 w2 hap1; obtain ⟨A1, n1, c1, rfl, hn1, hd11, hd12⟩ := hap1.own.form2; have HX2 := Lib.hid (hap1.toExt (w0 := w) (by first | exact Ext.drew (Ext.alloc (Ext.refl _) _) | exact Ext.drew (Ext.alloc (Ext.alloc (Ext.refl _) _) _)) (Nat.le_refl _)); have HA1 := Lib.hid hap1; clear hap1)
          | (refine step_appL (o := ⟨some 40, _, _, _, _, _⟩) (k := kStr) (S := fun b => b < w.heap.size) (T := fun b => b < w.heap.size) (base := w.heap.size) (xs := [] ++ xs.take k) (ys := [s]) (by rfl) (.tmp 37) (.tmp 39) 56 (by rfl) i0 _ 16 Tryz.underlying56 hi0 hz0 hz1 hz2 (by rfl) (by rfl)
              (by first | exact HA1.out.own | exact OwnK.alloc HA1.out.own _) _ 1 1 (by rfl) (ElemsK.one (k := kStr) (x := s) (by first | exact Blk.at_new rfl | exact HA1.out.blk2 (Blk.drew (Blk.at_new (w := w.alloc _) (by simp))) (by simp [Value.ownBlock]) | exact HA1.out.blk2 (Blk.drew (Blk.alloc (Blk.at_new rfl) _)) (by simp [Value.ownBlock])) (HE2.out _ (by first | exact HX2.out | exact Ext.alloc HX2.out _))) (fun b hb => ⟨hb, hb⟩) (maxOf (by simp; omega)) (by simp; omega) (by have := HX2.out.size; go_size) ?_
             intro v2 w3 hap2; obtain ⟨A2, n2, c2, rfl, hn2, hd21, hd22⟩ := hap2.own.form2; have HX3 := Lib.hid (hap2.toExt (w0 := w) (by first | exact HX2.out | exact Ext.alloc HX2.out _) (Nat.le_refl _)); have HA2 := Lib.hid hap2; clear hap2)
          | (refine step_appL (o := ⟨some 44, _, _, _, _, _⟩) (k := kStr) (S := fun b => b < w.heap.size) (T := fun b => b < w.heap.size) (base := w.heap.size) (xs := ([] ++ xs.take k) ++ [s]) (ys := xs.drop k) (by rfl) (.tmp 40) (.tmp 43) 56 (by rfl) i0 _ 16 Tryz.underlying56 hi0 hz0 hz1 hz2 (by rfl) (by rfl)
              (by exact HA2.out.own) _ _ _ (by rfl) (HE3.out _ HX3.out) (fun b hb => ⟨hb, hb⟩) (maxOf (by simp; omega)) (by simp; omega) (by have := HX3.out.size; go_size) ?_
             intro v3 w4 hap3; obtain ⟨A3, n3, c3, rfl, hn3, hd31, hd32⟩ := hap3.own.form2; have HX4 := Lib.hid (hap3.toExt (w0 := w) HX3.out (Nat.le_refl _)); have HA3 := Lib.hid hap3; clear hap3))
        all_goals go_wp2
        all_goals
         go_ret
         refine ⟨⟨_, rfl, ?_⟩, HX4.out⟩
         rw [HP.out]
         have h := (OwnK.strs (S' := None) HA3.out.own).list (S' := fun b => S b ∨ w.heap.size ≤ b) (fun b hb => hb.elim) (fun b hb => .inr hb)
         simp only [List.nil_append] at h
         exact h
    · have hbl : Op.bytesLess x.toList s.toList = true := (ltS_less x s).trans hl
      have HL := Lib.hid (show ∀ i y, i < k + 1 → xs[i]? = some y → ltS y s = true from fun i y hi hy => by
       rcases Nat.lt_or_ge i k with h | h
       · exact hlow.out i y h hy
       · rw [show i = k from by omega, hxk] at hy; injection hy with hy; subst hy; exact hl)
      clear hend hl hxk hlow
      go_wp2
      go_roundw
      case rel => exact ⟨k + 1, by omega, by go_num, HL, trivial⟩
      case measure => simp [intOf]; omega
  · have hw : whileS xs s = k := whileS_is hk hlow.out (fun y hy => by rw [List.getElem?_eq_none (by omega)] at hy; cases hy)
    have HP := Lib.hid (hend hw (by rw [List.getElem?_eq_none (by omega)]; simp))
    clear hw hend hlow
    go_wp2
    have HE1 := Lib.hid (show ∀ W, Ext w W → ElemsK kStr (fun b => b < w.heap.size) W (.slice A k c) (xs.take k) from fun W hW =>
     ElemsK.ext ((ListK.elems (k := kStr) (SliceR.fst HV.out k hk)).sub (fun b hb hlt => hlt)) hW)
    have HE2 := Lib.hid (show ∀ W, Ext w W → kStr.E (fun b => b < w.heap.size) W [.string s] s from fun W hW => ⟨rfl, hs⟩)
    have HE3 := Lib.hid (show ∀ W, Ext w W → ElemsK kStr (fun b => b < w.heap.size) W (.slice (if c = k then A else A.map (·.add k)) (xs.length - k) (c - k)) (xs.drop k) from fun W hW =>
     ElemsK.ext ((ListK.elems (k := kStr) (by have h := SliceR.drop HV.out k hk; simp only [Nat.mul_one] at h; exact h)).sub (fun b hb hlt => hlt)) hW)
    have hlk : (xs.take k).length = k := by rw [List.length_take]; omega
    go_region_held3 (fun _ => True) (exact trivial)
     (first
      | (refine step_appL (o := ⟨some 37, _, _, _, _, _⟩) (k := kStr) (S := fun b => b < w.heap.size) (T := fun b => b < w.heap.size) (base := w.heap.size) (v := .slice (some ⟨_, 0, none⟩) 0 0) (xs := []) (ys := xs.take k) (by rfl) (.tmp 33) (.tmp 36) 56 (by rfl) i0 _ 16 Tryz.underlying56 hi0 hz0 hz1 hz2 (by rfl) (by rfl)
          (by first | exact OwnK.drew (OwnK.empty rfl (Nat.le_refl _)) | exact OwnK.drew (OwnK.alloc (OwnK.empty rfl (Nat.le_refl _)) _) | exact OwnK.drew (OwnK.empty (w := w.alloc _) (by simp) (by simp))) A k c (by rfl) (HE1.out _ (by first | exact Ext.drew (Ext.alloc (Ext.refl _) _) | exact Ext.drew (Ext.alloc (Ext.alloc (Ext.refl _) _) _))) (fun b hb => ⟨hb, hb⟩) (maxOf (by simp; omega)) (by simp; omega) (by go_size) ?_
         intro v1 w2 hap1; obtain ⟨A1, n1, c1, rfl, hn1, hd11, hd12⟩ := hap1.own.form2; have HX2 := Lib.hid (hap1.toExt (w0 := w) (by first | exact Ext.drew (Ext.alloc (Ext.refl _) _) | exact Ext.drew (Ext.alloc (Ext.alloc (Ext.refl _) _) _)) (Nat.le_refl _)); have HA1 := Lib.hid hap1; clear hap1)
      | (refine step_appL (o := ⟨some 40, _, _, _, _, _⟩) (k := kStr) (S := fun b => b < w.heap.size) (T := fun b => b < w.heap.size) (base := w.heap.size) (xs := [] ++ xs.take k) (ys := [s]) (by rfl) (.tmp 37) (.tmp 39) 56 (by rfl) i0 _ 16 Tryz.underlying56 hi0 hz0 hz1 hz2 (by rfl) (by rfl)
          (by first | exact HA1.out.own | exact OwnK.alloc HA1.out.own _) _ 1 1 (by rfl) (ElemsK.one (k := kStr) (x := s) (by first | exact Blk.at_new rfl | exact HA1.out.blk2 (Blk.drew (Blk.at_new (w := w.alloc _) (by simp))) (by simp [Value.ownBlock]) | exact HA1.out.blk2 (Blk.drew (Blk.alloc (Blk.at_new rfl) _)) (by simp [Value.ownBlock])) (HE2.out _ (by first | exact HX2.out | exact Ext.alloc HX2.out _))) (fun b hb => ⟨hb, hb⟩) (maxOf (by simp; omega)) (by simp; omega) (by have := HX2.out.size; go_size) ?_
         intro v2 w3 hap2; obtain ⟨A2, n2, c2, rfl, hn2, hd21, hd22⟩ := hap2.own.form2; have HX3 := Lib.hid (hap2.toExt (w0 := w) (by first | exact HX2.out | exact Ext.alloc HX2.out _) (Nat.le_refl _)); have HA2 := Lib.hid hap2; clear hap2)
      | (refine step_appL (o := ⟨some 44, _, _, _, _, _⟩) (k := kStr) (S := fun b => b < w.heap.size) (T := fun b => b < w.heap.size) (base := w.heap.size) (xs := ([] ++ xs.take k) ++ [s]) (ys := xs.drop k) (by rfl) (.tmp 40) (.tmp 43) 56 (by rfl) i0 _ 16 Tryz.underlying56 hi0 hz0 hz1 hz2 (by rfl) (by rfl)
          (by exact HA2.out.own) _ _ _ (by rfl) (HE3.out _ HX3.out) (fun b hb => ⟨hb, hb⟩) (maxOf (by simp; omega)) (by simp; omega) (by have := HX3.out.size; go_size) ?_
         intro v3 w4 hap3; obtain ⟨A3, n3, c3, rfl, hn3, hd31, hd32⟩ := hap3.own.form2; have HX4 := Lib.hid (hap3.toExt (w0 := w) HX3.out (Nat.le_refl _)); have HA3 := Lib.hid hap3; clear hap3))
    all_goals go_wp2
    all_goals
     go_ret
     refine ⟨⟨_, rfl, ?_⟩, HX4.out⟩
     rw [HP.out]
     have h := (OwnK.strs (S' := None) HA3.out.own).list (S' := fun b => S b ∨ w.heap.size ≤ b) (fun b hb => hb.elim) (fun b hb => .inr hb)
     simp only [List.nil_append] at h
     exact h

/-! ### Variables -/
def varsTo (os : List ByteArray) (l : List GT) : List ByteArray := ((l.filter (·.v)).map (·.n)).foldl putS os
theorem varsTo_snoc (os : List ByteArray) (l : List GT) (x : GT) : varsTo os (l ++ [x]) = if x.v then putS (varsTo os l) x.n else varsTo os l := by
 unfold varsTo
 rw [List.filter_append, List.map_append, List.foldl_append]
 cases h : x.v <;> simp [h]
theorem varsTo_len (os : List ByteArray) : ∀ l : List GT, (varsTo os l).length ≤ os.length + l.length := by
 intro l
 unfold varsTo
 generalize hvs : (l.filter (·.v)).map (·.n) = vs
 have hl : vs.length ≤ l.length := by rw [← hvs, List.length_map]; exact List.length_filter_le _ _
 clear hvs
 have key : ∀ (vs os : List ByteArray), (vs.foldl putS os).length ≤ os.length + vs.length := by
  intro vs
  induction vs with
  | nil => intro os; exact Nat.le_refl _
  | cons v vs ih =>
    intro os
    have h1 := ih (putS os v)
    have h2 := putS_len os v
    simp only [List.foldl_cons, List.length_cons]
    omega
 have := key vs os
 omega

set_option maxRecDepth 100000 in
set_option maxHeartbeats 2000000 in
theorem l2Vars_in (a : GA) (v o : Value) (os : List ByteArray) (w : World) {S T : Nat → Prop} (hv : TermsR S w v a.args) (ho : StrsR T w o os) (hn : os.length + a.args.length ≤ 1000000) :
 Calls Tryz.prog 101 #[.agg #[.string a.n, v], o] w fun e w' => (∃ v', e = .returned v' ∧ StrsR (fun b => T b ∨ w.heap.size ≤ b) w' v' (varsPut os a)) ∧ Ext w w' := by
 obtain ⟨A, c, rfl, hc1, hc2⟩ := SliceR.form hv
 have HV := Lib.hid (hv.ext ((Ext.refl w).alloc (.cells #[.string a.n, .slice A a.args.length c] 26)))
 have HO := Lib.hid (StrsR.imp (S' := fun b => T b ∨ w.heap.size ≤ b) ho (fun _ h => .inl h) (.of_ext ((Ext.refl w).alloc (.cells #[.string a.n, .slice A a.args.length c] 26))) (by go_size))
 have HB := Lib.hid (Blk.new w 26 #[.string a.n, .slice A a.args.length c])
 clear hv ho
 go_enter Tryz.func101, Tryz.ntmps101
 go_wp2
 go_loopw [1, 5] (fun o i wr => ∃ k : Nat, k ≤ a.args.length ∧ i = .int .i64 k ∧ Hid (StrsR (fun b => T b ∨ w.heap.size ≤ b) wr o (varsTo os (a.args.take k))) ∧ Ext (w.alloc (.cells #[.string a.n, .slice A a.args.length c] 26)) wr) (fun _ i _ => a.args.length - (intOf i).toNat)
 case atStart => exact ⟨0, Nat.zero_le _, rfl, HO, Ext.refl _⟩
 case round =>
  obtain ⟨k, hk, rfl, ho, hx⟩ := hrel
  have hb1 := HB.out.ext hx
  have q0 := hb1.cell 0
  have q1 := hb1.cell 1
  have hl := hb1.lt
  clear hb1
  obtain ⟨B, d, rfl, hd1, hd2⟩ := SliceR.form ho.out
  obtain ⟨n1, hn1⟩ : ∃ n1, n1 = (varsTo os (a.args.take k)).length := ⟨_, rfl⟩
  have hln := varsTo_len os (a.args.take k)
  rw [List.length_take] at hln
  rw [← hn1] at ho hln ⊢
  by_cases hlt : k < a.args.length
  · obtain ⟨b, off, x, rfl, hb, hxk, hxs, hc0, hc1⟩ := TermsR.at_ (HV.out.ext hx) hlt
    have hstep : varsTo os (a.args.take (k + 1)) = if x.v then putS (varsTo os (a.args.take k)) x.n else varsTo os (a.args.take k) := by
     obtain ⟨hk', rfl⟩ := List.getElem?_eq_some_iff.1 hxk
     rw [List.take_succ_eq_append_getElem hk', varsTo_snoc]
    cases hxv : x.v
    · have HP := Lib.hid (show varsTo os (a.args.take (k + 1)) = varsTo os (a.args.take k) from by rw [hstep, hxv]; rfl)
      rw [hxv] at hc0
      clear hstep hxk hxv hn1
      go_wp2
      go_roundw
      case rel => exact ⟨k + 1, by omega, by go_num, (by rw [HP.out]; exact ho), hx⟩
      case measure => simp [intOf]; omega
    · have HP := Lib.hid (show varsTo os (a.args.take (k + 1)) = putS (varsTo os (a.args.take k)) x.n from by rw [hstep, hxv]; rfl)
      have HL := Lib.hid (show (varsTo os (a.args.take k)).length ≤ 1000000 from by rw [← hn1]; omega)
      rw [hxv] at hc0
      clear hstep hxk hxv hn1
      go_wp2_with (go_at_call 135; refine (l2Put_in _ (varsTo os (a.args.take k)) x.n _ ho.out hxs HL.out).mono ?_; rintro e w1 ⟨⟨v1, rfl, hv1⟩, hx1⟩)
      go_roundw
      case rel => exact ⟨k + 1, by omega, by go_num, Lib.hid (by rw [HP.out]; exact StrsR.imp hv1 (fun b hb => hb.elim id (fun h => .inr (Nat.le_trans (((Ext.refl w).alloc _).trans' hx).size h))) (.refl _ _) (Nat.le_refl _)), hx.trans' hx1⟩
      case measure => simp [intOf]; omega
  · have HP := Lib.hid (show varsTo os (a.args.take k) = varsPut os a from by rw [List.take_of_length_le (by omega)]; rfl)
    clear hn1
    go_wp2
    go_ret
    exact ⟨⟨_, rfl, by rw [← HP.out]; exact ho.out⟩, ((Ext.refl _).alloc _).trans' hx⟩

theorem l2Vars_any (a : GA) (v o : Value) (os : List ByteArray) (w : World) {S T : Nat → Prop} (hv : TermsR S w v a.args) (ho : StrsR T w o os) (hn : os.length + a.args.length ≤ 1000000) :
 Calls Tryz.prog 101 #[.agg #[.string a.n, v], o] w fun e w' => (∃ v', e = .returned v' ∧ StrsR Any w' v' (varsPut os a)) ∧ Ext w w' :=
 (l2Vars_in a v o os w hv ho hn).mono fun e w' ⟨⟨v', h1, h2⟩, h3⟩ => ⟨⟨v', h1, StrsR.imp h2 (fun _ _ => trivial) (.refl _ _) (Nat.le_refl _)⟩, h3⟩

def allTo (o : List ByteArray) (l : List GP) : List ByteArray := l.foldl (fun o p => varsPut o p.atom) o
def boundTo (l : List GP) : List ByteArray := l.foldl (fun o p => if p.no then o else varsPut o p.atom) []
theorem varsPut_len (o : List ByteArray) (a : GA) : (varsPut o a).length ≤ o.length + a.args.length := varsTo_len o a.args

set_option maxRecDepth 100000 in
set_option maxHeartbeats 2000000 in
theorem l2Tight_gen (r : GR) (v u : Value) (w : World) {S T : Nat → Prop} (hs : r.head.n.size ≤ maxLen) (hv : TermsR S w v r.head.args) (hu : PartsR T w u r.body) (hargs : r.head.args.length ≤ 12 ∧ r.body.length ≤ 4 ∧ ∀ p ∈ r.body, p.atom.args.length ≤ 3) :
 Calls Tryz.prog 67 #[.agg #[.string r.head.n, v, u]] w fun e w' => e = .returned (.bool (tightB r)) ∧ Ext w w' := by
 obtain ⟨hh, hbl, hpl⟩ := hargs
 obtain ⟨A, c, rfl, hc1, hc2⟩ := SliceR.form hv
 obtain ⟨B, d, rfl, hd1, hd2⟩ := SliceR.form hu
 have HV := Lib.hid (hv.ext ((Ext.refl w).alloc (.cells #[.string r.head.n, .slice A r.head.args.length c, .slice B r.body.length d] 93)))
 have HU := Lib.hid (hu.ext ((Ext.refl w).alloc (.cells #[.string r.head.n, .slice A r.head.args.length c, .slice B r.body.length d] 93)))
 have HB := Lib.hid (Blk.new w 93 #[.string r.head.n, .slice A r.head.args.length c, .slice B r.body.length d])
 have HPL := Lib.hid hpl
 have htl := tight_len r
 have HT := Lib.hid htl
 have tok : True := trivial
 clear hv hu hpl htl
 go_enter Tryz.func67, Tryz.ntmps67
 go_wp2_with (first
  | (go_at_call 101; refine (l2Vars_any (S := S) (T := Any) r.head _ _ [] _ (HV.out.ext (((Ext.refl _).alloc _).alloc _)) (SliceR.nil_ 0 (Nat.zero_le _) _) (by simp; omega)).mono ?_; rintro e w1 ⟨⟨v1, rfl, hv1⟩, hx1⟩
     have HV1 := Lib.hid hv1
     have HX1 := Lib.hid (((((Ext.refl (w.alloc (.cells #[.string r.head.n, .slice A r.head.args.length c, .slice B r.body.length d] 93)))).alloc (.cells #[] 9)).alloc (.cells #[] 9)).trans' hx1)
     clear hv1 hx1))
 go_loopw [3, 4, 5] (fun bo al i wr => ∃ k : Nat, k ≤ r.body.length ∧ i = .int .i64 k ∧ Hid (StrsR Any wr al (allTo (varsPut [] r.head) (r.body.take k))) ∧ Hid (StrsR Any wr bo (boundTo (r.body.take k))) ∧ Hid ((allTo (varsPut [] r.head) (r.body.take k)).length ≤ 12 + 3 * k ∧ (boundTo (r.body.take k)).length ≤ 3 * k) ∧ Ext (w.alloc (.cells #[.string r.head.n, .slice A r.head.args.length c, .slice B r.body.length d] 93)) wr) (fun _ _ i _ => r.body.length - (intOf i).toNat)
 case atStart => exact ⟨0, Nat.zero_le _, rfl, HV1, Lib.hid (SliceR.nil_ 0 (Nat.zero_le _) _), Lib.hid ⟨by have := varsPut_len [] r.head; show (varsPut [] r.head).length ≤ _; simp at this; omega, Nat.zero_le _⟩, HX1.out⟩
 case round =>
  obtain ⟨k, hk, rfl, hal, hbo, hlen, hx⟩ := hrel
  have hb1 := HB.out.ext hx
  have q0 := hb1.cell 0
  have q1 := hb1.cell 1
  have q2 := hb1.cell 2
  have hl := hb1.lt
  clear hb1
  obtain ⟨C, e, rfl, he1, he2⟩ := SliceR.form hal.out
  obtain ⟨D, f, rfl, hf1, hf2⟩ := SliceR.form hbo.out
  obtain ⟨n1, hn1⟩ : ∃ n1, n1 = (allTo (varsPut [] r.head) (r.body.take k)).length := ⟨_, rfl⟩
  obtain ⟨m1, hm1⟩ : ∃ m1, m1 = (boundTo (r.body.take k)).length := ⟨_, rfl⟩
  rw [← hn1, ← hm1] at hlen
  rw [← hn1] at hal ⊢
  rw [← hm1] at hbo ⊢
  by_cases hlt : k < r.body.length
  · obtain ⟨b, off, x, y, rfl, hb, hxk, hxs, htx, p0, p1, p2⟩ := PartsR.at_ (HU.out.ext hx) hlt
    obtain ⟨E, g, rfl, hg1, hg2⟩ := SliceR.form htx
    have hx3 := HPL.out x (List.mem_of_getElem? hxk)
    have hst : r.body.take (k + 1) = r.body.take k ++ [x] := by
     obtain ⟨hk', rfl⟩ := List.getElem?_eq_some_iff.1 hxk
     exact List.take_succ_eq_append_getElem hk'
    have hA1 : allTo (varsPut [] r.head) (r.body.take (k + 1)) = varsPut (allTo (varsPut [] r.head) (r.body.take k)) x.atom := by
     unfold allTo; rw [hst, List.foldl_append]; rfl
    have hB1 : boundTo (r.body.take (k + 1)) = if x.no then boundTo (r.body.take k) else varsPut (boundTo (r.body.take k)) x.atom := by
     unfold boundTo; rw [hst, List.foldl_append]; rfl
    have HT1 := Lib.hid htx
    have HA1 := Lib.hid hA1
    have HN1 := Lib.hid hn1
    have HM1 := Lib.hid hm1
    clear hxk htx hst hA1 hn1 hm1
    cases hno : x.no
    · have HBB := Lib.hid (show boundTo (r.body.take (k + 1)) = varsPut (boundTo (r.body.take k)) x.atom from by rw [hB1, hno]; rfl)
      rw [hno] at p0
      clear hB1 hno
      go_wp2_with (first
       | (go_at_call 101; have _t := tok; refine (l2Vars_any (T := Any) x.atom _ _ (allTo (varsPut [] r.head) (r.body.take k)) _ HT1.out hal.out (by have h := hlen.out; have h2 := HN1.out; omega)).mono ?_; clear tok _t; rintro e w1 ⟨⟨v1, rfl, hv1⟩, hx1⟩
          have HV2 := Lib.hid hv1
          have HX2 := Lib.hid hx1
          obtain ⟨hcc, hcf⟩ := hx1.cells
          have hz1 := hx1.size
          clear hv1)
       | (go_at_call 101; refine (l2Vars_any (T := Any) x.atom _ _ (boundTo (r.body.take k)) _ (HT1.out.ext HX2.out) (StrsR.imp hbo.out (fun _ h => h) (.of_ext HX2.out) HX2.out.size) (by have h := hlen.out; have h2 := HM1.out; omega)).mono ?_; rintro e w2 ⟨⟨v2, rfl, hv2⟩, hx2⟩
          have HV3 := Lib.hid hv2
          have HX3 := Lib.hid hx2
          clear hv2))
      go_roundw
      case rel =>
       have h1 := varsPut_len (allTo (varsPut [] r.head) (r.body.take k)) x.atom
       have h2 := varsPut_len (boundTo (r.body.take k)) x.atom
       have h3 := hlen.out
       have h4 := HN1.out
       have h5 := HM1.out
       exact ⟨k + 1, by omega, by go_num, Lib.hid (by rw [HA1.out]; exact StrsR.imp HV2.out (fun _ h => h) (.of_ext HX3.out) HX3.out.size), Lib.hid (by rw [HBB.out]; exact HV3.out), Lib.hid ⟨by rw [HA1.out]; omega, by rw [HBB.out]; omega⟩, (hx.trans' HX2.out).trans' HX3.out⟩
      case measure => simp [intOf]; omega
    · have HBB := Lib.hid (show boundTo (r.body.take (k + 1)) = boundTo (r.body.take k) from by rw [hB1, hno]; rfl)
      rw [hno] at p0
      clear hB1 hno
      go_wp2_with (first
       | (go_at_call 101; refine (l2Vars_any (T := Any) x.atom _ _ (allTo (varsPut [] r.head) (r.body.take k)) _ HT1.out hal.out (by have h := hlen.out; have h2 := HN1.out; omega)).mono ?_; rintro e w1 ⟨⟨v1, rfl, hv1⟩, hx1⟩
          have HV2 := Lib.hid hv1
          have HX2 := Lib.hid hx1
          obtain ⟨hcc, hcf⟩ := hx1.cells
          have hz1 := hx1.size
          clear hv1))
      go_roundw
      case rel =>
       have h1 := varsPut_len (allTo (varsPut [] r.head) (r.body.take k)) x.atom
       have h3 := hlen.out
       have h4 := HN1.out
       have h5 := HM1.out
       exact ⟨k + 1, by omega, by go_num, Lib.hid (by rw [HA1.out]; exact HV2.out), Lib.hid (by rw [HBB.out]; exact StrsR.imp hbo.out (fun _ h => h) (.of_ext HX2.out) HX2.out.size), Lib.hid ⟨by rw [HA1.out]; omega, by rw [HBB.out]; omega⟩, hx.trans' HX2.out⟩
      case measure => simp [intOf]; omega
  · have hall : r.body.take k = r.body := List.take_of_length_le (by omega)
    rw [hall] at hn1 hm1
    have HF := Lib.hid (show tightB r = (n1 == m1) from by rw [HT.out, hn1, hm1]; rfl)
    clear hn1 hm1 hlen hal hbo hall
    go_wp2
    go_ret
    refine ⟨ret_bool ?_, ((Ext.refl _).alloc _).trans' hx⟩
    rw [HF.out, Bool.eq_iff_iff]
    simp
    omega

theorem l2Tight_any (r : GR) (v u : Value) (w : World) {S T : Nat → Prop} (hs : r.head.n.size ≤ maxLen) (hv : TermsR S w v r.head.args) (hu : PartsR T w u r.body) (hok : ruleOkB r = true) :
 Calls Tryz.prog 67 #[.agg #[.string r.head.n, v, u]] w fun e w' => e = .returned (.bool (tightB r)) ∧ Ext w w' := by
 refine l2Tight_gen r v u w hs hv hu ?_
 unfold ruleOkB at hok
 simp only [Bool.and_eq_true, List.all_eq_true, decide_eq_true_eq] at hok
 have h1 := (atom_parts hok.2.1).2.1
 exact ⟨by omega, hok.2.2, fun p hp => (atom_parts (hok.1 p hp)).2.1⟩

end Go.Proofs.YtfjdijakgjhieaaGreat

namespace Go.Proofs.YtfjdijakgjhieaaGreat
set_option linter.unusedSimpArgs false
set_option linter.unusedVariables false
open Go.RowKit

set_option maxRecDepth 100000 in
theorem nan_any (x : ByteArray) (w : World) : Calls Tryz.prog 159 #[.string x] w fun e w' => e = .returned (.bool false) ∧ w' = w := by
 have e : (!x.toList == x.toList) = false := by simp
 go_enter Tryz.func159, Tryz.ntmps159
 go_wp2
 go_ret
 first
  | exact ⟨rfl, rfl⟩
  | (refine ⟨?_, rfl⟩; simp)

set_option maxRecDepth 100000 in
theorem less_any (x y : ByteArray) (w : World) : Calls Tryz.prog 170 #[.string x, .string y] w fun e w' => e = .returned (.bool (Op.bytesLess x.toList y.toList)) ∧ w' = w := by
 have tok : True := trivial
 go_enter Tryz.func170, Tryz.ntmps170
 go_wp2_with (first | (go_at_call 159; refine (nan_any _ _).mono ?_; rintro e w1 ⟨rfl, e1⟩; obtain rfl : w = w1 := e1.symm) | fail)
 go_ret
 exact ⟨rfl, rfl⟩

theorem asc_less {xs : List ByteArray} (ha : AscS xs) {i k : Nat} {s x : ByteArray} (hi : xs[i]? = some s) (hk : xs[k]? = some x) : Op.bytesLess x.toList s.toList = decide (k < i) := by
 rw [ltS_less]
 obtain ⟨h1, rfl⟩ := List.getElem?_eq_some_iff.1 hi
 obtain ⟨h2, rfl⟩ := List.getElem?_eq_some_iff.1 hk
 rcases Nat.lt_trichotomy k i with h | h | h
 · rw [decide_eq_true h]; exact List.pairwise_iff_getElem.1 ha k i h2 h1 h
 · subst h; rw [decide_eq_false (by omega)]
   exact ltS_irr _
 · rw [decide_eq_false (by omega)]
   have := List.pairwise_iff_getElem.1 ha i k h1 h2 h
   cases hh : ltS xs[k] xs[i] with
   | false => rfl
   | true => have h3 := ltS_trans hh this; rw [ltS_irr] at h3; cases h3

set_option maxRecDepth 100000 in
set_option maxHeartbeats 4000000 in
theorem binSearch_any (xs : List ByteArray) (v : Value) (s : ByteArray) (i : Nat) (w : World) {V : Nat → Prop} (h : StrsR V w v xs) (ha : AscS xs) (hi : xs[i]? = some s) (hl : xs.length ≤ 4294967296) :
 Calls Tryz.prog 178 #[v, .string s] w fun e w' => e = .returned (.tuple #[.int .i64 (i : Int), .bool true]) ∧ w' = w := by
 obtain ⟨A, c, rfl, hc1, hc2⟩ := SliceR.form h
 have hil : i < xs.length := (List.getElem?_eq_some_iff.1 hi).1
 have HS := Lib.hid h
 have HA := Lib.hid ha
 have HI := Lib.hid hi
 clear h ha hi
 go_enter Tryz.func178, Tryz.ntmps178
 go_wp2_with fail
 go_loopw [7, 8, 9] (fun a b m wr => ∃ lo hi : Nat, a = .int .i64 lo ∧ b = .int .i64 hi ∧ lo ≤ i ∧ i ≤ hi ∧ hi ≤ xs.length ∧ wr = w) (fun a b _ _ => (intOf b - intOf a).toNat)
 case atStart => exact ⟨0, xs.length, rfl, rfl, Nat.zero_le _, by omega, Nat.le_refl _, rfl⟩
 case round =>
  obtain ⟨lo, hi, rfl, rfl, h1, h2, h3, rfl⟩ := hrel
  by_cases hlt : lo < hi
  · have hlt1 : (lo : Int) < (hi : Int) := by omega
    have hm1 : (lo + hi) / 2 < xs.length := by omega
    obtain ⟨b, o, x, rfl, hb, hx, _, hcell⟩ := StrsR.at_ HS.out hm1
    have hls := asc_less HA.out HI.out hx
    by_cases hm : (lo + hi) / 2 < i
    · rw [decide_eq_true hm] at hls
      have HM := Lib.hid hm
      have hm0 : (((lo + hi) / 2 : Nat) : Int) = ((lo : Int) + (hi : Int)) / 2 := by omega
      have HM0 := Lib.hid hm0
      clear hm hm0
      go_wp2_with (first | (go_at_call 170; refine (less_any _ _ _).mono ?_; rintro e w1 ⟨rfl, e1⟩; obtain rfl : wr = w1 := e1.symm) | fail)
      have hm := HM.out
      have hm0 := HM0.out
      go_roundw
      case rel => exact ⟨(lo + hi) / 2 + 1, hi, congrArg _ (by omega), rfl, by omega, h2, h3, trivial⟩
      case measure => simp [intOf]; omega
    · rw [decide_eq_false hm] at hls
      have HM := Lib.hid hm
      have hm0 : (((lo + hi) / 2 : Nat) : Int) = ((lo : Int) + (hi : Int)) / 2 := by omega
      have HM0 := Lib.hid hm0
      clear hm hm0
      go_wp2_with (first | (go_at_call 170; refine (less_any _ _ _).mono ?_; rintro e w1 ⟨rfl, e1⟩; obtain rfl : wr = w1 := e1.symm) | fail)
      have hm := HM.out
      have hm0 := HM0.out
      go_roundw
      case rel => exact ⟨lo, (lo + hi) / 2, rfl, congrArg _ (by omega), h1, by omega, by omega, trivial⟩
      case measure => simp [intOf]; omega
  · have hlt1 : ¬ (lo : Int) < (hi : Int) := by omega
    obtain rfl : lo = hi := by omega
    obtain rfl : lo = i := by omega
    have hi1 : (lo : Int) < (xs.length : Int) := by omega
    obtain ⟨b, o, x, rfl, hb, hx, _, hcell⟩ := StrsR.at_ HS.out hil
    obtain rfl : x = s := Option.some.inj (hx.symm.trans HI.out)
    have e1 : (x.toList == x.toList) = true := by simp
    go_wp2_with fail
    go_ret2
    exact ⟨rfl, rfl⟩

end Go.Proofs.YtfjdijakgjhieaaGreat

namespace Go.Proofs
open Go.Shelf
def Tryz.lays190_ren : Go.Shelf.Ren := ⟨fun | 190 => 102 | 125 => 116 | 258 => 136 | 128 => 157 | 129 => 158 | 302 => 164 | 303 => 165 | 304 => 166 | 305 => 167 | 306 => 168 | 307 => 169 | 308 => 170 | 309 => 171 | 310 => 172 | 333 => 190 | 329 => 186 | 330 => 187 | 334 => 191 | 335 => 192 | 336 => 159 | 344 => 205 | n => n, fun | 31 => 56 | 9 => 9 | 3 => 3 | 46 => 155 | 0 => 0 | 51 => 201 | 53 => 203 | 4 => 4 | 183 => 195 | 182 => 194 | 131 => 101 | 5 => 5 | 218 => 226 | 222 => 230 | 228 => 246 | 229 => 247 | n => n, fun | n => n⟩
theorem Tryz.lays190 : Go.Proofs.Lays.n190 Tryz.prog Tryz.lays190_ren := {
 mixed := by kernel_rfl
 f125 := Tryz.func116.trans (congrArg some (by kernel_rfl))
 f128 := Tryz.func157.trans (congrArg some (by kernel_rfl))
 f129 := Tryz.func158.trans (congrArg some (by kernel_rfl))
 f190 := Tryz.func102.trans (congrArg some (by kernel_rfl))
 f258 := Tryz.func136.trans (congrArg some (by kernel_rfl))
 f302 := Tryz.func164.trans (congrArg some (by kernel_rfl))
 f303 := Tryz.func165.trans (congrArg some (by kernel_rfl))
 f304 := Tryz.func166.trans (congrArg some (by kernel_rfl))
 f305 := Tryz.func167.trans (congrArg some (by kernel_rfl))
 f306 := Tryz.func168.trans (congrArg some (by kernel_rfl))
 f307 := Tryz.func169.trans (congrArg some (by kernel_rfl))
 f308 := Tryz.func170.trans (congrArg some (by kernel_rfl))
 f309 := Tryz.func171.trans (congrArg some (by kernel_rfl))
 f310 := Tryz.func172.trans (congrArg some (by kernel_rfl))
 f329 := Tryz.func186.trans (congrArg some (by kernel_rfl))
 f330 := Tryz.func187.trans (congrArg some (by kernel_rfl))
 f333 := Tryz.func190.trans (congrArg some (by kernel_rfl))
 f334 := Tryz.func191.trans (congrArg some (by kernel_rfl))
 f335 := Tryz.func192.trans (congrArg some (by kernel_rfl))
 f336 := Tryz.func159.trans (congrArg some (by kernel_rfl))
 f344 := Tryz.func205.trans (congrArg some (by kernel_rfl))
 t0 := Tryz.underlying0
 a0 := Tryz.isAgg0
 z0 := Tryz.sizeOf0
 v0 := Tryz.zeroValue0
 t3 := Tryz.underlying3
 a3 := Tryz.isAgg3
 z3 := Tryz.sizeOf3
 v3 := Tryz.zeroValue3
 t4 := Tryz.underlying4
 a4 := Tryz.isAgg4
 z4 := Tryz.sizeOf4
 v4 := Tryz.zeroValue4
 t5 := Tryz.underlying5
 a5 := Tryz.isAgg5
 z5 := Tryz.sizeOf5
 v5 := Tryz.zeroValue5
 t9 := Tryz.underlying9
 a9 := Tryz.isAgg9
 z9 := Tryz.sizeOf9
 v9 := Tryz.zeroValue9
 t31 := Tryz.underlying56
 a31 := Tryz.isAgg56
 z31 := Tryz.sizeOf56
 v31 := Tryz.zeroValue56
 t46 := Tryz.underlying155
 a46 := Tryz.isAgg155
 z46 := Tryz.sizeOf155
 v46 := Tryz.zeroValue155
 t51 := Tryz.underlying201
 a51 := Tryz.isAgg201
 z51 := Tryz.sizeOf201
 v51 := Tryz.zeroValue201
 t53 := Tryz.underlying203
 a53 := Tryz.isAgg203
 z53 := Tryz.sizeOf203
 v53 := Tryz.zeroValue203
 t131 := Tryz.underlying101
 a131 := Tryz.isAgg101
 z131 := Tryz.sizeOf101
 v131 := Tryz.zeroValue101
 t182 := Tryz.underlying194
 a182 := Tryz.isAgg194
 z182 := Tryz.sizeOf194
 v182 := Tryz.zeroValue194
 t183 := Tryz.underlying195
 a183 := Tryz.isAgg195
 z183 := Tryz.sizeOf195
 v183 := Tryz.zeroValue195
 t218 := Tryz.underlying226
 a218 := Tryz.isAgg226
 z218 := Tryz.sizeOf226
 v218 := Tryz.zeroValue226
 t222 := Tryz.underlying230
 a222 := Tryz.isAgg230
 z222 := Tryz.sizeOf230
 v222 := Tryz.zeroValue230
 t228 := Tryz.underlying246
 a228 := Tryz.isAgg246
 z228 := Tryz.sizeOf246
 v228 := Tryz.zeroValue246
 t229 := Tryz.underlying247
 a229 := Tryz.isAgg247
 z229 := Tryz.sizeOf247
 v229 := Tryz.zeroValue247 }
open Go.Sort Go.RowKit in
theorem Tryz.slices_Sort_string (blk off cap : Nat) (ss : List (List UInt8)) (w : World) (hH : Holds encStr w blk off ss.toArray) (hblk : blk < w.heap.size) (hsz : ss.length < 4611686018427387904) :
 Calls Tryz.prog 102 #[.slice (some ⟨blk, off, none⟩) ss.length cap] w fun e w' =>
  e = .returned (.tuple #[]) ∧ ∃ n os, w' = grow (putRow encStr (Sort.ahead w n) blk off (ss.mergeSort fun x y => decide (x ≤ y)).toArray) os := Any.slices_Sort_string Tryz.lays190 blk off cap ss w hH hblk hsz
def Tryz.lays194_ren : Go.Shelf.Ren := ⟨fun | 194 => 103 | n => n, fun | 31 => 56 | 9 => 9 | 3 => 3 | 4 => 4 | 0 => 0 | n => n, fun | n => n⟩
theorem Tryz.lays194 : Go.Proofs.Lays.n194 Tryz.prog Tryz.lays194_ren := {
 mixed := by kernel_rfl
 f194 := Tryz.func103.trans (congrArg some (by kernel_rfl))
 t0 := Tryz.underlying0
 a0 := Tryz.isAgg0
 z0 := Tryz.sizeOf0
 v0 := Tryz.zeroValue0
 t3 := Tryz.underlying3
 a3 := Tryz.isAgg3
 z3 := Tryz.sizeOf3
 v3 := Tryz.zeroValue3
 t4 := Tryz.underlying4
 a4 := Tryz.isAgg4
 z4 := Tryz.sizeOf4
 v4 := Tryz.zeroValue4
 t9 := Tryz.underlying9
 a9 := Tryz.isAgg9
 z9 := Tryz.sizeOf9
 v9 := Tryz.zeroValue9
 t31 := Tryz.underlying56
 a31 := Tryz.isAgg56
 z31 := Tryz.sizeOf56
 v31 := Tryz.zeroValue56 }
open Go.RowKit Go.Lib Go.Sort in
/-- slices.Compact at []string: "Compact replaces consecutive runs of equal elements with a single copy. This is like the uniq command found on Unix. Compact modifies the contents of the slice s and returns the modified slice, which may have a smaller length. Compact zeroes the elements between the new length and the original length. The result preserves the nilness of s.": IT RETURNS THE SLICE CUT TO 'Lib.compact zs'; ITS CELLS HOLD 'Lib.compact zs', THEN ZERO VALUES up to the old length; all else is as it was, but for the count of draws. IN THE WORDS OF slices.Sort's CONTRACT ('Holds', 'putRow'): so the everyday 'slices.Sort(xs); xs = slices.Compact(xs)' goes from the one contract to the other. It asks 'zs.length ≤ cap' (every slice's: the reslicing 's[:k]' looks at it). Length 0, nil: '.._empty'. (LAID: no walk: one application.) -/
theorem Tryz.slices_Compact_string (blk off cap : Nat) (zs : List (List UInt8)) (w : World) (hH : Holds encStr w blk off zs.toArray) (hsz : zs.length ≤ 9223372036854775807) (hcap : zs.length ≤ cap) :
 Calls Tryz.prog 103 #[.slice (some ⟨blk, off, none⟩) zs.length cap] w fun e w' => e = .returned (.slice (some ⟨blk, off, none⟩) (Lib.compact zs).length cap) ∧ ∃ q, w' = putRow encStr (Sort.ahead w q) blk off (Lib.compact zs ++ List.replicate (zs.length - (Lib.compact zs).length) []).toArray := Any.slices_Compact_string Tryz.lays194 blk off cap zs w hH hsz hcap
open Go.RowKit Go.Lib Go.Sort in
/-- The same at a slice of length 0, a nil one too: it comes back as it is. (LAID: no walk: one application.) -/
theorem Tryz.slices_Compact_string_empty (a : Option Addr) (cap : Nat) (w : World) :
 Calls Tryz.prog 103 #[.slice a 0 cap] w fun e w' => e = .returned (.slice a 0 cap) ∧ w' = w := Any.slices_Compact_string_empty Tryz.lays194 a cap w
open Go.RowKit Go.Sort in
/-- .. and plain. (LAID: no walk: one application.) -/
theorem Tryz.slices_Sort_string_none (p : Option Addr) (cap : Nat) (w : World) :
 Calls Tryz.prog 102 #[.slice p 0 cap] w fun e w' => e = .returned (.tuple #[]) ∧ w' = w := Any.slices_Sort_string_none Tryz.lays190 p cap w
end Go.Proofs

namespace Go.Proofs.YtfjdijakgjhieaaGreat
set_option linter.unusedSimpArgs false
set_option linter.unusedVariables false
open Go.RowKit

/-- All variables of a body, ascending. -/
def varsN (body : List GP) : List ByteArray := body.foldl (fun o p => varsPut o p.atom) []
theorem varsN_asc (body : List GP) : AscS (varsN body) := (all_fold body [] List.Pairwise.nil).1
theorem varsN_mem {body : List GP} {x : ByteArray} : x ∈ varsN body ↔ ∃ p ∈ body, x ∈ varsOf p.atom := by
 unfold varsN
 rw [(all_fold body [] List.Pairwise.nil).2]
 simp
def bodyTight (body : List GP) : Bool := body.all fun p => (varsOf p.atom).all (boundIn body)
def askOkB (body : List GP) : Bool := decide (1 ≤ body.length ∧ body.length ≤ 4) && (body.all fun p => atomOkB p.atom) && bodyTight body
theorem varsOf_mem {a : GA} {x : ByteArray} : x ∈ varsOf a ↔ ∃ t ∈ a.args, t.v = true ∧ t.n = x := by
 unfold varsOf
 simp only [List.mem_map, List.mem_filter]
 constructor
 · rintro ⟨t, ⟨h1, h2⟩, h3⟩; exact ⟨t, h1, h2, h3⟩
 · rintro ⟨t, h1, h2, h3⟩; exact ⟨t, ⟨h1, h2⟩, h3⟩
theorem nameOk_word {s : ByteArray} (h : nameOkB s = true) : isNo s = false := by
 unfold nameOkB lettersB inB at h
 simp only [Bool.and_eq_true, decide_eq_true_eq] at h
 unfold isNo
 refine decide_eq_false fun e => ?_
 have := h.1.2.1
 rw [e] at this
 omega
theorem varOk_word {s : ByteArray} (h : varOkB s = true) : isNo s = false := by
 unfold varOkB at h
 simp only [Bool.and_eq_true] at h
 unfold isNo
 refine decide_eq_false fun e => ?_
 have h1 := h.1.1
 unfold capB at h1
 have : s.data.toList = [] := List.eq_nil_of_length_eq_zero (by simpa using e)
 rw [this] at h1
 cases h1
theorem termOk_word {t : GT} (h : termOkB t = true) : isNo t.n = false := by
 unfold termOkB at h
 split at h
 · exact varOk_word h
 · exact nameOk_word h
theorem atomOk_word {a : GA} (h : atomOkB a = true) : ∀ t ∈ a.args, isNo t.n = false := fun t ht => by
 unfold atomOkB at h
 simp only [Bool.and_eq_true] at h
 exact termOk_word (List.all_eq_true.1 h.2 t ht)
theorem fact_ok {a : GA} (h : factB a = true) : okFact a := fun t ht => by
 unfold factB at h
 simp only [Bool.and_eq_true] at h
 have h2 := List.all_eq_true.1 h.2 t ht
 exact ⟨by simpa using h2, atomOk_word h.1 t ht⟩
theorem flat_small {body : List GP} (h : ∀ p ∈ body, p.atom.args.length ≤ 3) : (body.flatMap fun p => varsOf p.atom).length ≤ 3 * body.length := by
 induction body with
 | nil => simp
 | cons p body ih =>
   have h1 := ih (fun q hq => h q (List.mem_cons_of_mem _ hq))
   have h2 := h p (by simp)
   have h3 : (varsOf p.atom).length ≤ p.atom.args.length := by
    unfold varsOf
    rw [List.length_map]
    exact List.length_filter_le _ _
   rw [List.flatMap_cons, List.length_append, List.length_cons]
   omega
theorem askOk_parts {body : List GP} (h : askOkB body = true) : 1 ≤ body.length ∧ body.length ≤ 4 ∧ (∀ p ∈ body, atomOkB p.atom = true) ∧ bodyTight body = true := by
 unfold askOkB at h
 simp only [Bool.and_eq_true, decide_eq_true_eq] at h
 exact ⟨h.1.1.1, h.1.1.2, List.all_eq_true.1 h.1.2, h.2⟩
theorem atomOk_few {a : GA} (h : atomOkB a = true) : a.args.length ≤ 3 := by
 unfold atomOkB at h
 simp only [Bool.and_eq_true, decide_eq_true_eq] at h
 exact h.1.2
theorem varsN_few {body : List GP} (h : ∀ p ∈ body, p.atom.args.length ≤ 3) (hb : body.length ≤ 4) : (varsN body).length ≤ 12 := by
 have h1 := nodup_len (varsN body) (body.flatMap fun p => varsOf p.atom) (varsN_asc body).nodup (fun x hx => by
  obtain ⟨p, hp, hx⟩ := varsN_mem.1 hx
  exact List.mem_flatMap.2 ⟨p, hp, hx⟩)
 have h2 := flat_small h
 omega
theorem askable {body : List GP} (h : askOkB body = true) : Askable body (varsN body) := by
 obtain ⟨h1, h2, h3, h4⟩ := askOk_parts h
 refine ⟨(varsN_asc body).nodup, varsN_few (fun p hp => atomOk_few (h3 p hp)) h2, fun p hp t ht hv => varsN_mem.2 ⟨p, hp, varsOf_mem.2 ⟨t, ht, hv, rfl⟩⟩, fun x hx => ?_, fun p hp t ht _ => atomOk_word (h3 p hp) t ht⟩
 obtain ⟨p, hp, hx⟩ := varsN_mem.1 hx
 unfold bodyTight at h4
 have h5 := List.all_eq_true.1 (List.all_eq_true.1 h4 p hp) x hx
 unfold boundIn at h5
 obtain ⟨q, hq, h6⟩ := List.any_eq_true.1 h5
 simp only [Bool.and_eq_true, Bool.not_eq_true'] at h6
 obtain ⟨t, ht, hv, hn⟩ := varsOf_mem.1 (memS_iff.1 h6.2)
 exact ⟨q, hq, h6.1, t, ht, hv, hn⟩

end Go.Proofs.YtfjdijakgjhieaaGreat

namespace Go.Proofs.YtfjdijakgjhieaaGreat
set_option linter.unusedSimpArgs false
set_option linter.unusedVariables false
open Go.RowKit

/-- Variables of terms, as they come. -/
def termVars (ts : List GT) : List ByteArray := (ts.filter (·.v)).map (·.n)
def flatVars (ps : List GP) : List ByteArray := ps.flatMap fun p => termVars p.atom.args
theorem flatVars_mem {ps : List GP} {x : ByteArray} : x ∈ flatVars ps ↔ x ∈ varsN ps := by
 rw [varsN_mem]
 unfold flatVars
 rw [List.mem_flatMap]
 exact Iff.rfl

theorem lt_word (x y : List UInt8) : x < y ↔ ltS (strOf x) (strOf y) = true := by
 rw [← ltS_less, bytesLess_eq, decide_eq_true_iff, ByteArray.toList_eq, ByteArray.toList_eq]
 exact Iff.rfl
theorem le_word (x y : List UInt8) : x ≤ y ↔ ltS (strOf y) (strOf x) = false := by
 rw [← Bool.not_eq_true, ← lt_word]
 exact Iff.rfl
theorem strOf_inj {x y : List UInt8} (h : strOf x = strOf y) : x = y := by
 have := congrArg (fun b : ByteArray => b.data.toList) h
 simpa [strOf] using this
theorem lt_of_le_ne {x y : List UInt8} (h : x ≤ y) (hn : x ≠ y) : x < y := by
 rw [lt_word]
 exact ltS_other ((le_word x y).1 h) (fun e => hn (strOf_inj e).symm)
theorem le_trans_word {x y z : List UInt8} (h : x ≤ y) (k : y ≤ z) : x ≤ z := by
 rw [le_word]
 cases hh : ltS (strOf z) (strOf x) with
 | false => rfl
 | true =>
   by_cases e : y = z
   · subst e; rw [le_word] at h; rw [h] at hh; cases hh
   · have h1 := (lt_word _ _).1 (lt_of_le_ne k e)
     have h2 := ltS_trans h1 hh
     rw [le_word] at h; rw [h] at h2; cases h2
theorem le_total_word (x y : List UInt8) : x ≤ y ∨ y ≤ x := by
 rw [le_word, le_word]
 cases h1 : ltS (strOf y) (strOf x) with
 | false => exact .inl rfl
 | true =>
   refine .inr ?_
   cases h2 : ltS (strOf x) (strOf y) with
   | false => rfl
   | true => have := ltS_trans h1 h2; rw [ltS_irr] at this; cases this

theorem comp_is {d : Array (List UInt8)} (hs : ∀ i j, i ≤ j → j < d.size → d[i]! ≤ d[j]!) : ∀ m, m ≤ d.size → (∀ x, x ∈ Lib.compactUpTo d m ↔ ∃ j, j < m ∧ d[j]! = x) ∧ (Lib.compactUpTo d m).Pairwise (· < ·)
 | 0, _ => ⟨fun x => ⟨fun h => by simp [Lib.compactUpTo] at h, fun ⟨j, h, _⟩ => absurd h (Nat.not_lt_zero _)⟩, by simp [Lib.compactUpTo]⟩
 | m + 1, hm => by
   obtain ⟨h1, h2⟩ := comp_is hs m (by omega)
   rw [Lib.compactUpTo_succ]
   by_cases hk : Lib.keeps d m = true
   · rw [if_pos hk]
     refine ⟨fun x => ?_, ?_⟩
     · rw [List.mem_append, h1, List.mem_singleton]
       constructor
       · rintro (⟨j, hj, rfl⟩ | rfl)
         · exact ⟨j, by omega, rfl⟩
         · exact ⟨m, by omega, rfl⟩
       · rintro ⟨j, hj, rfl⟩
         by_cases e : j = m
         · subst e; exact .inr rfl
         · exact .inl ⟨j, by omega, rfl⟩
     · refine List.pairwise_append.2 ⟨h2, List.pairwise_singleton _ _, fun a ha b hb => ?_⟩
       obtain ⟨j, hj, rfl⟩ := (h1 a).1 ha
       rw [List.mem_singleton] at hb; subst hb
       have hne : d[m]! ≠ d[m - 1]! := by
        unfold Lib.keeps at hk
        rcases of_decide_eq_true hk with h0 | h0
        · omega
        · exact h0
       have a1 := hs j (m - 1) (by omega) (by omega)
       have a2 := lt_of_le_ne (hs (m - 1) m (by omega) (by omega)) (fun e => hne e.symm)
       by_cases e : d[j]! = d[m - 1]!
       · rw [e]; exact a2
       · exact (lt_word _ _).2 (ltS_trans ((lt_word _ _).1 (lt_of_le_ne a1 e)) ((lt_word _ _).1 a2))
   · have hk' : Lib.keeps d m = false := by simpa using hk
     rw [if_neg hk, List.append_nil]
     refine ⟨fun x => ?_, h2⟩
     rw [h1]
     constructor
     · rintro ⟨j, hj, rfl⟩; exact ⟨j, by omega, rfl⟩
     · rintro ⟨j, hj, rfl⟩
       by_cases e : j = m
       · subst e
         unfold Lib.keeps at hk'
         have h0 := of_decide_eq_false hk'
         have h3 : j ≠ 0 := fun e => h0 (.inl e)
         have h4 : d[j]! = d[j - 1]! := Classical.byContradiction fun e => h0 (.inr e)
         exact ⟨j - 1, by omega, h4.symm⟩
       · exact ⟨j, by omega, rfl⟩

def sortW (zs : List (List UInt8)) : List (List UInt8) := zs.mergeSort fun x y => decide (x ≤ y)
theorem sortW_sorted (zs : List (List UInt8)) : (sortW zs).Pairwise fun x y => x ≤ y := by
 have h := List.pairwise_mergeSort (le := fun x y : List UInt8 => decide (x ≤ y)) (fun a b c h1 h2 => decide_eq_true (le_trans_word (of_decide_eq_true h1) (of_decide_eq_true h2)))
  (fun a b => by rcases le_total_word a b with h | h <;> simp [h]) zs
 exact h.imp fun h => of_decide_eq_true h
theorem compact_sorted (zs : List (List UInt8)) : (∀ x, x ∈ Lib.compact (sortW zs) ↔ x ∈ zs) ∧ (Lib.compact (sortW zs)).Pairwise (· < ·) := by
 have hs : ∀ i j, i ≤ j → j < (sortW zs).toArray.size → (sortW zs).toArray[i]! ≤ (sortW zs).toArray[j]! := by
  intro i j hij hj
  have hj' : j < (sortW zs).length := by simpa using hj
  have hi' : i < (sortW zs).length := by omega
  have e1 : (sortW zs).toArray[i]! = (sortW zs)[i] := by simp [getElem!_pos, hi']
  have e2 : (sortW zs).toArray[j]! = (sortW zs)[j] := by simp [getElem!_pos, hj']
  rw [e1, e2]
  by_cases e : i = j
  · subst e; rw [le_word]; exact ltS_irr _
  · exact List.pairwise_iff_getElem.1 (sortW_sorted zs) i j hi' hj' (by omega)
 obtain ⟨h1, h2⟩ := comp_is hs (sortW zs).length (by simp)
 refine ⟨fun x => ?_, h2⟩
 have h3 : x ∈ Lib.compact (sortW zs) ↔ _ := h1 x
 have hp : x ∈ sortW zs ↔ x ∈ zs := (List.mergeSort_perm zs fun x y => decide (x ≤ y)).mem_iff
 rw [h3, ← hp]
 have e : ∀ j (hj : j < (sortW zs).length), (sortW zs).toArray[j]! = (sortW zs)[j] := fun j hj => by simp [getElem!_pos, hj]
 constructor
 · rintro ⟨j, hj, rfl⟩
   rw [e j hj]; exact List.getElem_mem hj
 · intro hx
   obtain ⟨j, hj, rfl⟩ := List.getElem_of_mem hx
   exact ⟨j, hj, e j hj⟩
theorem compact_vars (ps : List GP) : (Lib.compact (sortW ((flatVars ps).map fun s => s.data.toList))).map strOf = varsN ps := by
 obtain ⟨h1, h2⟩ := compact_sorted ((flatVars ps).map fun s => s.data.toList)
 refine asc_ext cmpS_total ?_ ((varsN_asc ps).imp fun h => of_decide_eq_true h) (fun x => ?_)
 · refine List.pairwise_map.2 (h2.imp fun {a b} h => ?_)
   exact of_decide_eq_true ((lt_word a b).1 h)
 · rw [List.mem_map, ← flatVars_mem]
   constructor
   · rintro ⟨y, hy, rfl⟩
     obtain ⟨s, hs, rfl⟩ := List.mem_map.1 ((h1 y).1 hy)
     exact hs
   · intro hx
     exact ⟨x.data.toList, (h1 _).2 (List.mem_map.2 ⟨x, hx, rfl⟩), rfl⟩

end Go.Proofs.YtfjdijakgjhieaaGreat

namespace Go.Proofs.YtfjdijakgjhieaaGreat
set_option linter.unusedSimpArgs false
set_option linter.unusedVariables false
open Go.RowKit

theorem StrsR.impL {S S' : Nat → Prop} {w w' : World} {v : Value} {xs : List ByteArray} (h : StrsR S w v xs) (hS : ∀ b, S b → b < w.heap.size → S' b) (he : Agree S w w') (hsz : w.heap.size ≤ w'.heap.size) : StrsR S' w' v xs := ListK.imp (k := kStr) h hS he hsz
theorem StrsR.sub {S S' : Nat → Prop} {w : World} {v : Value} {xs : List ByteArray} (h : StrsR S w v xs) (hS : ∀ b, S b → S' b) : StrsR S' w v xs := h.impL (fun b hb _ => hS b hb) (.refl _ _) (Nat.le_refl _)
/-- A binding: two slices of words. -/
def BindE (S : Nat → Prop) (w : World) (cs : List Value) (b : LB) : Prop := ∃ v u, cs = [v, u] ∧ StrsR S w v b.ns ∧ StrsR S w u b.vs ∧ b.ok
def kBind : Kind LB := ⟨2, BindE, by decide, fun h hS he hsz => by obtain ⟨v, u, h1, h2, h3, h4⟩ := h; exact ⟨v, u, h1, h2.impL hS he hsz, h3.impL hS he hsz, h4⟩,
 fun {_ _ l x} h => by obtain ⟨v, u, rfl, ht, hp, _⟩ := h; intro y hy; simp at hy; rcases hy with rfl | rfl <;> first | exact ListK.one (k := kStr) ht | exact ListK.one (k := kStr) hp, fun h => by obtain ⟨v, u, rfl, _⟩ := h; rfl⟩
def BindsR (S : Nat → Prop) : World → Value → List LB → Prop := SliceR S 2 (BindE S)
theorem BindsR.impL {S S' : Nat → Prop} {w w' : World} {v : Value} {xs : List LB} (h : BindsR S w v xs) (hS : ∀ b, S b → b < w.heap.size → S' b) (he : Agree S w w') (hsz : w.heap.size ≤ w'.heap.size) : BindsR S' w' v xs := ListK.imp (k := kBind) h hS he hsz
theorem BindsR.ext {S : Nat → Prop} {w w' : World} {v : Value} {xs : List LB} (h : BindsR S w v xs) (he : Ext w w') : BindsR S w' v xs := h.impL (fun _ h _ => h) (.of_ext he) he.size
theorem BindsR.at_ {S : Nat → Prop} {w : World} {A : Option Addr} {n c : Nat} {xs : List LB} (h : BindsR S w (.slice A n c) xs) {k : Nat} (hk : k < n) :
 ∃ (b off : Nat) (x : LB) (v u : Value), A = some ⟨b, off, none⟩ ∧ b < w.heap.size ∧ xs[k]? = some x ∧ StrsR S w v x.ns ∧ StrsR S w u x.vs ∧ x.ok ∧
   w.cell? ⟨b, off + k * 2, none⟩ = some v ∧ w.cell? ⟨b, off + k * 2 + 1, none⟩ = some u := by
 obtain ⟨b, off, x, cs, hA, hb, hx, _, hc, v, u, rfl, ht, hp, ho⟩ := SliceR.at_ h hk
 exact ⟨b, off, x, v, u, hA, hb, hx, ht, hp, ho, hc 0 _ rfl, hc 1 _ rfl⟩
/-- A row: one slice of words. -/
def RowE (S : Nat → Prop) (w : World) (cs : List Value) (r : List ByteArray) : Prop := ∃ v, cs = [v] ∧ StrsR S w v r
def kRow : Kind (List ByteArray) := ⟨1, RowE, by decide, fun h hS he hsz => by obtain ⟨v, h1, h2⟩ := h; exact ⟨v, h1, h2.impL hS he hsz⟩,
 fun {_ _ l x} h => by obtain ⟨v, rfl, ht⟩ := h; intro y hy; simp at hy; subst hy; exact ListK.one (k := kStr) ht, fun h => by obtain ⟨v, rfl, _⟩ := h; rfl⟩
def RowsR (S : Nat → Prop) : World → Value → List (List ByteArray) → Prop := SliceR S 1 (RowE S)
theorem RowsR.impL {S S' : Nat → Prop} {w w' : World} {v : Value} {xs : List (List ByteArray)} (h : RowsR S w v xs) (hS : ∀ b, S b → b < w.heap.size → S' b) (he : Agree S w w') (hsz : w.heap.size ≤ w'.heap.size) : RowsR S' w' v xs := ListK.imp (k := kRow) h hS he hsz
theorem RowsR.ext {S : Nat → Prop} {w w' : World} {v : Value} {xs : List (List ByteArray)} (h : RowsR S w v xs) (he : Ext w w') : RowsR S w' v xs := h.impL (fun _ h _ => h) (.of_ext he) he.size
theorem RowsR.sub {S S' : Nat → Prop} {w : World} {v : Value} {xs : List (List ByteArray)} (h : RowsR S w v xs) (hS : ∀ b, S b → S' b) : RowsR S' w v xs := h.impL (fun b hb _ => hS b hb) (.refl _ _) (Nat.le_refl _)
theorem RowsR.at_ {S : Nat → Prop} {w : World} {A : Option Addr} {n c : Nat} {xs : List (List ByteArray)} (h : RowsR S w (.slice A n c) xs) {k : Nat} (hk : k < n) :
 ∃ (b off : Nat) (x : List ByteArray) (v : Value), A = some ⟨b, off, none⟩ ∧ b < w.heap.size ∧ xs[k]? = some x ∧ StrsR S w v x ∧ w.cell? ⟨b, off + k, none⟩ = some v := by
 obtain ⟨b, off, x, cs, hA, hb, hx, _, hc, v, rfl, ht⟩ := SliceR.at_ h hk
 exact ⟨b, off, x, v, hA, hb, hx, ht, by simpa using hc 0 _ rfl⟩

end Go.Proofs.YtfjdijakgjhieaaGreat
