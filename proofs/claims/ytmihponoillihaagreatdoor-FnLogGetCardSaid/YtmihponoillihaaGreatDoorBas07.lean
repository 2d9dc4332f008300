/- Part of the texts of a proof: own texts joined in the order of their building; what they say stands at each theorem. -/
import Derived.Test.YtmihponoillihaaGreatDoorBas02
import Derived.Test.YtmihponoillihaaGreatDoorBas05
import Derived.Test.YtmihponoillihaaGreatDoorBas03
import Derived.Test.YtmihponoillihaaGreatDoorBas06
import Derived.BigQuiet
set_option linter.unusedSimpArgs false
set_option linter.unusedVariables false
namespace Go.Proofs.YtmihponoillihaaGreatDoor
open Go.RowKit

def partOkB (p : GP) : Bool := atomOkB p.atom
theorem ruleOkB_eq (r : GR) : ruleOkB r = (r.body.all partOkB && (atomOkB r.head && decide (r.body.length ≤ 4))) := rfl

set_option maxHeartbeats 1000000 in
theorem specRule_any (r : GR) (v u : Value) (w : World) {S T : Nat → Prop} (hs : r.head.n.size ≤ maxLen) (hv : TermsR S w v r.head.args) (hu : PartsR T w u r.body) :
 Calls Tryz.prog 255 #[.agg #[.string r.head.n, v, u]] w fun e w' => e = .returned (.bool (ruleOkB r)) ∧ Ext w w' := by
 obtain ⟨A, c, rfl, hc1, hc2⟩ := SliceR.form hv
 obtain ⟨B, d, rfl, hd1, hd2⟩ := SliceR.form hu
 have HV := Lib.hid (hv.ext ((Ext.refl w).alloc (.cells #[.string r.head.n, .slice A r.head.args.length c, .slice B r.body.length d] 56)))
 have HU := Lib.hid (hu.ext ((Ext.refl w).alloc (.cells #[.string r.head.n, .slice A r.head.args.length c, .slice B r.body.length d] 56)))
 have HB := Lib.hid (Blk.new w 56 #[.string r.head.n, .slice A r.head.args.length c, .slice B r.body.length d])
 clear hv hu
 go_enter Tryz.func255, Tryz.ntmps255
 go_wp2
 go_loopw [3] (fun i wr => ∃ k : Nat, k ≤ r.body.length ∧ i = .int .i64 k ∧ Hid ((r.body.take k).all partOkB = true) ∧ Ext (w.alloc (.cells #[.string r.head.n, .slice A r.head.args.length c, .slice B r.body.length d] 56)) wr) (fun i _ => r.body.length - (intOf i).toNat)
 case atStart => exact ⟨0, Nat.zero_le _, rfl, rfl, Ext.refl _⟩
 case round =>
  obtain ⟨k, hk, rfl, hp, hx⟩ := hrel
  have hb1 := HB.out.ext hx
  have q0 := hb1.cell 0
  have q1 := hb1.cell 1
  have q2 := hb1.cell 2
  have hl := hb1.lt
  clear hb1
  by_cases hlt : k < r.body.length
  · obtain ⟨b, off, x, y, rfl, hb, hxk, hxs, htx, p0, p1, p2⟩ := PartsR.at_ (HU.out.ext hx) hlt
    obtain ⟨C, e, rfl, he1, he2⟩ := SliceR.form htx
    have HK := Lib.hid hxk
    have hw := bool_ways (specAtomOk_any x.atom _ wr hxs htx)
    clear hxk htx
    cases ht : atomOkB x.atom
    · have HF := Lib.hid (show ruleOkB r = false from by rw [ruleOkB_eq, all_false partOkB _ k x HK.out ht]; rfl)
      have HW := Lib.hid (hw.2 ht)
      clear hw ht
      go_wp2_with (go_at_call 126; refine HW.out.mono ?_; rintro e w1 ⟨rfl, hx1⟩)
      go_ret
      exact ⟨by rw [HF.out]; rfl, ((Ext.refl _).alloc _).trans' (hx.trans' hx1)⟩
    · have HP := Lib.hid (show (r.body.take (k + 1)).all partOkB = true from by rw [all_snoc partOkB _ k x HK.out, hp.out, show partOkB x = true from ht]; rfl)
      have HW := Lib.hid (hw.1 ht)
      clear hw ht
      go_wp2_with (go_at_call 126; refine HW.out.mono ?_; rintro e w1 ⟨rfl, hx1⟩)
      go_roundw
      case rel => exact ⟨k + 1, by omega, by go_num, HP, hx.trans' hx1⟩
      case measure => simp [intOf]; omega
  · have hall := all_whole partOkB _ k hlt hp.out
    have hw := bool_ways (specAtomOk_any r.head _ wr hs (HV.out.ext hx))
    clear hp
    cases hn : atomOkB r.head
    · have HF := Lib.hid (show ruleOkB r = false from by rw [ruleOkB_eq, hn, hall]; rfl)
      have HW := Lib.hid (hw.2 hn)
      clear hw hn hall
      go_wp2_with (go_at_call 126; refine HW.out.mono ?_; rintro e w1 ⟨rfl, hx1⟩)
      go_ret
      exact ⟨by rw [HF.out]; rfl, ((Ext.refl _).alloc _).trans' (hx.trans' hx1)⟩
    · have HF := Lib.hid (show ruleOkB r = decide (r.body.length ≤ 4) from by rw [ruleOkB_eq, hn, hall]; rfl)
      have HW := Lib.hid (hw.1 hn)
      clear hw hn hall
      go_wp2_with (go_at_call 126; refine HW.out.mono ?_; rintro e w1 ⟨rfl, hx1⟩; have hb2 := (HB.out.ext (hx.trans' hx1)); have p2 := hb2.cell 2; have hl2 := hb2.lt; clear hb2)
      go_ret
      refine ⟨ret_bool ?_, ((Ext.refl _).alloc _).trans' (hx.trans' hx1)⟩
      rw [HF.out]
      exact decide_eq_decide.2 (by omega)

/-! ### Texts, ascending -/
theorem str_info : (Tryz.prog.info? 9).map (fun i => (i.zero, i.size, i.bytes)) = some (some (.string ByteArray.empty), 1, 16) := by kernel_rfl
theorem ltS_less (a b : ByteArray) : Op.bytesLess a.toList b.toList = ltS a b := by
 unfold ltS
 cases h : Op.bytesLess a.toList b.toList
 · cases h2 : (!a.toList == b.toList)
   · have := cmpS_same h h2
     unfold cmpS at this
     rw [this]; rfl
   · have := cmpS_more h h2
     unfold cmpS at this
     rw [this]; rfl
 · have := cmpS_less h
   unfold cmpS at this
   rw [this]; rfl
theorem str_ne' {a b : ByteArray} (h : a ≠ b) : (a.toList == b.toList) = false := by
 rw [beq_eq_false_iff_ne, ByteArray.toList_eq, ByteArray.toList_eq]
 intro e
 apply h
 cases a; cases b
 simp at e
 rw [e]
theorem putS_len (l : List ByteArray) (s : ByteArray) : (putS l s).length ≤ l.length + 1 := by
 induction l with
 | nil => exact Nat.le_refl _
 | cons x l ih =>
   unfold putS
   split
   · simp; exact ih
   · split <;> simp

/-- Texts hold no memory. -/
theorem OwnK.strs {S S' : Nat → Prop} {w : World} {v : Value} {xs : List ByteArray} {base : Nat} {e : TypeId} (h : OwnK kStr base e S w v xs) : OwnK kStr base e S' w v xs := by
 obtain ⟨rows, T, h1, h2, _, _⟩ := h
 exact ⟨rows, fun _ => False, h1, h2, fun _ h => h.elim, fun _ _ h => h⟩

set_option maxRecDepth 100000 in
set_option maxHeartbeats 4000000 in
theorem l2Put_in (v : Value) (xs : List ByteArray) (s : ByteArray) (w : World) {S : Nat → Prop} (hv : StrsR S w v xs) (hs : s.size ≤ maxLen) (hn : xs.length ≤ 1000000) :
 Calls Tryz.prog 184 #[v, .string s] w fun e w' => (∃ v', e = .returned v' ∧ StrsR (fun b => S b ∨ w.heap.size ≤ b) w' v' (putS xs s)) ∧ Ext w w' := by
 obtain ⟨A, c, rfl, hc1, hc2⟩ := SliceR.form hv
 obtain ⟨i0, hi0, hz0, hz1, hz2⟩ := info_parts str_info
 have HV := Lib.hid hv
 clear hv
 go_enter Tryz.func184, Tryz.ntmps184
 go_wp2
 go_loopw [5] (fun i wr => ∃ k : Nat, k ≤ xs.length ∧ i = .int .i64 k ∧ Hid (∀ i x, i < k → xs[i]? = some x → ltS x s = true) ∧ w = wr) (fun i _ => xs.length - (intOf i).toNat)
 case atStart => exact ⟨0, Nat.zero_le _, rfl, Lib.hid (fun i x h => absurd h (Nat.not_lt_zero _)), rfl⟩
 case round =>
  obtain ⟨k, hk, rfl, hlow, rfl⟩ := hrel
  have hk0 : (0 : Int) ≤ (k : Int) := by omega
  have hk1 : (k : Int) ≤ (c : Int) := by omega
  have hk2 : (k : Int) ≤ (xs.length : Int) := by omega
  have hend : ∀ hw : whileS xs s = k, xs[k]? ≠ some s → putS xs s = xs.take k ++ [s] ++ xs.drop k := fun hw hne => by rw [putS_eq, hw, if_neg hne]
  by_cases hlt : k < xs.length
  · obtain ⟨b, off, x, rfl, hb, hxk, hxs, p0⟩ := StrsR.at_ HV.out hlt
    cases hl : ltS x s
    · have hw : whileS xs s = k := whileS_is hk hlow.out (fun y hy => by rw [hxk] at hy; injection hy with hy; subst hy; exact hl)
      have hbl : Op.bytesLess x.toList s.toList = false := (ltS_less x s).trans hl
      by_cases he : x = s
      · have HP := Lib.hid (show putS xs s = xs from by rw [putS_eq, hw, if_pos (by rw [hxk, he])])
        have he1 : (x.toList == s.toList) = true := by rw [he]; exact beq_self_eq_true _
        clear hw hend hl hxk hlow he
        go_wp2
        go_ret
        exact ⟨⟨_, rfl, by rw [HP.out]; exact StrsR.imp HV.out (fun _ h => .inl h) (.refl _ _) (Nat.le_refl _)⟩, Ext.refl _⟩
      · have HP := Lib.hid (hend hw (by rw [hxk]; intro e; injection e with e; exact he e))
        have he1 : (x.toList == s.toList) = false := str_ne' he
        clear hw hend hl hxk hlow he
        go_wp2
        clear p0 hb
        generalize (some (⟨b, off, none⟩ : Addr)) = A at HV ⊢
        have HE1 := Lib.hid (show ∀ W, Ext w W → ElemsK kStr (fun b => b < w.heap.size) W (.slice A k c) (xs.take k) from fun W hW =>
         ElemsK.ext ((ListK.elems (k := kStr) (SliceR.fst HV.out k hk)).sub (fun b hb hlt => hlt)) hW)
        have HE2 := Lib.hid (show ∀ W, Ext w W → kStr.E (fun b => b < w.heap.size) W [.string s] s from fun W hW => ⟨rfl, hs⟩)
        have HE3 := Lib.hid (show ∀ W, Ext w W → ElemsK kStr (fun b => b < w.heap.size) W (.slice (if c = k then A else A.map (·.add k)) (xs.length - k) (c - k)) (xs.drop k) from fun W hW =>
         ElemsK.ext ((ListK.elems (k := kStr) (by have h := SliceR.drop HV.out k hk; simp only [Nat.mul_one] at h; exact h)).sub (fun b hb hlt => hlt)) hW)
        have hlk : (xs.take k).length = k := by rw [List.length_take]; omega
        go_region_held3 (fun _ => True) (exact trivial)
         (first
          | (refine step_appL (o := ⟨some 37, _, _, _, _, _⟩) (k := kStr) (S := fun b => b < w.heap.size) (T := fun b => b < w.heap.size) (base := w.heap.size) (v := .slice (some ⟨_, 0, none⟩) 0 0) (xs := []) (ys := xs.take k) (by rfl) (.tmp 33) (.tmp 36) 65 (by rfl) i0 _ 16 Tryz.underlying65 hi0 hz0 hz1 hz2 (by rfl) (by rfl)
              (by first | exact OwnK.drew (OwnK.empty rfl (Nat.le_refl _)) | exact OwnK.drew (OwnK.alloc (OwnK.empty rfl (Nat.le_refl _)) _) | exact OwnK.drew (OwnK.empty (w := w.alloc _) (by simp) (by simp))) A k c (by rfl) (HE1.out _ (by first | exact Ext.drew (Ext.alloc (Ext.refl _) _) | exact Ext.drew (Ext.alloc (Ext.alloc (Ext.refl _) _) _))) (fun b hb => ⟨hb, hb⟩) (maxOf (by simp; omega)) (by simp; omega) (by go_size) ?_
             intro v1 w2 hap1; obtain ⟨A1, n1, c1, rfl, hn1, hd11, hd12⟩ := hap1.own.form2; have HX2 := Lib.hid (hap1.toExt (w0 := w) (by first | exact Ext.drew (Ext.alloc (Ext.refl _) _) | exact Ext.drew (Ext.alloc (Ext.alloc (Ext.refl _) _) _)) (Nat.le_refl _)); have HA1 := Lib.hid hap1; clear hap1)
          | (refine step_appL (o := ⟨some 40, _, _, _, _, _⟩) (k := kStr) (S := fun b => b < w.heap.size) (T := fun b => b < w.heap.size) (base := w.heap.size) (xs := [] ++ xs.take k) (ys := [s]) (by rfl) (.tmp 37) (.tmp 39) 65 (by rfl) i0 _ 16 Tryz.underlying65 hi0 hz0 hz1 hz2 (by rfl) (by rfl)
              (by first | exact HA1.out.own | exact OwnK.alloc HA1.out.own _) _ 1 1 (by rfl) (ElemsK.one (k := kStr) (x := s) (by first | exact Blk.at_new rfl | exact HA1.out.blk2 (Blk.drew (Blk.at_new (w := w.alloc _) (by simp))) (by simp [Value.ownBlock]) | exact HA1.out.blk2 (Blk.drew (Blk.alloc (Blk.at_new rfl) _)) (by simp [Value.ownBlock])) (HE2.out _ (by first | exact HX2.out | exact Ext.alloc HX2.out _))) (fun b hb => ⟨hb, hb⟩) (maxOf (by simp; omega)) (by simp; omega) (by have := HX2.out.size; go_size) ?_
             intro v2 w3 hap2; obtain ⟨A2, n2, c2, rfl, hn2, hd21, hd22⟩ := hap2.own.form2; have HX3 := Lib.hid (hap2.toExt (w0 := w) (by first | exact HX2.out | exact Ext.alloc HX2.out _) (Nat.le_refl _)); have HA2 := Lib.hid hap2; clear hap2)
          | (refine step_appL (o := ⟨some 44, _, _, _, _, _⟩) (k := kStr) (S := fun b => b < w.heap.size) (T := fun b => b < w.heap.size) (base := w.heap.size) (xs := ([] ++ xs.take k) ++ [s]) (ys := xs.drop k) (by rfl) (.tmp 40) (.tmp 43) 65 (by rfl) i0 _ 16 Tryz.underlying65 hi0 hz0 hz1 hz2 (by rfl) (by rfl)
              (by exact HA2.out.own) _ _ _ (by rfl) (HE3.out _ HX3.out) (fun b hb => ⟨hb, hb⟩) (maxOf (by simp; omega)) (by simp; omega) (by have := HX3.out.size; go_size) ?_
             intro v3 w4 hap3; obtain ⟨A3, n3, c3, rfl, hn3, hd31, hd32⟩ := hap3.own.form2; have HX4 := Lib.hid (hap3.toExt (w0 := w) HX3.out (Nat.le_refl _)); have HA3 := Lib.hid hap3; clear hap3))
        all_goals go_wp2
        all_goals
         go_ret
         refine ⟨⟨_, rfl, ?_⟩, HX4.out⟩
         rw [HP.out]
         have h := (OwnK.strs (S' := None) HA3.out.own).list (S' := fun b => S b ∨ w.heap.size ≤ b) (fun b hb => hb.elim) (fun b hb => .inr hb)
         simp only [List.nil_append] at h
         exact h
    · have hbl : Op.bytesLess x.toList s.toList = true := (ltS_less x s).trans hl
      have HL := Lib.hid (show ∀ i y, i < k + 1 → xs[i]? = some y → ltS y s = true from fun i y hi hy => by
       rcases Nat.lt_or_ge i k with h | h
       · exact hlow.out i y h hy
       · rw [show i = k from by omega, hxk] at hy; injection hy with hy; subst hy; exact hl)
      clear hend hl hxk hlow
      go_wp2
      go_roundw
      case rel => exact ⟨k + 1, by omega, by go_num, HL, trivial⟩
      case measure => simp [intOf]; omega
  · have hw : whileS xs s = k := whileS_is hk hlow.out (fun y hy => by rw [List.getElem?_eq_none (by omega)] at hy; cases hy)
    have HP := Lib.hid (hend hw (by rw [List.getElem?_eq_none (by omega)]; simp))
    clear hw hend hlow
    go_wp2
    have HE1 := Lib.hid (show ∀ W, Ext w W → ElemsK kStr (fun b => b < w.heap.size) W (.slice A k c) (xs.take k) from fun W hW =>
     ElemsK.ext ((ListK.elems (k := kStr) (SliceR.fst HV.out k hk)).sub (fun b hb hlt => hlt)) hW)
    have HE2 := Lib.hid (show ∀ W, Ext w W → kStr.E (fun b => b < w.heap.size) W [.string s] s from fun W hW => ⟨rfl, hs⟩)
    have HE3 := Lib.hid (show ∀ W, Ext w W → ElemsK kStr (fun b => b < w.heap.size) W (.slice (if c = k then A else A.map (·.add k)) (xs.length - k) (c - k)) (xs.drop k) from fun W hW =>
     ElemsK.ext ((ListK.elems (k := kStr) (by have h := SliceR.drop HV.out k hk; simp only [Nat.mul_one] at h; exact h)).sub (fun b hb hlt => hlt)) hW)
    have hlk : (xs.take k).length = k := by rw [List.length_take]; omega
    go_region_held3 (fun _ => True) (exact trivial)
     (first
      | (refine step_appL (o := ⟨some 37, _, _, _, _, _⟩) (k := kStr) (S := fun b => b < w.heap.size) (T := fun b => b < w.heap.size) (base := w.heap.size) (v := .slice (some ⟨_, 0, none⟩) 0 0) (xs := []) (ys := xs.take k) (by rfl) (.tmp 33) (.tmp 36) 65 (by rfl) i0 _ 16 Tryz.underlying65 hi0 hz0 hz1 hz2 (by rfl) (by rfl)
          (by first | exact OwnK.drew (OwnK.empty rfl (Nat.le_refl _)) | exact OwnK.drew (OwnK.alloc (OwnK.empty rfl (Nat.le_refl _)) _) | exact OwnK.drew (OwnK.empty (w := w.alloc _) (by simp) (by simp))) A k c (by rfl) (HE1.out _ (by first | exact Ext.drew (Ext.alloc (Ext.refl _) _) | exact Ext.drew (Ext.alloc (Ext.alloc (Ext.refl _) _) _))) (fun b hb => ⟨hb, hb⟩) (maxOf (by simp; omega)) (by simp; omega) (by go_size) ?_
         intro v1 w2 hap1; obtain ⟨A1, n1, c1, rfl, hn1, hd11, hd12⟩ := hap1.own.form2; have HX2 := Lib.hid (hap1.toExt (w0 := w) (by first | exact Ext.drew (Ext.alloc (Ext.refl _) _) | exact Ext.drew (Ext.alloc (Ext.alloc (Ext.refl _) _) _)) (Nat.le_refl _)); have HA1 := Lib.hid hap1; clear hap1)
      | (refine step_appL (o := ⟨some 40, _, _, _, _, _⟩) (k := kStr) (S := fun b => b < w.heap.size) (T := fun b => b < w.heap.size) (base := w.heap.size) (xs := [] ++ xs.take k) (ys := [s]) (by rfl) (.tmp 37) (.tmp 39) 65 (by rfl) i0 _ 16 Tryz.underlying65 hi0 hz0 hz1 hz2 (by rfl) (by rfl)
          (by first | exact HA1.out.own | exact OwnK.alloc HA1.out.own _) _ 1 1 (by rfl) (ElemsK.one (k := kStr) (x := s) (by first | exact Blk.at_new rfl | exact HA1.out.blk2 (Blk.drew (Blk.at_new (w := w.alloc _) (by simp))) (by simp [Value.ownBlock]) | exact HA1.out.blk2 (Blk.drew (Blk.alloc (Blk.at_new rfl) _)) (by simp [Value.ownBlock])) (HE2.out _ (by first | exact HX2.out | exact Ext.alloc HX2.out _))) (fun b hb => ⟨hb, hb⟩) (maxOf (by simp; omega)) (by simp; omega) (by have := HX2.out.size; go_size) ?_
         intro v2 w3 hap2; obtain ⟨A2, n2, c2, rfl, hn2, hd21, hd22⟩ := hap2.own.form2; have HX3 := Lib.hid (hap2.toExt (w0 := w) (by first | exact HX2.out | exact Ext.alloc HX2.out _) (Nat.le_refl _)); have HA2 := Lib.hid hap2; clear hap2)
      | (refine step_appL (o := ⟨some 44, _, _, _, _, _⟩) (k := kStr) (S := fun b => b < w.heap.size) (T := fun b => b < w.heap.size) (base := w.heap.size) (xs := ([] ++ xs.take k) ++ [s]) (ys := xs.drop k) (by rfl) (.tmp 40) (.tmp 43) 65 (by rfl) i0 _ 16 Tryz.underlying65 hi0 hz0 hz1 hz2 (by rfl) (by rfl)
          (by exact HA2.out.own) _ _ _ (by rfl) (HE3.out _ HX3.out) (fun b hb => ⟨hb, hb⟩) (maxOf (by simp; omega)) (by simp; omega) (by have := HX3.out.size; go_size) ?_
         intro v3 w4 hap3; obtain ⟨A3, n3, c3, rfl, hn3, hd31, hd32⟩ := hap3.own.form2; have HX4 := Lib.hid (hap3.toExt (w0 := w) HX3.out (Nat.le_refl _)); have HA3 := Lib.hid hap3; clear hap3))
    all_goals go_wp2
    all_goals
     go_ret
     refine ⟨⟨_, rfl, ?_⟩, HX4.out⟩
     rw [HP.out]
     have h := (OwnK.strs (S' := None) HA3.out.own).list (S' := fun b => S b ∨ w.heap.size ≤ b) (fun b hb => hb.elim) (fun b hb => .inr hb)
     simp only [List.nil_append] at h
     exact h

/-! ### Variables -/
def varsTo (os : List ByteArray) (l : List GT) : List ByteArray := ((l.filter (·.v)).map (·.n)).foldl putS os
theorem varsTo_snoc (os : List ByteArray) (l : List GT) (x : GT) : varsTo os (l ++ [x]) = if x.v then putS (varsTo os l) x.n else varsTo os l := by
 unfold varsTo
 rw [List.filter_append, List.map_append, List.foldl_append]
 cases h : x.v <;> simp [h]
theorem varsTo_len (os : List ByteArray) : ∀ l : List GT, (varsTo os l).length ≤ os.length + l.length := by
 intro l
 unfold varsTo
 generalize hvs : (l.filter (·.v)).map (·.n) = vs
 have hl : vs.length ≤ l.length := by rw [← hvs, List.length_map]; exact List.length_filter_le _ _
 clear hvs
 have key : ∀ (vs os : List ByteArray), (vs.foldl putS os).length ≤ os.length + vs.length := by
  intro vs
  induction vs with
  | nil => intro os; exact Nat.le_refl _
  | cons v vs ih =>
    intro os
    have h1 := ih (putS os v)
    have h2 := putS_len os v
    simp only [List.foldl_cons, List.length_cons]
    omega
 have := key vs os
 omega

set_option maxRecDepth 100000 in
set_option maxHeartbeats 2000000 in
theorem l2Vars_in (a : GA) (v o : Value) (os : List ByteArray) (w : World) {S T : Nat → Prop} (hv : TermsR S w v a.args) (ho : StrsR T w o os) (hn : os.length + a.args.length ≤ 1000000) :
 Calls Tryz.prog 129 #[.agg #[.string a.n, v], o] w fun e w' => (∃ v', e = .returned v' ∧ StrsR (fun b => T b ∨ w.heap.size ≤ b) w' v' (varsPut os a)) ∧ Ext w w' := by
 obtain ⟨A, c, rfl, hc1, hc2⟩ := SliceR.form hv
 have HV := Lib.hid (hv.ext ((Ext.refl w).alloc (.cells #[.string a.n, .slice A a.args.length c] 54)))
 have HO := Lib.hid (StrsR.imp (S' := fun b => T b ∨ w.heap.size ≤ b) ho (fun _ h => .inl h) (.of_ext ((Ext.refl w).alloc (.cells #[.string a.n, .slice A a.args.length c] 54))) (by go_size))
 have HB := Lib.hid (Blk.new w 54 #[.string a.n, .slice A a.args.length c])
 clear hv ho
 go_enter Tryz.func129, Tryz.ntmps129
 go_wp2
 go_loopw [1, 5] (fun o i wr => ∃ k : Nat, k ≤ a.args.length ∧ i = .int .i64 k ∧ Hid (StrsR (fun b => T b ∨ w.heap.size ≤ b) wr o (varsTo os (a.args.take k))) ∧ Ext (w.alloc (.cells #[.string a.n, .slice A a.args.length c] 54)) wr) (fun _ i _ => a.args.length - (intOf i).toNat)
 case atStart => exact ⟨0, Nat.zero_le _, rfl, HO, Ext.refl _⟩
 case round =>
  obtain ⟨k, hk, rfl, ho, hx⟩ := hrel
  have hb1 := HB.out.ext hx
  have q0 := hb1.cell 0
  have q1 := hb1.cell 1
  have hl := hb1.lt
  clear hb1
  obtain ⟨B, d, rfl, hd1, hd2⟩ := SliceR.form ho.out
  obtain ⟨n1, hn1⟩ : ∃ n1, n1 = (varsTo os (a.args.take k)).length := ⟨_, rfl⟩
  have hln := varsTo_len os (a.args.take k)
  rw [List.length_take] at hln
  rw [← hn1] at ho hln ⊢
  by_cases hlt : k < a.args.length
  · obtain ⟨b, off, x, rfl, hb, hxk, hxs, hc0, hc1⟩ := TermsR.at_ (HV.out.ext hx) hlt
    have hstep : varsTo os (a.args.take (k + 1)) = if x.v then putS (varsTo os (a.args.take k)) x.n else varsTo os (a.args.take k) := by
     obtain ⟨hk', rfl⟩ := List.getElem?_eq_some_iff.1 hxk
     rw [List.take_succ_eq_append_getElem hk', varsTo_snoc]
    cases hxv : x.v
    · have HP := Lib.hid (show varsTo os (a.args.take (k + 1)) = varsTo os (a.args.take k) from by rw [hstep, hxv]; rfl)
      rw [hxv] at hc0
      clear hstep hxk hxv hn1
      go_wp2
      go_roundw
      case rel => exact ⟨k + 1, by omega, by go_num, (by rw [HP.out]; exact ho), hx⟩
      case measure => simp [intOf]; omega
    · have HP := Lib.hid (show varsTo os (a.args.take (k + 1)) = putS (varsTo os (a.args.take k)) x.n from by rw [hstep, hxv]; rfl)
      have HL := Lib.hid (show (varsTo os (a.args.take k)).length ≤ 1000000 from by rw [← hn1]; omega)
      rw [hxv] at hc0
      clear hstep hxk hxv hn1
      go_wp2_with (go_at_call 184; refine (l2Put_in _ (varsTo os (a.args.take k)) x.n _ ho.out hxs HL.out).mono ?_; rintro e w1 ⟨⟨v1, rfl, hv1⟩, hx1⟩)
      go_roundw
      case rel => exact ⟨k + 1, by omega, by go_num, Lib.hid (by rw [HP.out]; exact StrsR.imp hv1 (fun b hb => hb.elim id (fun h => .inr (Nat.le_trans (((Ext.refl w).alloc _).trans' hx).size h))) (.refl _ _) (Nat.le_refl _)), hx.trans' hx1⟩
      case measure => simp [intOf]; omega
  · have HP := Lib.hid (show varsTo os (a.args.take k) = varsPut os a from by rw [List.take_of_length_le (by omega)]; rfl)
    clear hn1
    go_wp2
    go_ret
    exact ⟨⟨_, rfl, by rw [← HP.out]; exact ho.out⟩, ((Ext.refl _).alloc _).trans' hx⟩

theorem l2Vars_any (a : GA) (v o : Value) (os : List ByteArray) (w : World) {S T : Nat → Prop} (hv : TermsR S w v a.args) (ho : StrsR T w o os) (hn : os.length + a.args.length ≤ 1000000) :
 Calls Tryz.prog 129 #[.agg #[.string a.n, v], o] w fun e w' => (∃ v', e = .returned v' ∧ StrsR Any w' v' (varsPut os a)) ∧ Ext w w' :=
 (l2Vars_in a v o os w hv ho hn).mono fun e w' ⟨⟨v', h1, h2⟩, h3⟩ => ⟨⟨v', h1, StrsR.imp h2 (fun _ _ => trivial) (.refl _ _) (Nat.le_refl _)⟩, h3⟩

def allTo (o : List ByteArray) (l : List GP) : List ByteArray := l.foldl (fun o p => varsPut o p.atom) o
def boundTo (l : List GP) : List ByteArray := l.foldl (fun o p => if p.no then o else varsPut o p.atom) []
theorem varsPut_len (o : List ByteArray) (a : GA) : (varsPut o a).length ≤ o.length + a.args.length := varsTo_len o a.args

set_option maxRecDepth 100000 in
set_option maxHeartbeats 2000000 in
theorem l2Tight_gen (r : GR) (v u : Value) (w : World) {S T : Nat → Prop} (hs : r.head.n.size ≤ maxLen) (hv : TermsR S w v r.head.args) (hu : PartsR T w u r.body) (hargs : r.head.args.length ≤ 12 ∧ r.body.length ≤ 4 ∧ ∀ p ∈ r.body, p.atom.args.length ≤ 3) :
 Calls Tryz.prog 128 #[.agg #[.string r.head.n, v, u]] w fun e w' => e = .returned (.bool (tightB r)) ∧ Ext w w' := by
 obtain ⟨hh, hbl, hpl⟩ := hargs
 obtain ⟨A, c, rfl, hc1, hc2⟩ := SliceR.form hv
 obtain ⟨B, d, rfl, hd1, hd2⟩ := SliceR.form hu
 have HV := Lib.hid (hv.ext ((Ext.refl w).alloc (.cells #[.string r.head.n, .slice A r.head.args.length c, .slice B r.body.length d] 56)))
 have HU := Lib.hid (hu.ext ((Ext.refl w).alloc (.cells #[.string r.head.n, .slice A r.head.args.length c, .slice B r.body.length d] 56)))
 have HB := Lib.hid (Blk.new w 56 #[.string r.head.n, .slice A r.head.args.length c, .slice B r.body.length d])
 have HPL := Lib.hid hpl
 have htl := tight_len r
 have HT := Lib.hid htl
 have tok : True := trivial
 clear hv hu hpl htl
 go_enter Tryz.func128, Tryz.ntmps128
 go_wp2_with (first
  | (go_at_call 129; refine (l2Vars_any (S := S) (T := Any) r.head _ _ [] _ (HV.out.ext (((Ext.refl _).alloc _).alloc _)) (SliceR.nil_ 0 (Nat.zero_le _) _) (by simp; omega)).mono ?_; rintro e w1 ⟨⟨v1, rfl, hv1⟩, hx1⟩
     have HV1 := Lib.hid hv1
     have HX1 := Lib.hid (((((Ext.refl (w.alloc (.cells #[.string r.head.n, .slice A r.head.args.length c, .slice B r.body.length d] 56)))).alloc (.cells #[] 9)).alloc (.cells #[] 9)).trans' hx1)
     clear hv1 hx1))
 go_loopw [3, 4, 5] (fun bo al i wr => ∃ k : Nat, k ≤ r.body.length ∧ i = .int .i64 k ∧ Hid (StrsR Any wr al (allTo (varsPut [] r.head) (r.body.take k))) ∧ Hid (StrsR Any wr bo (boundTo (r.body.take k))) ∧ Hid ((allTo (varsPut [] r.head) (r.body.take k)).length ≤ 12 + 3 * k ∧ (boundTo (r.body.take k)).length ≤ 3 * k) ∧ Ext (w.alloc (.cells #[.string r.head.n, .slice A r.head.args.length c, .slice B r.body.length d] 56)) wr) (fun _ _ i _ => r.body.length - (intOf i).toNat)
 case atStart => exact ⟨0, Nat.zero_le _, rfl, HV1, Lib.hid (SliceR.nil_ 0 (Nat.zero_le _) _), Lib.hid ⟨by have := varsPut_len [] r.head; show (varsPut [] r.head).length ≤ _; simp at this; omega, Nat.zero_le _⟩, HX1.out⟩
 case round =>
  obtain ⟨k, hk, rfl, hal, hbo, hlen, hx⟩ := hrel
  have hb1 := HB.out.ext hx
  have q0 := hb1.cell 0
  have q1 := hb1.cell 1
  have q2 := hb1.cell 2
  have hl := hb1.lt
  clear hb1
  obtain ⟨C, e, rfl, he1, he2⟩ := SliceR.form hal.out
  obtain ⟨D, f, rfl, hf1, hf2⟩ := SliceR.form hbo.out
  obtain ⟨n1, hn1⟩ : ∃ n1, n1 = (allTo (varsPut [] r.head) (r.body.take k)).length := ⟨_, rfl⟩
  obtain ⟨m1, hm1⟩ : ∃ m1, m1 = (boundTo (r.body.take k)).length := ⟨_, rfl⟩
  rw [← hn1, ← hm1] at hlen
  rw [← hn1] at hal ⊢
  rw [← hm1] at hbo ⊢
  by_cases hlt : k < r.body.length
  · obtain ⟨b, off, x, y, rfl, hb, hxk, hxs, htx, p0, p1, p2⟩ := PartsR.at_ (HU.out.ext hx) hlt
    obtain ⟨E, g, rfl, hg1, hg2⟩ := SliceR.form htx
    have hx3 := HPL.out x (List.mem_of_getElem? hxk)
    have hst : r.body.take (k + 1) = r.body.take k ++ [x] := by
     obtain ⟨hk', rfl⟩ := List.getElem?_eq_some_iff.1 hxk
     exact List.take_succ_eq_append_getElem hk'
    have hA1 : allTo (varsPut [] r.head) (r.body.take (k + 1)) = varsPut (allTo (varsPut [] r.head) (r.body.take k)) x.atom := by
     unfold allTo; rw [hst, List.foldl_append]; rfl
    have hB1 : boundTo (r.body.take (k + 1)) = if x.no then boundTo (r.body.take k) else varsPut (boundTo (r.body.take k)) x.atom := by
     unfold boundTo; rw [hst, List.foldl_append]; rfl
    have HT1 := Lib.hid htx
    have HA1 := Lib.hid hA1
    have HN1 := Lib.hid hn1
    have HM1 := Lib.hid hm1
    clear hxk htx hst hA1 hn1 hm1
    cases hno : x.no
    · have HBB := Lib.hid (show boundTo (r.body.take (k + 1)) = varsPut (boundTo (r.body.take k)) x.atom from by rw [hB1, hno]; rfl)
      rw [hno] at p0
      clear hB1 hno
      go_wp2_with (first
       | (go_at_call 129; have _t := tok; refine (l2Vars_any (T := Any) x.atom _ _ (allTo (varsPut [] r.head) (r.body.take k)) _ HT1.out hal.out (by have h := hlen.out; have h2 := HN1.out; omega)).mono ?_; clear tok _t; rintro e w1 ⟨⟨v1, rfl, hv1⟩, hx1⟩
          have HV2 := Lib.hid hv1
          have HX2 := Lib.hid hx1
          obtain ⟨hcc, hcf⟩ := hx1.cells
          have hz1 := hx1.size
          clear hv1)
       | (go_at_call 129; refine (l2Vars_any (T := Any) x.atom _ _ (boundTo (r.body.take k)) _ (HT1.out.ext HX2.out) (StrsR.imp hbo.out (fun _ h => h) (.of_ext HX2.out) HX2.out.size) (by have h := hlen.out; have h2 := HM1.out; omega)).mono ?_; rintro e w2 ⟨⟨v2, rfl, hv2⟩, hx2⟩
          have HV3 := Lib.hid hv2
          have HX3 := Lib.hid hx2
          clear hv2))
      go_roundw
      case rel =>
       have h1 := varsPut_len (allTo (varsPut [] r.head) (r.body.take k)) x.atom
       have h2 := varsPut_len (boundTo (r.body.take k)) x.atom
       have h3 := hlen.out
       have h4 := HN1.out
       have h5 := HM1.out
       exact ⟨k + 1, by omega, by go_num, Lib.hid (by rw [HA1.out]; exact StrsR.imp HV2.out (fun _ h => h) (.of_ext HX3.out) HX3.out.size), Lib.hid (by rw [HBB.out]; exact HV3.out), Lib.hid ⟨by rw [HA1.out]; omega, by rw [HBB.out]; omega⟩, (hx.trans' HX2.out).trans' HX3.out⟩
      case measure => simp [intOf]; omega
    · have HBB := Lib.hid (show boundTo (r.body.take (k + 1)) = boundTo (r.body.take k) from by rw [hB1, hno]; rfl)
      rw [hno] at p0
      clear hB1 hno
      go_wp2_with (first
       | (go_at_call 129; refine (l2Vars_any (T := Any) x.atom _ _ (allTo (varsPut [] r.head) (r.body.take k)) _ HT1.out hal.out (by have h := hlen.out; have h2 := HN1.out; omega)).mono ?_; rintro e w1 ⟨⟨v1, rfl, hv1⟩, hx1⟩
          have HV2 := Lib.hid hv1
          have HX2 := Lib.hid hx1
          obtain ⟨hcc, hcf⟩ := hx1.cells
          have hz1 := hx1.size
          clear hv1))
      go_roundw
      case rel =>
       have h1 := varsPut_len (allTo (varsPut [] r.head) (r.body.take k)) x.atom
       have h3 := hlen.out
       have h4 := HN1.out
       have h5 := HM1.out
       exact ⟨k + 1, by omega, by go_num, Lib.hid (by rw [HA1.out]; exact HV2.out), Lib.hid (by rw [HBB.out]; exact StrsR.imp hbo.out (fun _ h => h) (.of_ext HX2.out) HX2.out.size), Lib.hid ⟨by rw [HA1.out]; omega, by rw [HBB.out]; omega⟩, hx.trans' HX2.out⟩
      case measure => simp [intOf]; omega
  · have hall : r.body.take k = r.body := List.take_of_length_le (by omega)
    rw [hall] at hn1 hm1
    have HF := Lib.hid (show tightB r = (n1 == m1) from by rw [HT.out, hn1, hm1]; rfl)
    clear hn1 hm1 hlen hal hbo hall
    go_wp2
    go_ret
    refine ⟨ret_bool ?_, ((Ext.refl _).alloc _).trans' hx⟩
    rw [HF.out, Bool.eq_iff_iff]
    simp
    omega

theorem l2Tight_any (r : GR) (v u : Value) (w : World) {S T : Nat → Prop} (hs : r.head.n.size ≤ maxLen) (hv : TermsR S w v r.head.args) (hu : PartsR T w u r.body) (hok : ruleOkB r = true) :
 Calls Tryz.prog 128 #[.agg #[.string r.head.n, v, u]] w fun e w' => e = .returned (.bool (tightB r)) ∧ Ext w w' := by
 refine l2Tight_gen r v u w hs hv hu ?_
 unfold ruleOkB at hok
 simp only [Bool.and_eq_true, List.all_eq_true, decide_eq_true_eq] at hok
 have h1 := (atom_parts hok.2.1).2.1
 exact ⟨by omega, hok.2.2, fun p hp => (atom_parts (hok.1 p hp)).2.1⟩

end Go.Proofs.YtmihponoillihaaGreatDoor

namespace Go.Proofs.YtmihponoillihaaGreatDoor
open Go.RowKit

theorem idx_first : ∀ {ns : List ByteArray} {k : Nat} {x : ByteArray}, ns[k]? = some x → (∀ i y, i < k → ns[i]? = some y → y ≠ x) → idxB ns x = some k
 | y :: l, 0, x, h, _ => by
   have : y = x := by simpa using h
   unfold idxB; rw [if_pos this]
 | y :: l, k + 1, x, h, hl => by
   have hx : l[k]? = some x := by simpa using h
   have hne : ¬ y = x := hl 0 y (Nat.succ_pos _) rfl
   unfold idxB
   rw [if_neg hne, idx_first hx (fun i z hi hz => hl (i + 1) z (by omega) (by simpa using hz))]; rfl
theorem idx_never {ns : List ByteArray} {x : ByteArray} (h : ∀ i y, i < ns.length → ns[i]? = some y → y ≠ x) : idxB ns x = none := by
 cases hi : idxB ns x with
 | none => rfl
 | some i => exact absurd rfl (h i x (idxB_lt hi) (idxB_some hi))

set_option maxRecDepth 100000 in
set_option maxHeartbeats 1000000 in
theorem bindGet_any (b : LB) (v u : Value) (x : ByteArray) (w : World) {S T : Nat → Prop} (hv : StrsR S w v b.ns) (hu : StrsR T w u b.vs) (hok : b.ok) :
 Calls Tryz.prog 338 #[.agg #[v, u], .string x] w fun e w' => e = .returned (.tuple #[.string ((b.get x).getD emptyB), .bool (b.get x).isSome]) ∧ Ext w w' := by
 obtain ⟨A, c, rfl, hc1, hc2⟩ := SliceR.form hv
 obtain ⟨B, d, rfl, hd1, hd2⟩ := SliceR.form hu
 have hx0 := (Ext.refl w).alloc (.cells #[.slice A b.ns.length c, .slice B b.vs.length d] 356)
 have HV := Lib.hid (hv.ext hx0)
 have HU := Lib.hid (hu.ext hx0)
 have HB := Lib.hid (Blk.new w 356 #[.slice A b.ns.length c, .slice B b.vs.length d])
 have HX0 := Lib.hid hx0
 have HOK := Lib.hid hok
 clear hv hu hx0 hok
 go_enter Tryz.func338, Tryz.ntmps338
 go_wp2
 go_loopw [6] (fun i wr => ∃ k : Nat, k ≤ b.ns.length ∧ i = .int .i64 k ∧ Hid (∀ i y, i < k → b.ns[i]? = some y → y ≠ x) ∧ Ext (w.alloc (.cells #[.slice A b.ns.length c, .slice B b.vs.length d] 356)) wr) (fun i _ => b.ns.length - (intOf i).toNat)
 case atStart => exact ⟨0, Nat.zero_le _, rfl, Lib.hid (fun i y h => absurd h (Nat.not_lt_zero _)), Ext.refl _⟩
 case round =>
  obtain ⟨k, hk, rfl, hp, hx⟩ := hrel
  have hk0 : (0 : Int) ≤ (k : Int) := by omega
  have hb1 := HB.out.ext hx
  have q0 := hb1.cell 0
  have q1 := hb1.cell 1
  have hl := hb1.lt
  clear hb1
  by_cases hlt : k < b.ns.length
  · have hk1 : (k : Int) < (b.ns.length : Int) := by omega
    have hk3 : k < b.vs.length := by have h := HOK.out; unfold LB.ok at h; omega
    have hk2 : (k : Int) < (b.vs.length : Int) := by omega
    obtain ⟨bb, off, y, rfl, hbb, hyk, hys, hc⟩ := StrsR.at_ (HV.out.ext hx) hlt
    obtain ⟨bc, off2, z, rfl, hbc, hzk, hzs, hc2'⟩ := StrsR.at_ (HU.out.ext hx) (k := k) hk3
    by_cases hyx : y = x
    · subst hyx
      have h3 : (y.toList == y.toList) = true := beq_self_eq_true _
      have HG := Lib.hid (show b.get y = some z from by unfold LB.get; rw [idx_first hyk hp.out]; exact hzk)
      clear hyk hzk hp
      go_wp2
      go_ret2
      rw [HG.out]
      exact ⟨rfl, HX0.out.trans' hx⟩
    · have h3 : (y.toList == x.toList) = false := str_ne' hyx
      have HP := Lib.hid (show ∀ i u, i < k + 1 → b.ns[i]? = some u → u ≠ x from fun i u hi hu => by
       rcases Nat.lt_or_ge i k with h | h
       · exact hp.out i u h hu
       · have e : i = k := by omega
         subst e
         rw [hyk] at hu; injection hu with hu
         exact fun e => hyx (hu.trans e))
      clear hyk hzk hp hyx
      go_wp2
      go_roundw
      case rel => exact ⟨k + 1, by omega, by go_num, HP, hx⟩
      case measure => simp [intOf]; omega
  · have HG := Lib.hid (show b.get x = none from by
      unfold LB.get
      rw [idx_never (fun i y hi hy => hp.out i y (by omega) hy)])
    clear hp
    go_wp2
    go_ret2
    rw [HG.out]
    exact ⟨rfl, HX0.out.trans' hx⟩

end Go.Proofs.YtmihponoillihaaGreatDoor
