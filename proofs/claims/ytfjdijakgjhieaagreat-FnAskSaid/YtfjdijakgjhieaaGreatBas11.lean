/- Part of the texts of a proof: own texts joined in the order of their building; what they say stands at each theorem. -/
import Derived.Test.YtfjdijakgjhieaaGreatBas08
import Derived.Test.YtfjdijakgjhieaaGreatBas10
namespace Go.Proofs.YtfjdijakgjhieaaGreat
set_option linter.unusedSimpArgs false
set_option linter.unusedVariables false
open Go.RowKit

/-- What the region has made. -/
def WithI (b : LB) (x y : ByteArray) (va vb : Value) (n : Nat) (w1 : World) (f : Nat → Bool) (a : Act) (w' : World) : Prop :=
 ∃ (t7 t8 t9 t10 t11 t12 t13 t14 t15 t16 t17 t18 t19 t20 t21 : Value) (L : Lot ByteArray) (w2 : World), a = { tmps := #[.agg #[va, vb], .string x, .string y, .pointer (some ⟨n, 0, none⟩), undef, undef, .pointer (some ⟨n + 1, 0, none⟩), t7, t8, t9, t10, t11, t12, t13, t14, t15, t16, t17, t18, t19, t20, t21], defers := [] } ∧
   (f 15 = false → w' = w2) ∧ (f 15 = true → w' = (w2.setCell ⟨n + 1, 0, none⟩ t13).setCell ⟨n + 1, 1, none⟩ t20) ∧ Below (n + 1 + 1) w1 w2 ∧ SepK kStr (n + 1 + 1) 9 w2 L ∧
   (f 0 = true → f 3 = false → L 0 = some (t7, [])) ∧
   (f 1 = true → t8 = .pointer (some ⟨n, 0, none⟩)) ∧
   (f 2 = true → t9 = va) ∧
   (f 3 = true → f 6 = false → L 0 = some (t10, b.ns)) ∧
   (f 4 = true → t11 = .string x) ∧
   (f 5 = true → f 6 = false → L 1 = some (t12, [x])) ∧
   (f 6 = true → L 0 = some (t13, b.ns ++ [x])) ∧
   (f 7 = true → f 10 = false → L 2 = some (t14, [])) ∧
   (f 8 = true → t15 = .pointer (some ⟨n, 1, none⟩)) ∧
   (f 9 = true → t16 = vb) ∧
   (f 10 = true → f 13 = false → L 2 = some (t17, b.vs)) ∧
   (f 11 = true → t18 = .string y) ∧
   (f 12 = true → f 13 = false → L 3 = some (t19, [y])) ∧
   (f 13 = true → L 2 = some (t20, b.vs ++ [y])) ∧
   (f 14 = true → t21 = .agg #[t13, t20])

set_option maxRecDepth 100000 in
set_option maxHeartbeats 8000000 in
theorem bindWith_any (b : LB) (v u : Value) (x y : ByteArray) (w : World) {S T : Nat → Prop} (hv : StrsR S w v b.ns) (hu : StrsR T w u b.vs) (hok : b.ok) (hn : b.ns.length ≤ 1000000) (hx : x.size ≤ maxLen) (hy : y.size ≤ maxLen) :
 Calls Tryz.prog 160 #[.agg #[v, u], .string x, .string y] w fun e w' => (∃ v' u', e = .returned (.agg #[v', u']) ∧ StrsR (From w.heap.size) w' v' (b.plus x y).ns ∧ StrsR (From w.heap.size) w' u' (b.plus x y).vs) ∧ Ext w w' := by
 obtain ⟨A, c, rfl, hc1, hc2⟩ := SliceR.form hv
 obtain ⟨B, d, rfl, hd1, hd2⟩ := SliceR.form hu
 have hvl : b.vs.length ≤ 1000000 := by have h : b.ns.length = b.vs.length := hok; omega
 obtain ⟨W0, hW0⟩ : ∃ W0, W0 = (w.alloc (.cells #[.slice A b.ns.length c, .slice B b.vs.length d] 113)).alloc (.cells #[.slice none 0 0, .slice none 0 0] 113) := ⟨_, rfl⟩
 have hB0 : Blk W0 w.heap.size 113 #[.slice A b.ns.length c, .slice B b.vs.length d] := by rw [hW0]; exact (Blk.new _ _ _).alloc _
 have hB1 : Blk W0 (w.heap.size + 1) 113 #[.slice none 0 0, .slice none 0 0] := by rw [hW0]; exact Blk.at_new (by simp)
 have hE0 : Ext w W0 := by rw [hW0]; exact ((Ext.refl _).alloc _).alloc _
 have hz : W0.heap.size = w.heap.size + 1 + 1 := by rw [hW0]; simp
 have EV : ∀ w', Ext w w' → ElemsK kStr None w' (.slice A b.ns.length c) b.ns := fun w' he => (ListK.imp (k := kStr) (S' := Any) (show ListK kStr S w _ _ from hv) (fun _ _ _ => trivial) (.of_ext he) he.size).elems
 have EU : ∀ w', Ext w w' → ElemsK kStr None w' (.slice B b.vs.length d) b.vs := fun w' he => (ListK.imp (k := kStr) (S' := Any) (show ListK kStr T w _ _ from hu) (fun _ _ _ => trivial) (.of_ext he) he.size).elems
 obtain ⟨j0, hj0, hj1, hj2, hj3⟩ : ∃ j0, Tryz.prog.info? 9 = some j0 ∧ j0.zero = some (.string ⟨#[]⟩) ∧ j0.size = 1 ∧ j0.bytes = 16 := ⟨_, rfl, rfl, rfl, rfl⟩
 go_enter Tryz.func160, Tryz.ntmps160
 go_wp2
 rw [← hW0]
 clear hW0
 refine wp_region_inv2 (by decide) (WithI b x y (.slice A b.ns.length c) (.slice B b.vs.length d) w.heap.size W0) ?_ ?_ ?_ ?_
 · intro i o ho
   have hi : i < 16 := (Array.getElem?_eq_some_iff.1 ho).1
   have hall : ∀ i : Fin 16, True := fun _ => trivial
   rcases (by omega : i = 0 ∨ i = 1 ∨ i = 2 ∨ i = 3 ∨ i = 4 ∨ i = 5 ∨ i = 6 ∨ i = 7 ∨ i = 8 ∨ i = 9 ∨ i = 10 ∨ i = 11 ∨ i = 12 ∨ i = 13 ∨ i = 14 ∨ i = 15) with rfl | rfl | rfl | rfl | rfl | rfl | rfl | rfl | rfl | rfl | rfl | rfl | rfl | rfl | rfl | rfl <;> (cases ho; decide)
 · intro i o f a w' ho hfi hcl haf hI
   obtain ⟨t7, t8, t9, t10, t11, t12, t13, t14, t15, t16, t17, t18, t19, t20, t21, L, w2, rfl, hw0, hw1, hbel, hsep, F0, F1, F2, F3, F4, F5, F6, F7, F8, F9, F10, F11, F12, F13, F14⟩ := hI
   have hi : i < 16 := (Array.getElem?_eq_some_iff.1 ho).1
   have e2_1 : f 2 = true → f 1 = true := fun h => hcl 2 _ rfl h ⟨1, .data⟩ (Array.mem_of_getElem? (i := 0) rfl) rfl
   have e3_0 : f 3 = true → f 0 = true := fun h => hcl 3 _ rfl h ⟨0, .data⟩ (Array.mem_of_getElem? (i := 0) rfl) rfl
   have e3_2 : f 3 = true → f 2 = true := fun h => hcl 3 _ rfl h ⟨2, .data⟩ (Array.mem_of_getElem? (i := 1) rfl) rfl
   have e5_4 : f 5 = true → f 4 = true := fun h => hcl 5 _ rfl h ⟨4, .data⟩ (Array.mem_of_getElem? (i := 0) rfl) rfl
   have e6_3 : f 6 = true → f 3 = true := fun h => hcl 6 _ rfl h ⟨3, .data⟩ (Array.mem_of_getElem? (i := 0) rfl) rfl
   have e6_5 : f 6 = true → f 5 = true := fun h => hcl 6 _ rfl h ⟨5, .data⟩ (Array.mem_of_getElem? (i := 1) rfl) rfl
   have e9_8 : f 9 = true → f 8 = true := fun h => hcl 9 _ rfl h ⟨8, .data⟩ (Array.mem_of_getElem? (i := 0) rfl) rfl
   have e10_7 : f 10 = true → f 7 = true := fun h => hcl 10 _ rfl h ⟨7, .data⟩ (Array.mem_of_getElem? (i := 0) rfl) rfl
   have e10_9 : f 10 = true → f 9 = true := fun h => hcl 10 _ rfl h ⟨9, .data⟩ (Array.mem_of_getElem? (i := 1) rfl) rfl
   have e10_6 : f 10 = true → f 6 = true := fun h => hcl 10 _ rfl h ⟨6, .chain⟩ (Array.mem_of_getElem? (i := 2) rfl) rfl
   have e12_11 : f 12 = true → f 11 = true := fun h => hcl 12 _ rfl h ⟨11, .data⟩ (Array.mem_of_getElem? (i := 0) rfl) rfl
   have e13_10 : f 13 = true → f 10 = true := fun h => hcl 13 _ rfl h ⟨10, .data⟩ (Array.mem_of_getElem? (i := 0) rfl) rfl
   have e13_12 : f 13 = true → f 12 = true := fun h => hcl 13 _ rfl h ⟨12, .data⟩ (Array.mem_of_getElem? (i := 1) rfl) rfl
   have e14_6 : f 14 = true → f 6 = true := fun h => hcl 14 _ rfl h ⟨6, .data⟩ (Array.mem_of_getElem? (i := 0) rfl) rfl
   have e14_13 : f 14 = true → f 13 = true := fun h => hcl 14 _ rfl h ⟨13, .data⟩ (Array.mem_of_getElem? (i := 1) rfl) rfl
   have e15_0 : f 15 = true → f 0 = true := fun h => hcl 15 _ rfl h ⟨0, .phase⟩ (Array.mem_of_getElem? (i := 2) rfl) rfl
   have e15_1 : f 15 = true → f 1 = true := fun h => hcl 15 _ rfl h ⟨1, .phase⟩ (Array.mem_of_getElem? (i := 3) rfl) rfl
   have e15_2 : f 15 = true → f 2 = true := fun h => hcl 15 _ rfl h ⟨2, .phase⟩ (Array.mem_of_getElem? (i := 4) rfl) rfl
   have e15_3 : f 15 = true → f 3 = true := fun h => hcl 15 _ rfl h ⟨3, .phase⟩ (Array.mem_of_getElem? (i := 5) rfl) rfl
   have e15_4 : f 15 = true → f 4 = true := fun h => hcl 15 _ rfl h ⟨4, .phase⟩ (Array.mem_of_getElem? (i := 6) rfl) rfl
   have e15_5 : f 15 = true → f 5 = true := fun h => hcl 15 _ rfl h ⟨5, .phase⟩ (Array.mem_of_getElem? (i := 7) rfl) rfl
   have e15_6 : f 15 = true → f 6 = true := fun h => hcl 15 _ rfl h ⟨6, .phase⟩ (Array.mem_of_getElem? (i := 8) rfl) rfl
   have e15_7 : f 15 = true → f 7 = true := fun h => hcl 15 _ rfl h ⟨7, .phase⟩ (Array.mem_of_getElem? (i := 9) rfl) rfl
   have e15_8 : f 15 = true → f 8 = true := fun h => hcl 15 _ rfl h ⟨8, .phase⟩ (Array.mem_of_getElem? (i := 10) rfl) rfl
   have e15_9 : f 15 = true → f 9 = true := fun h => hcl 15 _ rfl h ⟨9, .phase⟩ (Array.mem_of_getElem? (i := 11) rfl) rfl
   have e15_10 : f 15 = true → f 10 = true := fun h => hcl 15 _ rfl h ⟨10, .phase⟩ (Array.mem_of_getElem? (i := 12) rfl) rfl
   have e15_11 : f 15 = true → f 11 = true := fun h => hcl 15 _ rfl h ⟨11, .phase⟩ (Array.mem_of_getElem? (i := 13) rfl) rfl
   have e15_12 : f 15 = true → f 12 = true := fun h => hcl 15 _ rfl h ⟨12, .phase⟩ (Array.mem_of_getElem? (i := 14) rfl) rfl
   have e15_13 : f 15 = true → f 13 = true := fun h => hcl 15 _ rfl h ⟨13, .phase⟩ (Array.mem_of_getElem? (i := 15) rfl) rfl
   have e15_14 : f 15 = true → f 14 = true := fun h => hcl 15 _ rfl h ⟨14, .phase⟩ (Array.mem_of_getElem? (i := 16) rfl) rfl
   have hsz : w.heap.size + 1 + 1 ≤ w2.heap.size := by have := hbel.size; omega
   have hxw : Ext w w2 := Below.trans hE0 (hbel.mono (by omega))
   have hb0 := hB0.below hbel (by omega)
   have hb1 := hB1.below hbel (by omega)
   rcases (by omega : i = 0 ∨ i = 1 ∨ i = 2 ∨ i = 3 ∨ i = 4 ∨ i = 5 ∨ i = 6 ∨ i = 7 ∨ i = 8 ∨ i = 9 ∨ i = 10 ∨ i = 11 ∨ i = 12 ∨ i = 13 ∨ i = 14 ∨ i = 15) with rfl | rfl | rfl | rfl | rfl | rfl | rfl | rfl | rfl | rfl | rfl | rfl | rfl | rfl | rfl | rfl
   · -- 0
     cases ho
     obtain rfl : w' = w2 := hw0 (by cases h : f 15 with | false => rfl | true => exact absurd (e15_0 h) (by rw [hfi]; decide))
     have h15 : f 15 = false := by cases h : f 15 with | false => rfl | true => exact absurd (e15_0 h) (by rw [hfi]; decide)
     refine wpOp_of rfl rfl ?_
     go_simp
     exact ⟨(.slice (some ⟨w'.heap.size, 0, none⟩) 0 0), t8, t9, t10, t11, t12, t13, t14, t15, t16, t17, t18, t19, t20, t21, L.upd 0 ((.slice (some ⟨w'.heap.size, 0, none⟩) 0 0), []), w'.alloc (.cells #[] 9), rfl, fun _ => rfl, fun h => absurd h (by show ¬ f 15 = true; rw [h15]; decide), hbel.alloc hsz _, hsep.put ((Ext.refl _).alloc _) 0 (OwnK.empty rfl hsz) (fun g h => by cases h; exact Nat.le_refl _), (fun _ _ => rfl), F1, F2, (fun h => absurd (e3_0 h) (by rw [hfi]; decide)), F4, F5, (fun h => absurd (e3_0 (e6_3 h)) (by rw [hfi]; decide)), F7, F8, F9, F10, F11, F12, F13, F14⟩
   · -- 1
     cases ho
     obtain rfl : w' = w2 := hw0 (by cases h : f 15 with | false => rfl | true => exact absurd (e15_1 h) (by rw [hfi]; decide))
     have h15 : f 15 = false := by cases h : f 15 with | false => rfl | true => exact absurd (e15_1 h) (by rw [hfi]; decide)
     refine wpOp_of rfl rfl ?_
     go_simp
     exact ⟨t7, (.pointer (some ⟨w.heap.size, 0, none⟩)), t9, t10, t11, t12, t13, t14, t15, t16, t17, t18, t19, t20, t21, L, w', rfl, fun _ => rfl, fun h => absurd h (by show ¬ f 15 = true; rw [h15]; decide), hbel, hsep, F0, (fun _ => rfl), F2, F3, F4, F5, F6, F7, F8, F9, F10, F11, F12, F13, F14⟩
   · -- 2
     cases ho
     have a1 : f 1 = true := haf ⟨1, .data⟩ (Array.mem_of_getElem? (i := 0) rfl) rfl
     obtain rfl : w' = w2 := hw0 (by cases h : f 15 with | false => rfl | true => exact absurd (e15_2 h) (by rw [hfi]; decide))
     have h15 : f 15 = false := by cases h : f 15 with | false => rfl | true => exact absurd (e15_2 h) (by rw [hfi]; decide)
     refine wpOp_of rfl rfl ?_
     obtain rfl := F1 a1
     have q0 := hb0.cell 0
     have q1 := hb0.lt
     go_simp
     exact ⟨t7, _, (.slice A b.ns.length c), t10, t11, t12, t13, t14, t15, t16, t17, t18, t19, t20, t21, L, w', rfl, fun _ => rfl, fun h => absurd h (by show ¬ f 15 = true; rw [h15]; decide), hbel, hsep, F0, F1, (fun _ => rfl), F3, F4, F5, F6, F7, F8, F9, F10, F11, F12, F13, F14⟩
   · -- 3
     cases ho
     have a0 : f 0 = true := haf ⟨0, .data⟩ (Array.mem_of_getElem? (i := 0) rfl) rfl
     have a2 : f 2 = true := haf ⟨2, .data⟩ (Array.mem_of_getElem? (i := 1) rfl) rfl
     obtain rfl : w' = w2 := hw0 (by cases h : f 15 with | false => rfl | true => exact absurd (e15_3 h) (by rw [hfi]; decide))
     have h15 : f 15 = false := by cases h : f 15 with | false => rfl | true => exact absurd (e15_3 h) (by rw [hfi]; decide)
     refine wpOp_of rfl rfl ?_
     obtain rfl := F2 a2
     have hl := F0 a0 hfi
     refine wp_appK w' (k := kStr) (S := None) (T := None) (base := w.heap.size + 1 + 1) (xs := []) (ys := b.ns) (.tmp 7) (.tmp 9) 56 rfl j0 _ 16 rfl hj0 hj1 hj2 hj3 rfl rfl (hsep.at_ hl) _ _ _ rfl (EV _ hxw) (fun _ h => h.elim) (fun _ _ h => h) (by simp; unfold maxLen; omega) (by simp; omega) hsz ?_
     intro v1 w3 ha
     exact ⟨t7, t8, _, v1, t11, t12, t13, t14, t15, t16, t17, t18, t19, t20, t21, L.upd 0 (v1, b.ns), w3, rfl, fun _ => rfl, fun h => absurd h (by show ¬ f 15 = true; rw [h15]; decide), hbel.trans ha.below, hsep.app hl ha, (fun _ h => by simp at h), F1, F2, (fun _ _ => rfl), F4, F5, (fun h => absurd (e6_3 h) (by rw [hfi]; decide)), F7, F8, F9, F10, F11, F12, F13, F14⟩
   · -- 4
     cases ho
     obtain rfl : w' = w2 := hw0 (by cases h : f 15 with | false => rfl | true => exact absurd (e15_4 h) (by rw [hfi]; decide))
     have h15 : f 15 = false := by cases h : f 15 with | false => rfl | true => exact absurd (e15_4 h) (by rw [hfi]; decide)
     refine wpOp_of rfl rfl ?_
     go_simp
     exact ⟨t7, t8, t9, t10, (.string x), t12, t13, t14, t15, t16, t17, t18, t19, t20, t21, L, w', rfl, fun _ => rfl, fun h => absurd h (by show ¬ f 15 = true; rw [h15]; decide), hbel, hsep, F0, F1, F2, F3, (fun _ => rfl), F5, F6, F7, F8, F9, F10, F11, F12, F13, F14⟩
   · -- 5
     cases ho
     have a4 : f 4 = true := haf ⟨4, .data⟩ (Array.mem_of_getElem? (i := 0) rfl) rfl
     obtain rfl : w' = w2 := hw0 (by cases h : f 15 with | false => rfl | true => exact absurd (e15_5 h) (by rw [hfi]; decide))
     have h15 : f 15 = false := by cases h : f 15 with | false => rfl | true => exact absurd (e15_5 h) (by rw [hfi]; decide)
     refine wpOp_of rfl rfl ?_
     obtain rfl := F4 a4
     go_simp
     exact ⟨t7, t8, t9, t10, .string x, (.slice (some ⟨w'.heap.size, 0, none⟩) 1 1), t13, t14, t15, t16, t17, t18, t19, t20, t21, L.upd 1 ((.slice (some ⟨w'.heap.size, 0, none⟩) 1 1), [x]), w'.alloc (.cells #[.string x] 9), rfl, fun _ => rfl, fun h => absurd h (by show ¬ f 15 = true; rw [h15]; decide), hbel.alloc hsz _, hsep.put ((Ext.refl _).alloc _) 1 (OwnK.word hsz hx) (fun g h => by cases h; exact Nat.le_refl _), F0, F1, F2, F3, F4, (fun _ _ => rfl), F6, F7, F8, F9, F10, F11, F12, F13, F14⟩
   · -- 6
     cases ho
     have a3 : f 3 = true := haf ⟨3, .data⟩ (Array.mem_of_getElem? (i := 0) rfl) rfl
     have a5 : f 5 = true := haf ⟨5, .data⟩ (Array.mem_of_getElem? (i := 1) rfl) rfl
     obtain rfl : w' = w2 := hw0 (by cases h : f 15 with | false => rfl | true => exact absurd (e15_6 h) (by rw [hfi]; decide))
     have h15 : f 15 = false := by cases h : f 15 with | false => rfl | true => exact absurd (e15_6 h) (by rw [hfi]; decide)
     refine wpOp_of rfl rfl ?_
     have hl := F3 a3 hfi
     have hm := F5 a5 hfi
     obtain ⟨E1, ce, rfl, _, _⟩ := (hsep.at_ hm).form
     refine wp_appK w' (k := kStr) (S := None) (T := None) (base := w.heap.size + 1 + 1) (xs := b.ns) (ys := [x]) (.tmp 10) (.tmp 12) 56 rfl j0 _ 16 rfl hj0 hj1 hj2 hj3 rfl rfl (hsep.at_ hl) E1 _ ce rfl ((hsep.at_ hm).list (S' := Any) (fun _ _ => trivial) (fun _ _ => trivial)).elems (fun _ h => h.elim) (fun _ _ h => h) (by simp; unfold maxLen; omega) (by simp; omega) hsz ?_
     intro v1 w3 ha
     exact ⟨t7, t8, t9, t10, t11, _, v1, t14, t15, t16, t17, t18, t19, t20, t21, L.upd 0 (v1, b.ns ++ [x]), w3, rfl, fun _ => rfl, fun h => absurd h (by show ¬ f 15 = true; rw [h15]; decide), hbel.trans ha.below, hsep.app hl ha, (fun _ h => by have h' : f 3 = false := h; rw [a3] at h'; cases h'), F1, F2, (fun _ h => by simp at h), F4, (fun _ h => by simp at h), (fun _ => rfl), F7, F8, F9, F10, F11, F12, F13, (fun h => absurd (e14_6 h) (by rw [hfi]; decide))⟩
   · -- 7
     cases ho
     obtain rfl : w' = w2 := hw0 (by cases h : f 15 with | false => rfl | true => exact absurd (e15_7 h) (by rw [hfi]; decide))
     have h15 : f 15 = false := by cases h : f 15 with | false => rfl | true => exact absurd (e15_7 h) (by rw [hfi]; decide)
     refine wpOp_of rfl rfl ?_
     go_simp
     exact ⟨t7, t8, t9, t10, t11, t12, t13, (.slice (some ⟨w'.heap.size, 0, none⟩) 0 0), t15, t16, t17, t18, t19, t20, t21, L.upd 2 ((.slice (some ⟨w'.heap.size, 0, none⟩) 0 0), []), w'.alloc (.cells #[] 9), rfl, fun _ => rfl, fun h => absurd h (by show ¬ f 15 = true; rw [h15]; decide), hbel.alloc hsz _, hsep.put ((Ext.refl _).alloc _) 2 (OwnK.empty rfl hsz) (fun g h => by cases h; exact Nat.le_refl _), F0, F1, F2, F3, F4, F5, F6, (fun _ _ => rfl), F8, F9, (fun h => absurd (e10_7 h) (by rw [hfi]; decide)), F11, F12, (fun h => absurd (e10_7 (e13_10 h)) (by rw [hfi]; decide)), F14⟩
   · -- 8
     cases ho
     obtain rfl : w' = w2 := hw0 (by cases h : f 15 with | false => rfl | true => exact absurd (e15_8 h) (by rw [hfi]; decide))
     have h15 : f 15 = false := by cases h : f 15 with | false => rfl | true => exact absurd (e15_8 h) (by rw [hfi]; decide)
     refine wpOp_of rfl rfl ?_
     go_simp
     exact ⟨t7, t8, t9, t10, t11, t12, t13, t14, (.pointer (some ⟨w.heap.size, 1, none⟩)), t16, t17, t18, t19, t20, t21, L, w', rfl, fun _ => rfl, fun h => absurd h (by show ¬ f 15 = true; rw [h15]; decide), hbel, hsep, F0, F1, F2, F3, F4, F5, F6, F7, (fun _ => rfl), F9, F10, F11, F12, F13, F14⟩
   · -- 9
     cases ho
     have a8 : f 8 = true := haf ⟨8, .data⟩ (Array.mem_of_getElem? (i := 0) rfl) rfl
     obtain rfl : w' = w2 := hw0 (by cases h : f 15 with | false => rfl | true => exact absurd (e15_9 h) (by rw [hfi]; decide))
     have h15 : f 15 = false := by cases h : f 15 with | false => rfl | true => exact absurd (e15_9 h) (by rw [hfi]; decide)
     refine wpOp_of rfl rfl ?_
     obtain rfl := F8 a8
     have q0 := hb0.cell 1
     have q1 := hb0.lt
     go_simp
     exact ⟨t7, t8, t9, t10, t11, t12, t13, t14, _, (.slice B b.vs.length d), t17, t18, t19, t20, t21, L, w', rfl, fun _ => rfl, fun h => absurd h (by show ¬ f 15 = true; rw [h15]; decide), hbel, hsep, F0, F1, F2, F3, F4, F5, F6, F7, F8, (fun _ => rfl), F10, F11, F12, F13, F14⟩
   · -- 10
     cases ho
     have a7 : f 7 = true := haf ⟨7, .data⟩ (Array.mem_of_getElem? (i := 0) rfl) rfl
     have a9 : f 9 = true := haf ⟨9, .data⟩ (Array.mem_of_getElem? (i := 1) rfl) rfl
     have a6 : f 6 = true := haf ⟨6, .chain⟩ (Array.mem_of_getElem? (i := 2) rfl) rfl
     obtain rfl : w' = w2 := hw0 (by cases h : f 15 with | false => rfl | true => exact absurd (e15_10 h) (by rw [hfi]; decide))
     have h15 : f 15 = false := by cases h : f 15 with | false => rfl | true => exact absurd (e15_10 h) (by rw [hfi]; decide)
     refine wpOp_of rfl rfl ?_
     obtain rfl := F9 a9
     have hl := F7 a7 hfi
     refine wp_appK w' (k := kStr) (S := None) (T := None) (base := w.heap.size + 1 + 1) (xs := []) (ys := b.vs) (.tmp 14) (.tmp 16) 56 rfl j0 _ 16 rfl hj0 hj1 hj2 hj3 rfl rfl (hsep.at_ hl) _ _ _ rfl (EU _ hxw) (fun _ h => h.elim) (fun _ _ h => h) (by simp; unfold maxLen; omega) (by simp; omega) hsz ?_
     intro v1 w3 ha
     exact ⟨t7, t8, t9, t10, t11, t12, t13, t14, t15, _, v1, t18, t19, t20, t21, L.upd 2 (v1, b.vs), w3, rfl, fun _ => rfl, fun h => absurd h (by show ¬ f 15 = true; rw [h15]; decide), hbel.trans ha.below, hsep.app hl ha, F0, F1, F2, F3, F4, F5, F6, (fun _ h => by simp at h), F8, F9, (fun _ _ => rfl), F11, F12, (fun h => absurd (e13_10 h) (by rw [hfi]; decide)), F14⟩
   · -- 11
     cases ho
     obtain rfl : w' = w2 := hw0 (by cases h : f 15 with | false => rfl | true => exact absurd (e15_11 h) (by rw [hfi]; decide))
     have h15 : f 15 = false := by cases h : f 15 with | false => rfl | true => exact absurd (e15_11 h) (by rw [hfi]; decide)
     refine wpOp_of rfl rfl ?_
     go_simp
     exact ⟨t7, t8, t9, t10, t11, t12, t13, t14, t15, t16, t17, (.string y), t19, t20, t21, L, w', rfl, fun _ => rfl, fun h => absurd h (by show ¬ f 15 = true; rw [h15]; decide), hbel, hsep, F0, F1, F2, F3, F4, F5, F6, F7, F8, F9, F10, (fun _ => rfl), F12, F13, F14⟩
   · -- 12
     cases ho
     have a11 : f 11 = true := haf ⟨11, .data⟩ (Array.mem_of_getElem? (i := 0) rfl) rfl
     obtain rfl : w' = w2 := hw0 (by cases h : f 15 with | false => rfl | true => exact absurd (e15_12 h) (by rw [hfi]; decide))
     have h15 : f 15 = false := by cases h : f 15 with | false => rfl | true => exact absurd (e15_12 h) (by rw [hfi]; decide)
     refine wpOp_of rfl rfl ?_
     obtain rfl := F11 a11
     go_simp
     exact ⟨t7, t8, t9, t10, t11, t12, t13, t14, t15, t16, t17, .string y, (.slice (some ⟨w'.heap.size, 0, none⟩) 1 1), t20, t21, L.upd 3 ((.slice (some ⟨w'.heap.size, 0, none⟩) 1 1), [y]), w'.alloc (.cells #[.string y] 9), rfl, fun _ => rfl, fun h => absurd h (by show ¬ f 15 = true; rw [h15]; decide), hbel.alloc hsz _, hsep.put ((Ext.refl _).alloc _) 3 (OwnK.word hsz hy) (fun g h => by cases h; exact Nat.le_refl _), F0, F1, F2, F3, F4, F5, F6, F7, F8, F9, F10, F11, (fun _ _ => rfl), F13, F14⟩
   · -- 13
     cases ho
     have a10 : f 10 = true := haf ⟨10, .data⟩ (Array.mem_of_getElem? (i := 0) rfl) rfl
     have a12 : f 12 = true := haf ⟨12, .data⟩ (Array.mem_of_getElem? (i := 1) rfl) rfl
     obtain rfl : w' = w2 := hw0 (by cases h : f 15 with | false => rfl | true => exact absurd (e15_13 h) (by rw [hfi]; decide))
     have h15 : f 15 = false := by cases h : f 15 with | false => rfl | true => exact absurd (e15_13 h) (by rw [hfi]; decide)
     refine wpOp_of rfl rfl ?_
     have hl := F10 a10 hfi
     have hm := F12 a12 hfi
     obtain ⟨E1, ce, rfl, _, _⟩ := (hsep.at_ hm).form
     refine wp_appK w' (k := kStr) (S := None) (T := None) (base := w.heap.size + 1 + 1) (xs := b.vs) (ys := [y]) (.tmp 17) (.tmp 19) 56 rfl j0 _ 16 rfl hj0 hj1 hj2 hj3 rfl rfl (hsep.at_ hl) E1 _ ce rfl ((hsep.at_ hm).list (S' := Any) (fun _ _ => trivial) (fun _ _ => trivial)).elems (fun _ h => h.elim) (fun _ _ h => h) (by simp; unfold maxLen; omega) (by simp; omega) hsz ?_
     intro v1 w3 ha
     exact ⟨t7, t8, t9, t10, t11, t12, t13, t14, t15, t16, t17, t18, _, v1, t21, L.upd 2 (v1, b.vs ++ [y]), w3, rfl, fun _ => rfl, fun h => absurd h (by show ¬ f 15 = true; rw [h15]; decide), hbel.trans ha.below, hsep.app hl ha, F0, F1, F2, F3, F4, F5, F6, (fun _ h => by have h' : f 10 = false := h; rw [a10] at h'; cases h'), F8, F9, (fun _ h => by simp at h), F11, (fun _ h => by simp at h), (fun _ => rfl), (fun h => absurd (e14_13 h) (by rw [hfi]; decide))⟩
   · -- 14
     cases ho
     have a6 : f 6 = true := haf ⟨6, .data⟩ (Array.mem_of_getElem? (i := 0) rfl) rfl
     have a13 : f 13 = true := haf ⟨13, .data⟩ (Array.mem_of_getElem? (i := 1) rfl) rfl
     obtain rfl : w' = w2 := hw0 (by cases h : f 15 with | false => rfl | true => exact absurd (e15_14 h) (by rw [hfi]; decide))
     have h15 : f 15 = false := by cases h : f 15 with | false => rfl | true => exact absurd (e15_14 h) (by rw [hfi]; decide)
     refine wpOp_of rfl rfl ?_
     obtain ⟨A1, n1, c1, rfl, _, _⟩ := (hsep.at_ (F6 a6)).form2
     obtain ⟨A2, n2, c2, rfl, _, _⟩ := (hsep.at_ (F13 a13)).form2
     go_simp
     exact ⟨t7, t8, t9, t10, t11, t12, _, t14, t15, t16, t17, t18, t19, _, _, L, w', rfl, fun _ => rfl, fun h => absurd h (by show ¬ f 15 = true; rw [h15]; decide), hbel, hsep, F0, F1, F2, F3, F4, F5, F6, F7, F8, F9, F10, F11, F12, F13, (fun _ => rfl)⟩
   · -- 15
     cases ho
     have a6 : f 6 = true := haf ⟨6, .phase⟩ (Array.mem_of_getElem? (i := 8) rfl) rfl
     have a13 : f 13 = true := haf ⟨13, .phase⟩ (Array.mem_of_getElem? (i := 15) rfl) rfl
     have a14 : f 14 = true := haf ⟨14, .phase⟩ (Array.mem_of_getElem? (i := 16) rfl) rfl
     obtain rfl : w' = w2 := hw0 hfi
     refine wpOp_of rfl rfl ?_
     obtain rfl := F14 a14
     have o0 := hb1.cell 0
     have o1 := hb1.cell 1
     have of0 := hb1.frozen 0
     have of1 := hb1.frozen 1
     have hs0 := hb1.lt
     obtain ⟨A1, n1, c1, rfl, _, _⟩ := (hsep.at_ (F6 a6)).form2
     obtain ⟨A2, n2, c2, rfl, _, _⟩ := (hsep.at_ (F13 a13)).form2
     go_simp
     exact ⟨_, _, _, _, _, _, _, _, _, _, _, _, _, _, _, L, w', rfl, fun h => by simp at h, fun _ => rfl, hbel, hsep, F0, F1, F2, F3, F4, F5, F6, F7, F8, F9, F10, F11, F12, F13, (fun _ => rfl)⟩
 · intro f a w' hall hI
   obtain ⟨t7, t8, t9, t10, t11, t12, t13, t14, t15, t16, t17, t18, t19, t20, t21, L, w2, rfl, hw0, hw1, hbel, hsep, F0, F1, F2, F3, F4, F5, F6, F7, F8, F9, F10, F11, F12, F13, F14⟩ := hI
   obtain rfl := hw1 (hall 15 (by decide))
   have hsz : w.heap.size + 1 + 1 ≤ w2.heap.size := by have := hbel.size; omega
   have hxw : Ext w w2 := Below.trans hE0 (hbel.mono (by omega))
   have hb1 := hB1.below hbel (by omega)
   obtain ⟨A1, n1, c1, rfl, _, _⟩ := (hsep.at_ (F6 (hall 6 (by decide)))).form2
   obtain ⟨A2, n2, c2, rfl, _, _⟩ := (hsep.at_ (F13 (hall 13 (by decide)))).form2
   have o0 := hb1.cell 0
   have o1 := hb1.cell 1
   have of0 := hb1.frozen 0
   have of1 := hb1.frozen 1
   have hs0 := hb1.lt
   have h1 := ((hsep.at_ (F6 (hall 6 (by decide)))).list (S' := From (w.heap.size + 1 + 1)) (fun _ h => h.elim) (fun g hg => hg))
   have h2 := ((hsep.at_ (F13 (hall 13 (by decide)))).list (S' := From (w.heap.size + 1 + 1)) (fun _ h => h.elim) (fun g hg => hg))
   go_wp2
   clear hall
   refine bodyPost_ret (v := .agg #[.slice A1 n1 c1, .slice A2 n2 c2]) (by simp [results, Tryz.results160, go_sem, o0, o1, of0, of1, hs0]) rfl ?_
   have hag : Agree (From (w.heap.size + 1 + 1)) w2 ((w2.setCell ⟨w.heap.size + 1, 0, none⟩ (.slice A1 n1 c1)).setCell ⟨w.heap.size + 1, 1, none⟩ (.slice A2 n2 c2)) :=
    ((Agree.refl _ _).setCell (fun hb => by unfold From at hb; dsimp only at hb; omega) _).setCell (fun hb => by unfold From at hb; dsimp only at hb; omega) _
   exact ⟨⟨_, _, rfl, h1.imp (fun g hg _ => by unfold From at *; omega) hag (by go_size), h2.imp (fun g hg _ => by unfold From at *; omega) hag (by go_size)⟩,
    Ext.setNew (a := w) (Ext.setNew hxw (by show w.heap.size ≤ w.heap.size + 1; omega) _) (by show w.heap.size ≤ w.heap.size + 1; omega) _⟩
 · refine ⟨undef, undef, undef, undef, undef, undef, undef, undef, undef, undef, undef, undef, undef, undef, undef, fun _ => none, { W0 with drawn := W0.drawn + 1 }, rfl, fun _ => rfl, fun h => by simp at h, Below.drew (Below.refl _ _), SepK.none, (by simp), (by simp), (by simp), (by simp), (by simp), (by simp), (by simp), (by simp), (by simp), (by simp), (by simp), (by simp), (by simp), (by simp), (by simp)⟩

end Go.Proofs.YtfjdijakgjhieaaGreat

namespace Go.Proofs.YtfjdijakgjhieaaGreat
set_option linter.unusedSimpArgs false
set_option linter.unusedVariables false
open Go.RowKit

theorem matchL_drop {ts fs : List GT} {k : Nat} {t f : GT} {b : LB} (ht : ts[k]? = some t) (hf : fs[k]? = some f) :
 matchL (ts.drop k) (fs.drop k) b = if (matchT t f b).2 then matchL (ts.drop (k + 1)) (fs.drop (k + 1)) (matchT t f b).1 else ((matchT t f b).1, false) := by
 rw [drop_cons ht, drop_cons hf]; rfl
theorem matchL_end {ts fs : List GT} {k : Nat} {b : LB} (h : ts.length ≤ k) : matchL (ts.drop k) (fs.drop k) b = (b, true) := by
 rw [List.drop_eq_nil_of_le h]
 cases fs.drop k <;> rfl
/-- A binding whose words lie apart from the boxes. -/
def Bound (V : Nat → Prop) (N : Nat) (w : World) (v u : Value) (b : LB) : Prop := StrsR (fun i => (V i ∧ i < N) ∨ N + 1 + 1 + 1 + 1 ≤ i) w v b.ns ∧ StrsR (fun i => (V i ∧ i < N) ∨ N + 1 + 1 + 1 + 1 ≤ i) w u b.vs ∧ b.ok
theorem Bound.ext {V : Nat → Prop} {N : Nat} {w w' : World} {v u : Value} {b : LB} (h : Bound V N w v u b) (hx : Ext w w') : Bound V N w' v u b := ⟨h.1.ext hx, h.2.1.ext hx, h.2.2⟩
theorem Bound.set {V : Nat → Prop} {N : Nat} {w : World} {v u : Value} {b : LB} (h : Bound V N w v u b) {p : Addr} (h1 : N ≤ p.block) (h2 : p.block < N + 1 + 1 + 1 + 1) (z : Value) : Bound V N (w.setCell p z) v u b := by
 have hag : Agree (fun i => (V i ∧ i < N) ∨ N + 1 + 1 + 1 + 1 ≤ i) w (w.setCell p z) := (Agree.refl _ _).setCell (fun hb => by rcases hb with hb | hb <;> omega) z
 exact ⟨h.1.imp (fun _ h => h) hag (by go_size), h.2.1.imp (fun _ h => h) hag (by go_size), h.2.2⟩

set_option maxRecDepth 100000 in
set_option maxHeartbeats 8000000 in
theorem l4Match_any (a f : GA) (b : LB) (v u x y : Value) (w : World) {S T V : Nat → Prop} (hv : TermsR S w v a.args) (hu : TermsR T w u f.args) (hx : StrsR V w x b.ns) (hy : StrsR V w y b.vs) (hok : b.ok) (hns : b.ns.length + a.args.length ≤ 1000000) :
 Calls Tryz.prog 119 #[.agg #[.string a.n, v], .agg #[.string f.n, u], .agg #[x, y]] w fun e w' => (∃ x' y', e = .returned (.tuple #[.agg #[x', y'], .bool (matchN a f b).2]) ∧ StrsR (fun i => (V i ∧ i < w.heap.size) ∨ w.heap.size ≤ i) w' x' (matchN a f b).1.ns ∧ StrsR (fun i => (V i ∧ i < w.heap.size) ∨ w.heap.size ≤ i) w' y' (matchN a f b).1.vs ∧ (matchN a f b).1.ok) ∧ Ext w w' := by
 obtain ⟨A, c, rfl, hc1, hc2⟩ := SliceR.form hv
 obtain ⟨B, d, rfl, hd1, hd2⟩ := SliceR.form hu
 obtain ⟨X, e, rfl, he1, he2⟩ := SliceR.form hx
 obtain ⟨Y, g, rfl, hg1, hg2⟩ := SliceR.form hy
 have HV := Lib.hid hv
 have HU := Lib.hid hu
 obtain ⟨W0, hW0⟩ : ∃ W0, W0 = (((w.alloc (.cells #[.string a.n, .slice A a.args.length c] 26)).alloc (.cells #[.string f.n, .slice B f.args.length d] 26)).alloc (.cells #[.slice X b.ns.length e, .slice Y b.vs.length g] 113)).alloc (.cells #[.slice none 0 0, .slice none 0 0] 113) := ⟨_, rfl⟩
 have hB0 : Blk W0 w.heap.size 26 #[.string a.n, .slice A a.args.length c] := by rw [hW0]; exact (((Blk.new _ _ _).alloc _).alloc _).alloc _
 have hB1 : Blk W0 (w.heap.size + 1) 26 #[.string f.n, .slice B f.args.length d] := by rw [hW0]; exact ((Blk.at_new (by simp)).alloc _).alloc _
 have hB2 : Blk W0 (w.heap.size + 1 + 1) 113 #[.slice X b.ns.length e, .slice Y b.vs.length g] := by rw [hW0]; exact (Blk.at_new (by simp)).alloc _
 have hB3 : Blk W0 (w.heap.size + 1 + 1 + 1) 113 #[.slice none 0 0, .slice none 0 0] := by rw [hW0]; exact Blk.at_new (by simp)
 have HE0 := Lib.hid (show Ext w W0 from by rw [hW0]; exact ((((Ext.refl _).alloc _).alloc _).alloc _).alloc _)
 have hz : W0.heap.size = w.heap.size + 1 + 1 + 1 + 1 := by rw [hW0]; simp
 have HBD := Lib.hid (show Bound V w.heap.size W0 (.slice X b.ns.length e) (.slice Y b.vs.length g) b from ⟨(hx.impL (fun i hV h => .inl ⟨hV, h⟩) (Agree.of_ext HE0.out) HE0.out.size), (hy.impL (fun i hV h => .inl ⟨hV, h⟩) (Agree.of_ext HE0.out) HE0.out.size), hok⟩)
 have HBW := Lib.hid (show Bound V w.heap.size w (.slice X b.ns.length e) (.slice Y b.vs.length g) b from ⟨hx.impL (fun i hV h => .inl ⟨hV, h⟩) (Agree.refl _ _) (Nat.le_refl _), hy.impL (fun i hV h => .inl ⟨hV, h⟩) (Agree.refl _ _) (Nat.le_refl _), hok⟩)
 have HW0 := Lib.hid hW0
 have HZ := Lib.hid hz
 have HB0 := Lib.hid hB0
 have HB1 := Lib.hid hB1
 have HB2 := Lib.hid hB2
 have HB3 := Lib.hid hB3
 by_cases hne : a.n = f.n ∧ a.args.length = f.args.length
 · obtain ⟨hn1, hl1⟩ := hne
   have HM := Lib.hid (show matchN a f b = matchL a.args f.args b from if_pos ⟨hn1, hl1⟩)
   have g1 : (a.n.toList == f.n.toList) = true := by rw [hn1]; exact beq_self_eq_true _
   have g2 : (((a.args.length : Nat) : Int) != ((f.args.length : Nat) : Int)) = false := by rw [hl1]; simp
   have HL1 := Lib.hid hl1
   clear hv hu hx hy hok hn1 hl1 hB0 hB1 hB2 hB3
   go_enter Tryz.func119, Tryz.ntmps119
   go_wp2
   try simp only [g2]
   rw [← HW0.out]
   clear hW0 hz
   go_loopw [8] (fun i wr => ∃ (k : Nat) (b' : LB) (vx vy : Value), k ≤ a.args.length ∧ i = .int .i64 k ∧ Hid (matchL a.args f.args b = matchL (a.args.drop k) (f.args.drop k) b') ∧ Hid (b'.ns.length ≤ b.ns.length + k) ∧ Hid (Blk wr (w.heap.size + 1 + 1) 113 #[vx, vy]) ∧ Hid (Bound V w.heap.size wr vx vy b') ∧ Hid (Blk wr (w.heap.size + 1 + 1 + 1) 113 #[.slice none 0 0, .slice none 0 0]) ∧ Hid (Below (w.heap.size + 1 + 1) W0 wr)) (fun i _ => a.args.length - (intOf i).toNat)
   case atStart => exact ⟨0, b, _, _, Nat.zero_le _, rfl, Lib.hid rfl, Lib.hid (Nat.le_refl _), HB2, HBD, HB3, Lib.hid (Below.refl _ _)⟩
   case round =>
    obtain ⟨k, b', vx, vy, hk, rfl, hml, hnl, hbb, hbd, hbr, hbel⟩ := hrel
    have hk0 : (0 : Int) ≤ (k : Int) := by omega
    have hbsz := hbel.out.size
    rw [HZ.out] at hbsz
    have hxw : Ext w wr := Below.trans HE0.out (hbel.out.mono (by omega))
    obtain ⟨X1, e1, rfl, hx11, hx12⟩ := SliceR.form hbd.out.1
    obtain ⟨Y1, g1', rfl, hy11, hy12⟩ := SliceR.form hbd.out.2.1
    have hb0 := HB0.out.below hbel.out (by omega)
    have hb1 := HB1.out.below hbel.out (by omega)
    have q0 := hb0.cell 0
    have q1 := hb0.cell 1
    have p0 := hb1.cell 0
    have p1 := hb1.cell 1
    have o0 := hbb.out.cell 0
    have o1 := hbb.out.cell 1
    have of0 := hbb.out.frozen 0
    have of1 := hbb.out.frozen 1
    have z0 := hbr.out.cell 0
    have z1 := hbr.out.cell 1
    have zf0 := hbr.out.frozen 0
    have zf1 := hbr.out.frozen 1
    have hs0 := hb0.lt
    have hs1 := hb1.lt
    have hs2 := hbb.out.lt
    have hs3 := hbr.out.lt
    have HXW := Lib.hid hxw
    by_cases hlt : k < a.args.length
    · have hk1 : (k : Int) < (a.args.length : Int) := by omega
      have hlf : k < f.args.length := by have := HL1.out; omega
      have hk2' : (k : Int) < (f.args.length : Int) := by omega
      obtain ⟨bb, off, t, rfl, hbbl, htk, hts, hc0, hc1'⟩ := TermsR.at_ HV.out hlt
      obtain ⟨bc, off2, ft, rfl, hbcl, hfk, hfs, hd0, hd1'⟩ := TermsR.at_ HU.out hlf
      have r0 := (hxw.cells.1 bb (off + k * 2) hbbl).trans hc0
      have r1 := (hxw.cells.1 bb (off + k * 2 + 1) hbbl).trans hc1'
      have u1 := (hxw.cells.1 bc (off2 + k * 2 + 1) hbcl).trans hd1'
      have hlb : bb < wr.heap.size := Nat.lt_of_lt_of_le hbbl hxw.size
      have hlc : bc < wr.heap.size := Nat.lt_of_lt_of_le hbcl hxw.size
      have hstep := matchL_drop (b := b') htk hfk
      clear htk hfk hc0 hc1' hd0 hd1' hb0 hb1 hxw
      cases htv : t.v
      · rw [htv] at r0
        by_cases heq : t.n = ft.n
        · have HN := Lib.hid (show matchL a.args f.args b = matchL (a.args.drop (k + 1)) (f.args.drop (k + 1)) b' from by rw [hml.out, hstep]; unfold matchT; simp [htv, heq])
          have g3 : (t.n.toList == ft.n.toList) = true := by rw [heq]; exact beq_self_eq_true _
          clear hstep heq htv
          go_wp2
          go_roundw
          case rel => exact ⟨k + 1, b', _, _, by omega, by go_num, HN, Lib.hid (by have := hnl.out; omega), hbb, hbd, hbr, hbel⟩
          case measure => simp [intOf]; omega
        · have HF := Lib.hid (show matchN a f b = (b', false) from by rw [HM.out, hml.out, hstep]; unfold matchT; simp [htv, heq])
          have g3 : (t.n.toList == ft.n.toList) = false := str_ne' heq
          clear hstep heq htv hml
          go_wp2
          refine bodyPost_ret (v := .tuple #[.agg #[.slice X1 b'.ns.length e1, .slice Y1 b'.vs.length g1'], .bool false]) (by simp [results, Tryz.results119, go_sem, z0, z1]) rfl ?_
          have h1 := ((hbd.out.set (p := ⟨w.heap.size + 1 + 1 + 1, 0, none⟩) (by show w.heap.size ≤ w.heap.size + 1 + 1 + 1; omega) (by show w.heap.size + 1 + 1 + 1 < _; omega) (.slice X1 b'.ns.length e1)).set (p := ⟨w.heap.size + 1 + 1 + 1, 1, none⟩) (by show w.heap.size ≤ w.heap.size + 1 + 1 + 1; omega) (by show w.heap.size + 1 + 1 + 1 < _; omega) (.slice Y1 b'.vs.length g1'))
          rw [HF.out]
          exact ⟨⟨_, _, rfl, h1.1.sub (fun i h => h.imp id (fun h => by omega)), h1.2.1.sub (fun i h => h.imp id (fun h => by omega)), h1.2.2⟩, Ext.setNew (a := w) (Ext.setNew HXW.out (by show w.heap.size ≤ w.heap.size + 1 + 1 + 1; omega) _) (by show w.heap.size ≤ w.heap.size + 1 + 1 + 1; omega) _⟩
      · rw [htv] at r0
        cases hg : b'.get t.n with
        | some z =>
          have HGT := Lib.hid (fun (W : World) (hW : Ext wr W) => show Calls Tryz.prog 89 #[.agg #[.slice X1 b'.ns.length e1, .slice Y1 b'.vs.length g1'], .string t.n] W fun e w' => e = .returned (.tuple #[.string z, .bool true]) ∧ Ext W w' from by
           have h := bindGet_any b' _ _ t.n W (hbd.out.1.ext hW) (hbd.out.2.1.ext hW) hbd.out.2.2
           rw [hg] at h
           exact h)
          have hst2 : matchT t ft b' = (b', decide (z = ft.n)) := by unfold matchT; rw [if_pos htv, hg]
          rw [hst2] at hstep
          have HST := Lib.hid hstep
          clear hstep htv hg hst2
          have HSG := Lib.hid (fun (W : World) (hW : Ext wr W) => And.intro ((hW.cells.1 (w.heap.size + 1 + 1) 0 hs2).trans o0) (And.intro ((hW.cells.1 (w.heap.size + 1 + 1) 1 hs2).trans o1) (And.intro ((hW.cells.1 w.heap.size 1 hs0).trans q1) ((hW.cells.1 bb (off + k * 2 + 1) hlb).trans r1))))
          go_wp2_with (fail)
          go_region_held3 (fun w' => w'.cell? ⟨w.heap.size + 1 + 1, 0, none⟩ = some (.slice X1 b'.ns.length e1) ∧ w'.cell? ⟨w.heap.size + 1 + 1, 1, none⟩ = some (.slice Y1 b'.vs.length g1') ∧ w'.cell? ⟨w.heap.size, 1, none⟩ = some (.slice (some ⟨bb, off, none⟩) a.args.length c) ∧ w'.cell? ⟨bb, off + k * 2 + 1, none⟩ = some (.string t.n))
           (first | exact HSG.out _ (Ext.refl wr).drew | exact HS4.out)
           ((go_at_call 89; refine (HGT.out _ (Ext.refl wr).drew).mono ?_; rintro e w4 ⟨rfl, hx4⟩
             have HX4 := Lib.hid (show Ext wr w4 from (Ext.refl wr).drew.trans' hx4)
             have HS4 := Lib.hid (HSG.out w4 HX4.out)
             clear hx4))
          have k0 := (HX4.out.cells.1 w.heap.size 1 hs0).trans q1
          have k1' := (HX4.out.cells.1 (w.heap.size + 1) 1 hs1).trans p1
          have k2 := (HX4.out.cells.1 bc (off2 + k * 2 + 1) hlc).trans u1
          have k3 := (HX4.out.cells.1 bb (off + k * 2 + 1) hlb).trans r1
          have hbb4 := hbb.out.ext HX4.out
          have k4 := hbb4.cell 0
          have k5 := hbb4.cell 1
          have k6 := hbb4.frozen 0
          have k7 := hbb4.frozen 1
          have hbr4 := hbr.out.ext HX4.out
          have y0 := hbr4.cell 0
          have y1 := hbr4.cell 1
          have yf0 := hbr4.frozen 0
          have yf1 := hbr4.frozen 1
          have hl40 : w.heap.size < w4.heap.size := Nat.lt_of_lt_of_le hs0 HX4.out.size
          have hl41 : w.heap.size + 1 < w4.heap.size := Nat.lt_of_lt_of_le hs1 HX4.out.size
          have hl42 := hbb4.lt
          have hl43 := hbr4.lt
          have HBB4 := Lib.hid hbb4
          have HBR4 := Lib.hid hbr4
          clear hbb4 hbr4 q1 p1 u1 o0 o1 z0 z1
          by_cases heq : z = ft.n
          · have HN := Lib.hid (show matchL a.args f.args b = matchL (a.args.drop (k + 1)) (f.args.drop (k + 1)) b' from by rw [hml.out, HST.out]; simp [heq])
            have g3 : (z.toList == ft.n.toList) = true := by rw [heq]; exact beq_self_eq_true _
            clear heq
            go_wp2
            go_roundw
            case rel => exact ⟨k + 1, b', _, _, by omega, by go_num, HN, Lib.hid (by have := hnl.out; omega), HBB4, Lib.hid (hbd.out.ext HX4.out), HBR4, Lib.hid (Below.trans hbel.out (Below.mono HX4.out (by omega)))⟩
            case measure => simp [intOf]; omega
          · have HF := Lib.hid (show matchN a f b = (b', false) from by rw [HM.out, hml.out, HST.out]; simp [heq])
            have g3 : (z.toList == ft.n.toList) = false := str_ne' heq
            clear heq hml
            go_wp2
            refine bodyPost_ret (v := .tuple #[.agg #[.slice X1 b'.ns.length e1, .slice Y1 b'.vs.length g1'], .bool false]) (by simp [results, Tryz.results119, go_sem, y0, y1]) rfl ?_
            have h1 := (((hbd.out.ext HX4.out).set (p := ⟨w.heap.size + 1 + 1 + 1, 0, none⟩) (by show w.heap.size ≤ w.heap.size + 1 + 1 + 1; omega) (by show w.heap.size + 1 + 1 + 1 < _; omega) (.slice X1 b'.ns.length e1)).set (p := ⟨w.heap.size + 1 + 1 + 1, 1, none⟩) (by show w.heap.size ≤ w.heap.size + 1 + 1 + 1; omega) (by show w.heap.size + 1 + 1 + 1 < _; omega) (.slice Y1 b'.vs.length g1'))
            rw [HF.out]
            exact ⟨⟨_, _, rfl, h1.1.sub (fun i h => h.imp id (fun h => by omega)), h1.2.1.sub (fun i h => h.imp id (fun h => by omega)), h1.2.2⟩, Ext.setNew (a := w) (Ext.setNew (HXW.out.trans' HX4.out) (by show w.heap.size ≤ w.heap.size + 1 + 1 + 1; omega) _) (by show w.heap.size ≤ w.heap.size + 1 + 1 + 1; omega) _⟩
        | none =>
          have HGT := Lib.hid (fun (W : World) (hW : Ext wr W) => show Calls Tryz.prog 89 #[.agg #[.slice X1 b'.ns.length e1, .slice Y1 b'.vs.length g1'], .string t.n] W fun e w' => e = .returned (.tuple #[.string ⟨#[]⟩, .bool false]) ∧ Ext W w' from by
           have h := bindGet_any b' _ _ t.n W (hbd.out.1.ext hW) (hbd.out.2.1.ext hW) hbd.out.2.2
           rw [hg] at h
           exact h)
          have hst2 : matchT t ft b' = (b'.plus t.n ft.n, true) := by unfold matchT; rw [if_pos htv, hg]
          rw [hst2] at hstep
          have HN := Lib.hid (show matchL a.args f.args b = matchL (a.args.drop (k + 1)) (f.args.drop (k + 1)) (b'.plus t.n ft.n) from by rw [hml.out, hstep]; rfl)
          clear hstep htv hg hst2
          have HSG := Lib.hid (fun (W : World) (hW : Ext wr W) => And.intro ((hW.cells.1 (w.heap.size + 1 + 1) 0 hs2).trans o0) (And.intro ((hW.cells.1 (w.heap.size + 1 + 1) 1 hs2).trans o1) (And.intro ((hW.cells.1 w.heap.size 1 hs0).trans q1) ((hW.cells.1 bb (off + k * 2 + 1) hlb).trans r1))))
          go_wp2_with (fail)
          go_region_held3 (fun w' => w'.cell? ⟨w.heap.size + 1 + 1, 0, none⟩ = some (.slice X1 b'.ns.length e1) ∧ w'.cell? ⟨w.heap.size + 1 + 1, 1, none⟩ = some (.slice Y1 b'.vs.length g1') ∧ w'.cell? ⟨w.heap.size, 1, none⟩ = some (.slice (some ⟨bb, off, none⟩) a.args.length c) ∧ w'.cell? ⟨bb, off + k * 2 + 1, none⟩ = some (.string t.n))
           (first | exact HSG.out _ (Ext.refl wr).drew | exact HS4.out)
           ((go_at_call 89; refine (HGT.out _ (Ext.refl wr).drew).mono ?_; rintro e w4 ⟨rfl, hx4⟩
             have HX4 := Lib.hid (show Ext wr w4 from (Ext.refl wr).drew.trans' hx4)
             have HS4 := Lib.hid (HSG.out w4 HX4.out)
             clear hx4))
          have k0 := (HX4.out.cells.1 w.heap.size 1 hs0).trans q1
          have k1' := (HX4.out.cells.1 (w.heap.size + 1) 1 hs1).trans p1
          have k2 := (HX4.out.cells.1 bc (off2 + k * 2 + 1) hlc).trans u1
          have k3 := (HX4.out.cells.1 bb (off + k * 2 + 1) hlb).trans r1
          have hbb4 := hbb.out.ext HX4.out
          have k4 := hbb4.cell 0
          have k5 := hbb4.cell 1
          have k6 := hbb4.frozen 0
          have k7 := hbb4.frozen 1
          have hbr4 := hbr.out.ext HX4.out
          have y0 := hbr4.cell 0
          have y1 := hbr4.cell 1
          have yf0 := hbr4.frozen 0
          have yf1 := hbr4.frozen 1
          have hl40 : w.heap.size < w4.heap.size := Nat.lt_of_lt_of_le hs0 HX4.out.size
          have hl41 : w.heap.size + 1 < w4.heap.size := Nat.lt_of_lt_of_le hs1 HX4.out.size
          have hl42 := hbb4.lt
          have hl43 := hbr4.lt
          have HBB4 := Lib.hid hbb4
          have HBR4 := Lib.hid hbr4
          clear hbb4 hbr4 q1 p1 u1 o0 o1 z0 z1
          have hnl2 := hnl.out
          have HWI := Lib.hid (fun (W : World) (hW : Ext w4 W) => bindWith_any b' _ _ t.n ft.n W (hbd.out.1.ext (HX4.out.trans' hW)) (hbd.out.2.1.ext (HX4.out.trans' hW)) hbd.out.2.2 (by omega) hts hfs)
          have HSW := Lib.hid (fun (W : World) (hW : Ext w4 W) => And.intro ((hW.cells.1 w.heap.size 1 hl40).trans k0) (And.intro ((hW.cells.1 (w.heap.size + 1) 1 hl41).trans k1') (And.intro ((hW.cells.1 bb (off + k * 2 + 1) (Nat.lt_of_lt_of_le hlb HX4.out.size)).trans k3) ((hW.cells.1 bc (off2 + k * 2 + 1) (Nat.lt_of_lt_of_le hlc HX4.out.size)).trans k2))))
          have hnb : w.heap.size + 1 + 1 ≠ bb := by omega
          have hnc : w.heap.size + 1 + 1 ≠ bc := by omega
          go_wp2_with (fail)
          refine wp_region_noPanic ?_
          refine wp_region_held_drew (S := (fun w' => w'.cell? ⟨w.heap.size, 1, none⟩ = some (.slice (some ⟨bb, off, none⟩) a.args.length c) ∧ w'.cell? ⟨w.heap.size + 1, 1, none⟩ = some (.slice (some ⟨bc, off2, none⟩) f.args.length d) ∧ w'.cell? ⟨bb, off + k * 2 + 1, none⟩ = some (.string t.n) ∧ w'.cell? ⟨bc, off2 + k * 2 + 1, none⟩ = some (.string ft.n))) (by kernel_rfl) ?_ (fun hHeld => ?_)
          · (try dsimp only); (first | exact HSW.out _ (Ext.refl w4).drew | exact HS5.out | exact HS6.out)
          refine tk 1 (v := ?_) rfl ?_ ?_
          rotate_left
          · (intro w hSw; (try dsimp only at hSw); go_simp) <;> with_reducible rfl
          try simp only [Act.put, stz]
          refine tk 2 (v := ?_) rfl ?_ ?_
          rotate_left
          · (intro w hSw; (try dsimp only at hSw); go_simp) <;> with_reducible rfl
          try simp only [Act.put, stz]
          refine tk 3 (v := ?_) rfl ?_ ?_
          rotate_left
          · (intro w hSw; (try dsimp only at hSw); go_simp) <;> with_reducible rfl
          try simp only [Act.put, stz]
          refine tk 4 (v := ?_) rfl ?_ ?_
          rotate_left
          · (intro w hSw; (try dsimp only at hSw); go_simp) <;> with_reducible rfl
          try simp only [Act.put, stz]
          refine tk 5 (v := ?_) rfl ?_ ?_
          rotate_left
          · (intro w hSw; (try dsimp only at hSw); go_simp) <;> with_reducible rfl
          try simp only [Act.put, stz]
          refine tk 6 (v := ?_) rfl ?_ ?_
          rotate_left
          · (intro w hSw; (try dsimp only at hSw); go_simp) <;> with_reducible rfl
          try simp only [Act.put, stz]
          refine tk 7 (v := ?_) rfl ?_ ?_
          rotate_left
          · (intro w hSw; (try dsimp only at hSw); go_simp) <;> with_reducible rfl
          try simp only [Act.put, stz]
          refine tk 8 (v := ?_) rfl ?_ ?_
          rotate_left
          · (intro w hSw; (try dsimp only at hSw); go_simp) <;> with_reducible rfl
          try simp only [Act.put, stz]
          refine tk 9 (v := ?_) rfl ?_ ?_
          rotate_left
          · (intro w hSw; (try dsimp only at hSw); go_simp) <;> with_reducible rfl
          try simp only [Act.put, stz]
          refine tk 10 (v := ?_) rfl ?_ ?_
          rotate_left
          · (intro w hSw; (try dsimp only at hSw); go_simp) <;> with_reducible rfl
          try simp only [Act.put, stz]
          refine tk 11 (v := ?_) rfl ?_ ?_
          rotate_left
          · (intro w hSw; (try dsimp only at hSw); go_simp) <;> with_reducible rfl
          try simp only [Act.put, stz]
          refine tk 12 (v := ?_) rfl ?_ ?_
          rotate_left
          · (intro w hSw; (try dsimp only at hSw); go_simp) <;> with_reducible rfl
          try simp only [Act.put, stz]
          refine wpAnyH_ready (rs := [0]) (by kernel_rfl) (by simp) ?_
          refine AllReadyH.cons (o := _) rfl (fun K hK => ?_) ?_
          · go_simp
            refine hK.out _ _ ?_ (fun hNew => ?_)
            · (try dsimp only); (first | exact HSW.out _ (Ext.refl w4).drew | exact HS5.out | exact HS6.out)
            clear hK K hHeld
            have hHeld := hNew
            clear hNew
            try simp only [Act.put, stz]
            refine wpAnyH_ready (rs := [13]) (by kernel_rfl) (by simp) ?_
            refine AllReadyH.cons (o := _) rfl (fun K hK => ?_) ?_
            · go_simp
              go_at_call 160; refine (HWI.out _ (Ext.refl w4).drew).mono ?_; rintro e w5 ⟨⟨v5, u5', rfl, hv5, hu5⟩, hx5⟩
              have HX5 := Lib.hid (show Ext w4 w5 from (Ext.refl w4).drew.trans' hx5)
              obtain ⟨X5, e5, rfl, hx51, hx52⟩ := SliceR.form hv5
              obtain ⟨Y5, g5, rfl, hy51, hy52⟩ := SliceR.form hu5
              have HV5 := Lib.hid (show StrsR (From w4.heap.size) w5 (.slice X5 (b'.plus t.n ft.n).ns.length e5) _ from hv5)
              have HU5 := Lib.hid (show StrsR (From w4.heap.size) w5 (.slice Y5 (b'.plus t.n ft.n).vs.length g5) _ from hu5)
              have hbb5 := HBB4.out.ext HX5.out
              have j0 := hbb5.cell 0
              have j1 := hbb5.cell 1
              have j2 := hbb5.frozen 0
              have j3 := hbb5.frozen 1
              have hl52 := hbb5.lt
              have HS5 := Lib.hid (HSW.out w5 HX5.out)
              have HS6 := Lib.hid (show _ ∧ _ ∧ _ ∧ _ from And.intro ((World.cell?_setCell_far _ ⟨w.heap.size + 1 + 1, 1, none⟩ ⟨w.heap.size, 1, none⟩ (.slice Y5 (b'.plus t.n ft.n).vs.length g5) (by show w.heap.size + 1 + 1 ≠ w.heap.size; omega)).trans ((World.cell?_setCell_far w5 ⟨w.heap.size + 1 + 1, 0, none⟩ ⟨w.heap.size, 1, none⟩ (.slice X5 (b'.plus t.n ft.n).ns.length e5) (by show w.heap.size + 1 + 1 ≠ w.heap.size; omega)).trans HS5.out.1))
               (And.intro ((World.cell?_setCell_far _ ⟨w.heap.size + 1 + 1, 1, none⟩ ⟨w.heap.size + 1, 1, none⟩ (.slice Y5 (b'.plus t.n ft.n).vs.length g5) (by show w.heap.size + 1 + 1 ≠ w.heap.size + 1; omega)).trans ((World.cell?_setCell_far w5 ⟨w.heap.size + 1 + 1, 0, none⟩ ⟨w.heap.size + 1, 1, none⟩ (.slice X5 (b'.plus t.n ft.n).ns.length e5) (by show w.heap.size + 1 + 1 ≠ w.heap.size + 1; omega)).trans HS5.out.2.1))
               (And.intro ((World.cell?_setCell_far _ ⟨w.heap.size + 1 + 1, 1, none⟩ ⟨bb, off + k * 2 + 1, none⟩ (.slice Y5 (b'.plus t.n ft.n).vs.length g5) hnb).trans ((World.cell?_setCell_far w5 ⟨w.heap.size + 1 + 1, 0, none⟩ ⟨bb, off + k * 2 + 1, none⟩ (.slice X5 (b'.plus t.n ft.n).ns.length e5) hnb).trans HS5.out.2.2.1))
                ((World.cell?_setCell_far _ ⟨w.heap.size + 1 + 1, 1, none⟩ ⟨bc, off2 + k * 2 + 1, none⟩ (.slice Y5 (b'.plus t.n ft.n).vs.length g5) hnc).trans ((World.cell?_setCell_far w5 ⟨w.heap.size + 1 + 1, 0, none⟩ ⟨bc, off2 + k * 2 + 1, none⟩ (.slice X5 (b'.plus t.n ft.n).ns.length e5) hnc).trans HS5.out.2.2.2)))))
              clear hx5 hv5 hu5 hbb5
              refine hK.out _ _ ?_ (fun hNew => ?_)
              · (try dsimp only); (first | exact HSW.out _ (Ext.refl w4).drew | exact HS5.out | exact HS6.out)
              clear hK K hHeld
              have hHeld := hNew
              clear hNew
              try simp only [Act.put, stz]
              refine wpAnyH_ready (rs := [14]) (by kernel_rfl) (by simp) ?_
              refine AllReadyH.cons (o := _) rfl (fun K hK => ?_) ?_
              · go_simp
                refine hK.out _ _ ?_ (fun hNew => ?_)
                · (try dsimp only); (first | exact HSW.out _ (Ext.refl w4).drew | exact HS5.out | exact HS6.out)
                clear hK K hHeld
                have hHeld := hNew
                clear hNew
                try simp only [Act.put, stz]
                refine wpAnyH_done (by kernel_rfl) ?_ _
                refine NoPanic.normal ?_
                have hbb6 := ((HBB4.out.ext HX5.out).set_ 0 (.slice X5 (b'.plus t.n ft.n).ns.length e5)).set_ 1 (.slice Y5 (b'.plus t.n ft.n).vs.length g5)
                go_wp2
                go_roundw
                case rel =>
                 refine ⟨k + 1, b'.plus t.n ft.n, _, _, by omega, by go_num, HN, Lib.hid (by have h := hnl.out; simp [LB.plus]; omega), Lib.hid (by simpa using hbb6), Lib.hid ?_, Lib.hid ?_, Lib.hid ?_⟩
                 · have h2 : Bound V w.heap.size w5 (.slice X5 (b'.plus t.n ft.n).ns.length e5) (.slice Y5 (b'.plus t.n ft.n).vs.length g5) (b'.plus t.n ft.n) :=
                     ⟨HV5.out.sub (fun i h => .inr (Nat.le_trans hl43 h)), HU5.out.sub (fun i h => .inr (Nat.le_trans hl43 h)), plus_ok hbd.out.2.2 _ _⟩
                   exact (h2.set (p := ⟨w.heap.size + 1 + 1, 0, none⟩) (by show w.heap.size ≤ w.heap.size + 1 + 1; omega) (by show w.heap.size + 1 + 1 < _; omega) _).set (p := ⟨w.heap.size + 1 + 1, 1, none⟩) (by show w.heap.size ≤ w.heap.size + 1 + 1; omega) (by show w.heap.size + 1 + 1 < _; omega) _
                 · exact ((HBR4.out.ext HX5.out).far (p := ⟨w.heap.size + 1 + 1, 0, none⟩) (by show _ ≠ w.heap.size + 1 + 1; omega) _).far (p := ⟨w.heap.size + 1 + 1, 1, none⟩) (by show _ ≠ w.heap.size + 1 + 1; omega) _
                 · exact Below.setCell (Below.setCell (Below.trans hbel.out (Below.mono (HX4.out.trans' HX5.out) (by omega))) (Nat.le_refl _) _) (Nat.le_refl _) _
                case measure => simp [intOf]; omega
              exact AllReadyH.nil
            exact AllReadyH.nil
          exact AllReadyH.nil
    · have HF := Lib.hid (show matchN a f b = (b', true) from by rw [HM.out, hml.out, matchL_end (by omega)])
      clear hml q0 p0 p1
      go_wp2
      refine bodyPost_ret (v := .tuple #[.agg #[.slice X1 b'.ns.length e1, .slice Y1 b'.vs.length g1'], .bool true]) (by simp [results, Tryz.results119, go_sem, z0, z1]) rfl ?_
      have h1 := ((hbd.out.set (p := ⟨w.heap.size + 1 + 1 + 1, 0, none⟩) (by show w.heap.size ≤ w.heap.size + 1 + 1 + 1; omega) (by show w.heap.size + 1 + 1 + 1 < _; omega) (.slice X1 b'.ns.length e1)).set (p := ⟨w.heap.size + 1 + 1 + 1, 1, none⟩) (by show w.heap.size ≤ w.heap.size + 1 + 1 + 1; omega) (by show w.heap.size + 1 + 1 + 1 < _; omega) (.slice Y1 b'.vs.length g1'))
      rw [HF.out]
      exact ⟨⟨_, _, rfl, h1.1.sub (fun i h => h.imp id (fun h => by omega)), h1.2.1.sub (fun i h => h.imp id (fun h => by omega)), h1.2.2⟩, Ext.setNew (a := w) (Ext.setNew HXW.out (by show w.heap.size ≤ w.heap.size + 1 + 1 + 1; omega) _) (by show w.heap.size ≤ w.heap.size + 1 + 1 + 1; omega) _⟩
 · have HM := Lib.hid (show matchN a f b = (b, false) from if_neg hne)
   by_cases hn1 : a.n = f.n
   · have g1 : (a.n.toList == f.n.toList) = true := by rw [hn1]; exact beq_self_eq_true _
     have g2 : (((a.args.length : Nat) : Int) == ((f.args.length : Nat) : Int)) = false := by
      rw [beq_eq_false_iff_ne]
      exact fun h => hne ⟨hn1, by omega⟩
     clear hv hu hx hy hok hne hn1 hB0 hB1 hB2 hB3 hW0 hz
     go_enter Tryz.func119, Tryz.ntmps119
     go_wp2
     refine bodyPost_ret (v := .tuple #[.agg #[.slice X b.ns.length e, .slice Y b.vs.length g], .bool false]) (by simp [results, Tryz.results119, go_sem]) rfl ?_
     rw [HM.out]
     exact ⟨⟨_, _, rfl, StrsR.sub (HBW.out.ext (((((Ext.refl w).alloc _).alloc _).alloc _).alloc _)).1 (fun i h => h.imp id (fun h => by omega)), StrsR.sub (HBW.out.ext (((((Ext.refl w).alloc _).alloc _).alloc _).alloc _)).2.1 (fun i h => h.imp id (fun h => by omega)), HBW.out.2.2⟩, ((((Ext.refl w).alloc _).alloc _).alloc _).alloc _⟩
   · have g1 : (a.n.toList == f.n.toList) = false := str_ne' hn1
     clear hv hu hx hy hok hne hn1 hB0 hB1 hB2 hB3 hW0 hz
     go_enter Tryz.func119, Tryz.ntmps119
     go_wp2
     refine bodyPost_ret (v := .tuple #[.agg #[.slice X b.ns.length e, .slice Y b.vs.length g], .bool false]) (by simp [results, Tryz.results119, go_sem]) rfl ?_
     rw [HM.out]
     exact ⟨⟨_, _, rfl, StrsR.sub (HBW.out.ext (((((Ext.refl w).alloc _).alloc _).alloc _).alloc _)).1 (fun i h => h.imp id (fun h => by omega)), StrsR.sub (HBW.out.ext (((((Ext.refl w).alloc _).alloc _).alloc _).alloc _)).2.1 (fun i h => h.imp id (fun h => by omega)), HBW.out.2.2⟩, ((((Ext.refl w).alloc _).alloc _).alloc _).alloc _⟩

end Go.Proofs.YtfjdijakgjhieaaGreat
