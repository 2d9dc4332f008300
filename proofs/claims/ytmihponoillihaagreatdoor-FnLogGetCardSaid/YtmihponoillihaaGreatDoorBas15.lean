/- Part of the texts of a proof; what they say stands at each theorem. -/
import Derived.Test.YtmihponoillihaaGreatDoorBas13
import Derived.Test.YtmihponoillihaaGreatDoorBas14
import Derived.Deep.DeepCutAuto
import Derived.Test.YtmihponoillihaaGreatDoorBas02
set_option linter.unusedSimpArgs false
set_option linter.unusedVariables false
namespace Go.Proofs.YtmihponoillihaaGreatDoor
open Go.RowKit
def BoxR (N gb : Nat) (w : World) (r : RL) : Prop :=
 ∃ v rv, Blk w gb 223 #[v, rv] ∧ AtomsR (fun b => N ≤ b ∧ b ≠ gb) w v r.list ∧ NatsR (fun b => N ≤ b ∧ b ≠ gb) w rv r.round
theorem BoxR.ext {N gb : Nat} {w w' : World} {r : RL} (h : BoxR N gb w r) (he : Ext w w') : BoxR N gb w' r := by
 obtain ⟨v, rv, h1, h2, h3⟩ := h; exact ⟨v, rv, h1.ext he, h2.ext he, h3.ext he⟩
theorem BoxR.form {N gb : Nat} {w : World} {r : RL} (h : BoxR N gb w r) : ∃ A c D d, Blk w gb 223 #[.slice A r.list.length c, .slice D r.round.length d] ∧ AtomsR (fun b => N ≤ b ∧ b ≠ gb) w (.slice A r.list.length c) r.list ∧ NatsR (fun b => N ≤ b ∧ b ≠ gb) w (.slice D r.round.length d) r.round := by
 obtain ⟨v, rv, h1, h2, h3⟩ := h; obtain ⟨A, c, rfl, _, _⟩ := SliceR.form h2; obtain ⟨D, d, rfl, _, _⟩ := SliceR.form h3; exact ⟨A, c, D, d, h1, h2, h3⟩
theorem BoxR.store {N gb : Nat} {w : World} {r : RL} {v rv x y : Value} (hb : Blk w gb 223 #[x, y]) (hv : AtomsR (fun b => N ≤ b ∧ b ≠ gb) w v r.list) (hr : NatsR (fun b => N ≤ b ∧ b ≠ gb) w rv r.round) : BoxR N gb ((w.setCell ⟨gb, 0, none⟩ v).setCell ⟨gb, 1, none⟩ rv) r := by
 have hA : Agree (fun b => N ≤ b ∧ b ≠ gb) w ((w.setCell ⟨gb, 0, none⟩ v).setCell ⟨gb, 1, none⟩ rv) := ((Agree.refl _ _).setCell (fun h => h.2 rfl) _).setCell (fun h => h.2 rfl) _; exact ⟨v, rv, ((hb.set_ 0 v).set_ 1 rv), hv.imp (fun _ h => h) hA (by go_size), NatsR.impL hr (fun _ h _ => h) hA (by go_size)⟩
theorem Else.store {gb : Nat} {w0 w : World} (h : Else gb w0 w) (v rv : Value) (hg : gb < w0.heap.size) : Else gb w0 ((w.setCell ⟨gb, 0, none⟩ v).setCell ⟨gb, 1, none⟩ rv) :=
 ⟨h.os, h.tape, h.output, by have := h.size; go_size, fun k hk hne => by
  have hne2 : k ≠ gb := fun e => hne (by rw [e])
  exact (Below.heap_setCell _ _ _ _ hne2).trans ((Below.heap_setCell _ _ _ _ hne2).trans (h.block k hk hne))⟩
theorem Blk.els {rb g : Nat} {t : TypeId} {cs : Array Value} {a b : World} (h : Blk a g t cs) (he : Else rb a b) (hne : g ≠ rb) : Blk b g t cs := (he.agree g hne h.lt).trans h
theorem run_end {w wr : World} {gb : Nat} {v x y : Value} {l : List GA} (hx : Ext w wr) (ha : AtomsR (fun b => w.heap.size + 1 ≤ b ∧ b ≠ gb) wr v l) :
 AtomsR (From w.heap.size) ((wr.setCell ⟨w.heap.size, 0, none⟩ x).setCell ⟨w.heap.size, 1, none⟩ y) v l ∧ Ext w ((wr.setCell ⟨w.heap.size, 0, none⟩ x).setCell ⟨w.heap.size, 1, none⟩ y) := by
 have hA : Agree (fun b => w.heap.size + 1 ≤ b ∧ b ≠ gb) wr ((wr.setCell ⟨w.heap.size, 0, none⟩ x).setCell ⟨w.heap.size, 1, none⟩ y) := ((Agree.refl _ _).setCell (fun h => absurd h.1 (by simp)) _).setCell (fun h => absurd h.1 (by simp)) _; exact ⟨(ha.imp (fun b hb => hb) hA (by go_size)).sub (fun b hb => Nat.le_of_succ_le hb.1), Ext.setNew (Ext.setNew hx (Nat.le_refl _) _) (Nat.le_refl _) _⟩
theorem puts_snoc (r : RL) (n : Nat) (l : List GA) (a : GA) : r.puts n (l ++ [a]) = (r.puts n l).put n a := by unfold RL.puts; rw [List.foldl_append]; rfl
theorem nats_blk {S : Nat → Prop} {w : World} {g : Nat} {l : List Nat} (hb : Blk w g 3 (ints l)) (hS : S g) (hl : l.length ≤ 1000000) : NatsR S w (.slice (some ⟨g, 0, none⟩) l.length l.length) l := by
 refine ⟨_, l.length, rfl, Nat.le_refl _, by unfold maxLen; omega, fun _ => ⟨g, 0, rfl, hb.lt, hS, fun i x hi => ⟨[.int .i64 ((x : Nat) : Int)], rfl, fun j u hu => ?_, rfl⟩⟩⟩
 rcases j with _ | j
 · simp at hu; subst hu
   rw [hb.cell]; unfold ints; simp [hi]
 simp at hu
def RunI (list : List GA) (va ua : Value) (n0 : Nat) (w0 : World) (f : Nat → Bool) (act : Act) (w' : World) : Prop :=
 ∃ (t6 t13 t14 t15 t16 t17 t18 : Value) (w2 : World) (gb gm : Nat) (Z : Nat → Prop),
   act = { tmps := #[va, ua, undef, undef, .pointer (some ⟨n0, 0, none⟩), .bool false, t6, undef, undef, undef, undef, undef, undef, t13, t14, t15, t16, t17, t18, undef, undef, undef, undef, undef, undef, undef, undef, undef, undef, undef, undef, undef, undef, undef, undef, undef, undef, undef, undef, undef, undef, undef, undef, undef, undef, undef, undef, undef, undef, undef, undef, undef, undef, undef, undef, undef, undef, undef, undef, undef, undef, undef, undef, undef], defers := [] } ∧
   (f 7 = false → w' = w2) ∧ (f 7 = true → w' = (w2.setCell ⟨gb, 0, none⟩ t14).setCell ⟨gb, 1, none⟩ t17) ∧ Ext w0 w2 ∧
   (∀ b, Z b → b < w2.heap.size ∧ w0.heap.size ≤ b ∧ (f 6 = true → b ≠ gb)) ∧
   (f 0 = true → t13 = ua) ∧
   (f 1 = true → ∃ C1 c1, t14 = .slice C1 list.length c1 ∧ AtomsR Z w2 t14 list) ∧
   (f 2 = true → t15 = ua) ∧
   (f 3 = true → t16 = .int .i64 (list.length : Int)) ∧
   (f 4 = true → t17 = .slice (some ⟨gm, 0, none⟩) list.length list.length ∧ Blk w2 gm 3 (ints (List.replicate list.length 0)) ∧ w0.heap.size ≤ gm) ∧
   (f 5 = true → t18 = .agg #[t14, t17]) ∧
   (f 6 = true → t6 = .pointer (some ⟨gb, 0, none⟩) ∧ Blk w2 gb 223 #[.slice none 0 0, .slice none 0 0] ∧ w0.heap.size ≤ gb)
set_option maxRecDepth 100000 in
set_option maxHeartbeats 8000000 in
theorem l4Run_any : RunC := by
 intro rules list v u w S T hv hu hok; obtain ⟨A, c, rfl, hc1, hc2⟩ := SliceR.form hv; obtain ⟨B, d, rfl, hd1, hd2⟩ := SliceR.form hu
 have hpr : progCheckN rules = 0 ∧ list.length ≤ 40 ∧ ∀ x ∈ list, x.args.length ≤ 3 := by
  unfold evalOkB factsB at hok; simp only [Bool.and_eq_true, decide_eq_true_eq, List.all_eq_true] at hok; exact ⟨hok.1.1, hok.1.2.2, fun x hx => (atom_parts (factB_ok (hok.1.2.1.1 x hx))).2.1⟩
 obtain ⟨hp0, hll, hla⟩ := hpr; obtain ⟨h8, hro, _, _⟩ := prog_parts hp0
 have hrb : ∀ r ∈ rules, r.body.length ≤ 4 ∧ r.head.args.length ≤ 1000 ∧ ∀ p ∈ r.body, p.atom.args.length ≤ 1000 := fun r hr => by
  have h := hro r hr; unfold ruleOkB at h; simp only [Bool.and_eq_true, List.all_eq_true, decide_eq_true_eq] at h; have h1 := (atom_parts h.2.1).2.1; exact ⟨h.2.2, by omega, fun p hp => by have := (atom_parts (h.1 p hp)).2.1; omega⟩
 have HV := Lib.hid hv; have HU := Lib.hid hu; have HRB := Lib.hid hrb; have HLA := Lib.hid hla; have hmk := makeInts list.length (by omega); have HCP := Lib.hid (fun (W : World) (hW : Ext w W) => l3Copy_any _ list W (hu.ext hW) (by omega) (fun x hx => by have := hla x hx; omega)); have HLV := Lib.hid (fun (W : World) (hW : Ext w W) => l2Levels_any _ rules W (hv.ext hW) h8 (fun r hr => (hrb r hr).1)); have hlvl : (levelsL rules).length = rules.length := levelsN_len rules _; have HLL := Lib.hid hlvl
 obtain ⟨w0, hw0⟩ : ∃ w0, w0 = w.alloc (.cells #[.slice none 0 0, .slice none 0 0] 223) := ⟨_, rfl⟩
 have HN0 := Lib.hid (show Blk w0 w.heap.size 223 #[.slice none 0 0, .slice none 0 0] from by rw [hw0]; exact Blk.new _ _ _); have HX0 := Lib.hid (show Ext w w0 from by rw [hw0]; exact (Ext.refl _).alloc _)
 have hsz0 : w0.heap.size = w.heap.size + 1 := by rw [hw0]; simp
 clear hv hu hrb hla hro hok hlvl hp0
 go_enter Tryz.func166, Tryz.ntmps166
 go_upto_region 1 with fail
 rw [← hw0]; clear hw0
 go_cut [6] (fun s6 wx => ∃ gb, s6 = .pointer (some ⟨gb, 0, none⟩) ∧ w.heap.size + 1 ≤ gb ∧ Hid (BoxR (w.heap.size + 1) gb wx ⟨list, List.replicate list.length 0⟩) ∧ Hid (Ext w0 wx))
 case first =>
  refine wp_region_inv2 (by decide) (RunI list (.slice A rules.length c) (.slice B list.length d) w.heap.size w0) ?_ ?_ ?_ ?_
  · intro i o ho
    have hi : i < 8 := (Array.getElem?_eq_some_iff.1 ho).1
    rcases (by omega : i = 0 ∨ i = 1 ∨ i = 2 ∨ i = 3 ∨ i = 4 ∨ i = 5 ∨ i = 6 ∨ i = 7) with rfl | rfl | rfl | rfl | rfl | rfl | rfl | rfl <;> (cases ho; decide)
  · intro i o f a1 w' ho hfi hcl haf hI
    obtain ⟨t6, t13, t14, t15, t16, t17, t18, w2, gb, gm, Z, rfl, hw7, hw8, hxt, hZ, G0, G1, G2, G3, G4, G5, G6⟩ := hI; have hi : i < 8 := (Array.getElem?_eq_some_iff.1 ho).1
    have e1_0 : f 1 = true → f 0 = true := fun h => hcl 1 _ rfl h ⟨0, .data⟩ (Array.mem_of_getElem? (i := 0) rfl) rfl
    have e3_2 : f 3 = true → f 2 = true := fun h => hcl 3 _ rfl h ⟨2, .data⟩ (Array.mem_of_getElem? (i := 0) rfl) rfl
    have e4_3 : f 4 = true → f 3 = true := fun h => hcl 4 _ rfl h ⟨3, .data⟩ (Array.mem_of_getElem? (i := 0) rfl) rfl
    have e5_1 : f 5 = true → f 1 = true := fun h => hcl 5 _ rfl h ⟨1, .data⟩ (Array.mem_of_getElem? (i := 0) rfl) rfl
    have e5_4 : f 5 = true → f 4 = true := fun h => hcl 5 _ rfl h ⟨4, .data⟩ (Array.mem_of_getElem? (i := 1) rfl) rfl
    have e7_6 : f 7 = true → f 6 = true := fun h => hcl 7 _ rfl h ⟨6, .data⟩ (Array.mem_of_getElem? (i := 0) rfl) rfl
    have e7_5 : f 7 = true → f 5 = true := fun h => hcl 7 _ rfl h ⟨5, .data⟩ (Array.mem_of_getElem? (i := 1) rfl) rfl
    have e7_1 : f 7 = true → f 1 = true := fun h => hcl 7 _ rfl h ⟨1, .chain⟩ (Array.mem_of_getElem? (i := 2) rfl) rfl
    have e7_0 : f 7 = true → f 0 = true := fun h => hcl 7 _ rfl h ⟨0, .phase⟩ (Array.mem_of_getElem? (i := 3) rfl) rfl
    have e7_2 : f 7 = true → f 2 = true := fun h => hcl 7 _ rfl h ⟨2, .phase⟩ (Array.mem_of_getElem? (i := 5) rfl) rfl
    have e7_3 : f 7 = true → f 3 = true := fun h => hcl 7 _ rfl h ⟨3, .phase⟩ (Array.mem_of_getElem? (i := 6) rfl) rfl
    have e7_4 : f 7 = true → f 4 = true := fun h => hcl 7 _ rfl h ⟨4, .phase⟩ (Array.mem_of_getElem? (i := 7) rfl) rfl
    have F0 := Lib.hid G0; have F1 := Lib.hid G1; have F2 := Lib.hid G2; have F3 := Lib.hid G3; have F4 := Lib.hid G4; have F5 := Lib.hid G5; have F6 := Lib.hid G6; clear G0 G1 G2 G3 G4 G5 G6; have hsz : w0.heap.size ≤ w2.heap.size := hxt.size
    rcases (by omega : i = 0 ∨ i = 1 ∨ i = 2 ∨ i = 3 ∨ i = 4 ∨ i = 5 ∨ i = 6 ∨ i = 7) with rfl | rfl | rfl | rfl | rfl | rfl | rfl | rfl
    · cases ho
      have h7 : f 7 = false := by cases h : f 7 with | false => rfl | true => exact absurd (e7_0 h) (by rw [hfi]; decide)
      obtain rfl : w' = w2 := hw7 h7; refine wpOp_of rfl rfl ?_; go_simp; exact ⟨_, _, _, _, _, _, _, w', gb, gm, Z, rfl, fun _ => rfl, fun h => absurd h (by show ¬ f 7 = true; rw [h7]; decide), hxt, hZ, (fun _ => rfl), F1.out, F2.out, F3.out, F4.out, F5.out, F6.out⟩
    · cases ho
      have a0 : f 0 = true := haf ⟨0, .data⟩ (Array.mem_of_getElem? (i := 0) rfl) rfl
      have h7 : f 7 = false := by cases h : f 7 with | false => rfl | true => exact absurd (e7_1 h) (by rw [hfi]; decide)
      obtain rfl : w' = w2 := hw7 h7; refine wpOp_of rfl rfl ?_; obtain rfl := F0.out a0; go_simp
      go_at_call 168
      refine (HCP.out w' (HX0.out.trans' hxt)).mono ?_; rintro e w3 ⟨⟨v3, rfl, hv3⟩, hx3⟩; obtain ⟨C3, c3, rfl, _, _⟩ := SliceR.form hv3; exact ⟨_, _, _, _, _, _, _, w3, gb, gm, (fun b => w'.heap.size ≤ b ∧ b < w3.heap.size), rfl, fun _ => rfl, fun h => absurd h (by show ¬ f 7 = true; rw [h7]; decide), hxt.trans' hx3, (fun b hb => ⟨hb.2, Nat.le_trans hsz hb.1, fun h6 => by have h := (F6.out h6).2.1.lt; have h2 := hb.1; omega⟩), (fun _ => rfl), (fun _ => ⟨_, _, rfl, ListK.low (k := kAtom) hv3⟩), F2.out, F3.out, (fun h => ⟨(F4.out h).1, (F4.out h).2.1.ext hx3, (F4.out h).2.2⟩), (fun h => absurd (e5_1 h) (by rw [hfi]; decide)), (fun h => ⟨(F6.out h).1, (F6.out h).2.1.ext hx3, (F6.out h).2.2⟩)⟩
    · cases ho
      have h7 : f 7 = false := by cases h : f 7 with | false => rfl | true => exact absurd (e7_2 h) (by rw [hfi]; decide)
      obtain rfl : w' = w2 := hw7 h7; refine wpOp_of rfl rfl ?_; go_simp; exact ⟨_, _, _, _, _, _, _, w', gb, gm, Z, rfl, fun _ => rfl, fun h => absurd h (by show ¬ f 7 = true; rw [h7]; decide), hxt, hZ, F0.out, F1.out, (fun _ => rfl), F3.out, F4.out, F5.out, F6.out⟩
    · cases ho
      have a2 : f 2 = true := haf ⟨2, .data⟩ (Array.mem_of_getElem? (i := 0) rfl) rfl
      have h7 : f 7 = false := by cases h : f 7 with | false => rfl | true => exact absurd (e7_3 h) (by rw [hfi]; decide)
      obtain rfl : w' = w2 := hw7 h7; refine wpOp_of rfl rfl ?_; obtain rfl := F2.out a2; go_simp; exact ⟨_, _, _, _, _, _, _, w', gb, gm, Z, rfl, fun _ => rfl, fun h => absurd h (by show ¬ f 7 = true; rw [h7]; decide), hxt, hZ, F0.out, F1.out, (fun _ => rfl), (fun _ => rfl), F4.out, F5.out, F6.out⟩
    · cases ho
      have a3 : f 3 = true := haf ⟨3, .data⟩ (Array.mem_of_getElem? (i := 0) rfl) rfl
      have h7 : f 7 = false := by cases h : f 7 with | false => rfl | true => exact absurd (e7_4 h) (by rw [hfi]; decide)
      obtain rfl : w' = w2 := hw7 h7; refine wpOp_of rfl rfl ?_; obtain rfl := F3.out a3; go_simp; exact ⟨_, _, _, _, _, _, _, w'.alloc (.cells (ints (List.replicate list.length 0)) 3), gb, w'.heap.size, Z, rfl, fun _ => rfl, fun h => absurd h (by show ¬ f 7 = true; rw [h7]; decide), hxt.alloc _, (fun b hb => ⟨by have := (hZ b hb).1; simp; omega, (hZ b hb).2⟩), F0.out, (fun h => let ⟨C, c, e, ha⟩ := F1.out h; ⟨C, c, e, ha.ext ((Ext.refl _).alloc _)⟩), F2.out, (fun _ => rfl), (fun _ => ⟨rfl, Blk.new _ _ _, hsz⟩), (fun h => absurd (e5_4 h) (by rw [hfi]; decide)), (fun h => ⟨(F6.out h).1, (F6.out h).2.1.ext ((Ext.refl _).alloc _), (F6.out h).2.2⟩)⟩
    · cases ho
      have a1 : f 1 = true := haf ⟨1, .data⟩ (Array.mem_of_getElem? (i := 0) rfl) rfl; have a4 : f 4 = true := haf ⟨4, .data⟩ (Array.mem_of_getElem? (i := 1) rfl) rfl
      have h7 : f 7 = false := by cases h : f 7 with | false => rfl | true => exact absurd (e7_5 h) (by rw [hfi]; decide)
      obtain rfl : w' = w2 := hw7 h7; refine wpOp_of rfl rfl ?_; obtain ⟨C1, c1, rfl, ha⟩ := F1.out a1; obtain ⟨rfl, hbm, hgm⟩ := F4.out a4; go_simp; exact ⟨_, _, _, _, _, _, _, w', gb, gm, Z, rfl, fun _ => rfl, fun h => absurd h (by show ¬ f 7 = true; rw [h7]; decide), hxt, hZ, F0.out, (fun _ => ⟨_, _, rfl, ha⟩), F2.out, F3.out, (fun _ => ⟨rfl, hbm, hgm⟩), (fun _ => rfl), F6.out⟩
    · cases ho
      have h7 : f 7 = false := by cases h : f 7 with | false => rfl | true => exact absurd (e7_6 h) (by rw [hfi]; decide)
      obtain rfl : w' = w2 := hw7 h7; refine wpOp_of rfl rfl ?_; go_simp; exact ⟨_, _, _, _, _, _, _, w'.alloc (.cells #[.slice none 0 0, .slice none 0 0] 223), w'.heap.size, gm, Z, rfl, fun _ => rfl, fun h => absurd h (by show ¬ f 7 = true; rw [h7]; decide), hxt.alloc _, (fun b hb => ⟨by have := (hZ b hb).1; simp; omega, (hZ b hb).2.1, fun _ => by have := (hZ b hb).1; omega⟩), F0.out, (fun h => let ⟨C, c, e, ha⟩ := F1.out h; ⟨C, c, e, ha.ext ((Ext.refl _).alloc _)⟩), F2.out, F3.out, (fun h => ⟨(F4.out h).1, (F4.out h).2.1.ext ((Ext.refl _).alloc _), (F4.out h).2.2⟩), F5.out, (fun _ => ⟨rfl, Blk.new _ _ _, hsz⟩)⟩
    cases ho
    have a6 : f 6 = true := haf ⟨6, .data⟩ (Array.mem_of_getElem? (i := 0) rfl) rfl; have a5 : f 5 = true := haf ⟨5, .data⟩ (Array.mem_of_getElem? (i := 1) rfl) rfl; have a1 : f 1 = true := haf ⟨1, .chain⟩ (Array.mem_of_getElem? (i := 2) rfl) rfl; have a0 : f 0 = true := haf ⟨0, .phase⟩ (Array.mem_of_getElem? (i := 3) rfl) rfl; have a2 : f 2 = true := haf ⟨2, .phase⟩ (Array.mem_of_getElem? (i := 5) rfl) rfl; have a3 : f 3 = true := haf ⟨3, .phase⟩ (Array.mem_of_getElem? (i := 6) rfl) rfl; have a4 : f 4 = true := haf ⟨4, .phase⟩ (Array.mem_of_getElem? (i := 7) rfl) rfl; obtain rfl : w' = w2 := hw7 hfi; refine wpOp_of rfl rfl ?_; obtain ⟨C1, c1, rfl, ha⟩ := F1.out a1; obtain ⟨rfl, hbm, hgm⟩ := F4.out a4; obtain rfl := F5.out a5; obtain ⟨rfl, hbb, hgb⟩ := F6.out a6; have o0 := hbb.cell 0; have of0 := hbb.frozen 0; have o1 := hbb.cell 1; have of1 := hbb.frozen 1; have hs0 := hbb.lt; go_simp; exact ⟨_, _, _, _, _, _, _, w', gb, gm, Z, rfl, fun h => by simp at h, fun _ => rfl, hxt, (fun b hb => ⟨(hZ b hb).1, (hZ b hb).2.1, fun _ => (hZ b hb).2.2 a6⟩), F0.out, (fun _ => ⟨_, _, rfl, ha⟩), F2.out, F3.out, (fun _ => ⟨rfl, hbm, hgm⟩), (fun _ => rfl), (fun _ => ⟨rfl, hbb, hgb⟩)⟩
  · intro f a1 w' hall hI
    obtain ⟨t6, t13, t14, t15, t16, t17, t18, w2, gb, gm, Z, rfl, hw7, hw8, hxt, hZ, F0, F1, F2, F3, F4, F5, F6⟩ := hI; obtain rfl := hw8 (hall 7 (by decide)); obtain ⟨C1, c1, rfl, ha⟩ := F1 (hall 1 (by decide)); obtain ⟨rfl, hbm, hgm⟩ := F4 (hall 4 (by decide)); obtain ⟨rfl, hbb, hgb⟩ := F6 (hall 6 (by decide))
    have hZ2 := fun b hb => (hZ b hb).2.2 (hall 6 (by decide))
    have hZ3 := fun b hb => (hZ b hb).2.1
    clear hall F0 F1 F2 F3 F4 F5 F6 hw7 hZ
    have hne : gm ≠ gb := by
     intro e; subst e; unfold Blk at hbm hbb; rw [hbm] at hbb; simp at hbb
    have HBX := BoxR.store (N := w.heap.size + 1) (r := ⟨list, List.replicate list.length 0⟩) hbb (ha.sub (fun b hb => ⟨by have := hZ3 b hb; omega, hZ2 b hb⟩)) (by have h := nats_blk (S := fun b => w.heap.size + 1 ≤ b ∧ b ≠ gb) hbm ⟨by omega, hne⟩ (by simp; omega); simpa using h)
    go_wp2_with fail
    go_meet
    exact ⟨gb, rfl, by omega, Lib.hid HBX, Lib.hid (Ext.setNew (Ext.setNew hxt hgb _) hgb _)⟩
  refine ⟨undef, undef, undef, undef, undef, undef, undef, { w0 with drawn := w0.drawn + 1 }, 0, 0, (fun _ => False), rfl, fun _ => rfl, fun h => by simp at h, (Ext.refl w0).drew, (fun b hb => hb.elim), (by simp), (by simp), (by simp), (by simp), (by simp), (by simp), (by simp)⟩
 case rest =>
  clear hmk HCP; obtain ⟨gb, rfl, hgb, hbx, hx1⟩ := hcut; have HX1 := Lib.hid (HX0.out.trans' hx1.out)
  go_upto_region 3 with (first
   | (go_at_call 224; refine (HLV.out _ HX1.out).mono ?_; rintro e w2 ⟨⟨gl, rfl, hgl⟩, hx2⟩
      have HGL := Lib.hid hgl; have HB2 := Lib.hid (hbx.out.ext hx2); have HX2 := Lib.hid (HX1.out.trans' hx2); have HM2 := Lib.hid (HN0.out.ext (hx1.out.trans' hx2))
      clear hgl hx2)
   | fail)
  have hne : gl ≠ gb := by
   intro e; obtain ⟨v, rv, hb, _, _⟩ := HB2.out; have h1 := HGL.out; subst e; unfold Blk at h1 hb; rw [h1] at hb; simp at hb
  have hgw : gb < w2.heap.size := by
   obtain ⟨v, rv, hb, _, _⟩ := HB2.out; exact hb.lt
  clear hbx hx1 HX1 HLV HN0
  go_wp2_with fail
  go_loopw [8, 9] (fun n l wr => ∃ (q m : Nat) (r : RL), n = .int .i64 m ∧ l = .int .i64 q ∧ q ≤ rules.length + 1 ∧ m ≤ r.list.length ∧ r.list.length ≤ 300 ∧ Hid (r.round.length = r.list.length) ∧ Hid (BoxR (w.heap.size + 1) gb wr r) ∧ Hid (runN rules list = runL rules (levelsL rules) (rules.length + 1 - q) q r m) ∧ Hid (Else gb w2 wr)) (fun _ l _ => rules.length + 1 - (intOf l).toNat)
  case atStart => exact ⟨0, 0, ⟨list, List.replicate list.length 0⟩, rfl, rfl, by omega, Nat.zero_le _, by show list.length ≤ 300; omega, Lib.hid (by simp), HB2, Lib.hid rfl, Lib.hid (Else.refl _ _)⟩
  case round =>
   obtain ⟨q, m, r, rfl, rfl, hq, hm, hr3, hrl, hbo, hrun, hel⟩ := hrel
   have hq0 : (0 : Int) ≤ (q : Int) := by omega
   have hm0 : (0 : Int) ≤ (m : Int) := by omega
   by_cases hlt : q ≤ rules.length
   · have hlt' : (q : Int) ≤ (rules.length : Int) := by omega
     have HRS := Lib.hid (show runN rules list = (match levelN rules (levelsL rules) q (302 - r.list.length) r m with | (r2, n2, ok) => if ok then runL rules (levelsL rules) (rules.length - q) (q + 1) r2 n2 else (r2, false)) from by rw [hrun.out, show rules.length + 1 - q = (rules.length - q) + 1 by omega]; rfl)
     obtain ⟨LV, hLV⟩ : ∃ LV, LV = levelN rules (levelsL rules) q (302 - r.list.length) r m := ⟨_, rfl⟩
     rw [← hLV] at HRS; have HLVE := Lib.hid hLV; clear hLV hrun
     go_wp2_with fail
     go_loopw [8] (fun n wm => ∃ (m2 : Nat) (r2 : RL), n = .int .i64 m2 ∧ m2 ≤ r2.list.length ∧ r2.list.length ≤ 300 ∧ Hid (r2.round.length = r2.list.length) ∧ Hid (BoxR (w.heap.size + 1) gb wm r2) ∧ Hid (LV = levelN rules (levelsL rules) q (302 - r2.list.length) r2 m2) ∧ Hid (Else gb w2 wm)) (fun n _ => 301 - (intOf n).toNat)
     case atStart => exact ⟨m, r, rfl, hm, hr3, hrl, hbo, HLVE, hel⟩
     case round =>
      clear hbo hel hrl hm hr3 hm0 HLVE; obtain ⟨m2, r2, rfl, hm2, hr2, hrl2, hbo2, hlv2, hel2⟩ := hrel
      obtain ⟨NN, hNN⟩ : ∃ NN, NN = m2 + 1 := ⟨_, rfl⟩
      have hwm : IntKind.i64.wrap ((m2 : Int) + 1) = (NN : Int) := by rw [IntKind.wrap_i64]; omega
      have hwn : IntKind.i64.wrap ((NN : Int) - 1) = (m2 : Int) := by rw [IntKind.wrap_i64]; omega
      have HST := Lib.hid (hlv2.out.trans (levelN_step rules (levelsL rules) q r2 m2 hr2)); have HXM := Lib.hid (Else.toExt HX2.out hel2.out (by omega)); obtain ⟨A3, c3, D3, d3, hb3, ha3, hn3⟩ := hbo2.out.form; have q0 := hb3.cell 0; have q1 := hb3.cell 1; have ql := hb3.lt; have HON := Lib.hid (l4Once_any rules (levelsL rules) q r2.list _ (.slice A3 r2.list.length c3) gl wr (HV.out.ext HXM.out) (HGL.out.els hel2.out hne) HLL.out ha3 h8 HRB.out hr2)
      have hol : (onceN rules (levelsL rules) q r2.list).length ≤ 66000000000 := by
       refine Nat.le_trans (once_len hr2 _ _ fun y hy => ?_) ?_
       · exact (HRB.out _ (List.fst_mem_of_mem_zipIdx hy)).1
       rw [List.length_zipIdx, List.length_nil, Nat.zero_add]; exact Nat.le_trans (Nat.mul_le_mul_right _ h8) (by omega)
      rw [← hNN] at HST; have HNN := Lib.hid hNN; clear hNN
      obtain ⟨more, hmore⟩ : ∃ more, more = onceN rules (levelsL rules) q r2.list := ⟨_, rfl⟩
      rw [← hmore] at HON HST hol; have HB3 := Lib.hid hbo2.out; clear hmore hb3 ha3 hn3 hlv2
      go_wp2_with (first
       | (go_at_call 225; refine HON.out.mono ?_; rintro e w4 ⟨⟨v4, rfl, hv4⟩, hx4⟩
          obtain ⟨E, e4, rfl, he41, he42⟩ := SliceR.form hv4; have HV4 := Lib.hid hv4; have HX4 := Lib.hid hx4; have HB4 := Lib.hid (HB3.out.ext hx4); have hw4 := hx4.size
          clear hv4 hx4)
       | fail)
      obtain ⟨N4, hN4⟩ : ∃ N4, N4 = wr.heap.size := ⟨_, rfl⟩
      have hgN : gb < N4 := by rw [hN4]; exact ql
      have HV5 := Lib.hid (show AtomsR (From N4) w4 (.slice E more.length e4) more from by rw [hN4]; exact HV4.out); have HM4 := Lib.hid ((HM2.out.els hel2.out (show w.heap.size ≠ gb by omega)).ext HX4.out); have HEL4 := Lib.hid (hel2.out.trans' (Else.of_ext HX4.out))
      have hgw4 : gb < w4.heap.size := by omega
      have hx4s : Ext w w4 := HXM.out.trans' HX4.out; have HX4W := Lib.hid hx4s; clear hx4s hN4 q0 q1 ql HV4
      go_loopw [12] (fun i wi => ∃ k : Nat, k ≤ more.length ∧ i = .int .i64 k ∧ Hid (BoxR (w.heap.size + 1) gb wi (r2.puts NN (more.take k))) ∧ Hid (Else gb w4 wi)) (fun i _ => more.length - (intOf i).toNat)
      case atStart => exact ⟨0, Nat.zero_le _, rfl, HB4, Lib.hid (Else.refl _ _)⟩
      case round =>
       obtain ⟨k, hk, rfl, hbk, helk⟩ := hrel
       have hk0 : (0 : Int) ≤ (k : Int) := by omega
       obtain ⟨A5, c5, D5, d5, hb5, ha5, hn5⟩ := hbk.out.form; have s0 := hb5.cell 0; have s1 := hb5.cell 1; have sl := hb5.lt; have sf0 := hb5.frozen 0; have sf1 := hb5.frozen 1
       by_cases hkl : k < more.length
       · have hkl' : (k : Int) < (more.length : Int) := by omega
         obtain ⟨b, off, x, v1, rfl, hb, hxk, hxs, ht1, hc0, hc1⟩ := AtomsR.at_ (show AtomsR (From N4) wr (.slice E more.length e4) more from HV5.out.imp (fun _ h => h) (helk.out.from_ hgN) helk.out.size) hkl; obtain ⟨C1, c1, rfl, _, _⟩ := SliceR.form ht1
         obtain ⟨RR, hRR⟩ : ∃ RR, RR = r2.puts NN (more.take k) := ⟨_, rfl⟩
         have HQ := Lib.hid (show r2.puts NN (more.take (k + 1)) = RR.put NN x from by rw [hRR, List.take_add_one, hxk]; exact puts_snoc _ _ _ _); have hRL := RL.puts_len NN (more.take k) r2; have hRN := RL.puts_round NN (more.take k) r2 hrl2.out; rw [← hRR] at hRL hRN ha5 hn5 hb5 s0 s1
         have hRL2 : RR.list.length ≤ 100000000000 := by have := hRL.2; rw [List.length_take] at this; omega
         have HPC := Lib.hid (l4Put_any RR x NN _ _ _ wr.drew (ha5.ext (Ext.refl _).drew) (hn5.ext (Ext.refl _).drew) (ht1.ext (Ext.refl _).drew) hxs hRL2 hRN); have HB5 := Lib.hid (hb5.ext (Ext.refl wr).drew); have HH5 := Lib.hid helk.out.size; clear hRR hRL hRN ha5 hn5 hb5 hxk ht1 hbk; rw [← HQ.out] at HPC
         obtain ⟨RQ, hRQ⟩ : ∃ RQ, RQ = r2.puts NN (more.take (k + 1)) := ⟨_, rfl⟩
         rw [← hRQ] at HPC; have HRQ := Lib.hid hRQ; clear hRQ
         go_wp2_with fail
         go_still_tail 6, (by kernel_rfl)
         change wpList _ _ _ _ _ wr.drew; clear hb hc0 hc1 s0 s1 sl sf0 sf1
         go_wp2_with (first
          | (go_at_call 226; refine HPC.out.mono ?_; rintro e w6 ⟨⟨v6, rv6, rfl, hv6, hrv6⟩, hx6⟩
             obtain ⟨A6, c6, rfl, _, _⟩ := SliceR.form hv6; obtain ⟨D6, d6, rfl, _, _⟩ := SliceR.form hrv6
             have HV6 := Lib.hid (hv6.sub (fun b hb => show w.heap.size + 1 ≤ b ∧ b ≠ gb from by
              rcases hb with h | h | h
              · have h1 := HH5.out; have h2 := HX4W.out.size; have h3 : wr.heap.size ≤ b := h; omega
              · exact h
              have h3 : N4 ≤ b := h; omega))
             have HN6 := Lib.hid (NatsR.sub hrv6 (fun b hb => show w.heap.size + 1 ≤ b ∧ b ≠ gb from by
              rcases hb with h | h
              · have h1 := HH5.out; have h2 := HX4W.out.size; have h3 : wr.heap.size ≤ b := h; omega
              exact h))
             have HB6 := Lib.hid (HB5.out.ext hx6); have y0 := HB6.out.cell 0; have y1 := HB6.out.cell 1; have yf0 := HB6.out.frozen 0; have yf1 := HB6.out.frozen 1; have yl := HB6.out.lt; have HE6 := Lib.hid (helk.out.trans' (Else.of_ext ((Ext.refl wr).drew.trans' hx6)))
             clear hv6 hrv6 hx6)
          | fail)
         go_roundw
         case rel => exact ⟨k + 1, by omega, by go_num, Lib.hid (by rw [← HRQ.out]; exact BoxR.store HB6.out HV6.out HN6.out), Lib.hid (HE6.out.store _ _ hgw4)⟩
         case measure => simp [intOf]; omega
       have hkl' : ¬ (k : Int) < (more.length : Int) := by omega
       obtain rfl : k = more.length := by omega
       rw [List.take_length] at hbk hb5 ha5 hn5 s0 s1
       obtain ⟨r3, hr3⟩ : ∃ r3, r3 = r2.puts NN more := ⟨_, rfl⟩
       have hPL := RL.puts_len NN more r2; have hPR := RL.puts_round NN more r2 hrl2.out; have hst : LV = (if 300 < (r2.puts NN more).list.length then (r2.puts NN more, NN, false) else if (r2.puts NN more).list.length = r2.list.length then (r2.puts NN more, m2, true) else levelN rules (levelsL rules) q (302 - (r2.puts NN more).list.length) (r2.puts NN more) NN) := HST.out; rw [← hr3] at hPL hPR hst hbk hb5 ha5 hn5 s0 s1; have HPR := Lib.hid hPR; have HBK := Lib.hid hbk.out; have HA5 := Lib.hid ha5; have HEW := Lib.hid (HEL4.out.trans' helk.out); have HXW := Lib.hid (Else.toExt HX2.out HEW.out (by omega)); clear hr3 hPR hb5 ha5 hn5 hbk HST
       by_cases h300 : 300 < r3.list.length
       · rw [if_pos h300] at hst
         have h3i : (300 : Int) < (r3.list.length : Int) := by omega
         have HF := Lib.hid (show runN rules list = (r3, false) from by rw [HRS.out, hst]; rfl); have HMK := Lib.hid (HM4.out.els helk.out (show w.heap.size ≠ gb by omega)); have y0 := HMK.out.cell 0; have y1 := HMK.out.cell 1; have yf0 := HMK.out.frozen 0; have yf1 := HMK.out.frozen 1; have yl := HMK.out.lt; clear hst
         go_wp2_with fail
         refine bodyPost_ret (v := .tuple #[.agg #[.slice A5 r3.list.length c5, .slice D5 r3.round.length d5], .bool false]) (by simp [results, Tryz.results166, go_sem, y0, y1, yf0, yf1, yl]) rfl ?_; have hfin := run_end (x := .slice A5 r3.list.length c5) (y := .slice D5 r3.round.length d5) HXW.out HA5.out; exact ⟨⟨.slice A5 r3.list.length c5, ⟨D5, r3.round.length, d5, by rw [HF.out]⟩, by rw [HF.out]; exact hfin.1⟩, hfin.2⟩
       rw [if_neg h300] at hst
       have h3i : ¬ (300 : Int) < (r3.list.length : Int) := by omega
       by_cases heq : r3.list.length = r2.list.length
       · rw [if_pos heq] at hst
         have heqi : (r3.list.length : Int) = (r2.list.length : Int) := by omega
         have heqb : ((r3.list.length : Int) == (r2.list.length : Int)) = true := by simp [heq]
         have HF := Lib.hid (show runN rules list = runL rules (levelsL rules) (rules.length - q) (q + 1) r3 m2 from by rw [HRS.out, hst]; rfl); have HEQ := Lib.hid heq; clear hst heq
         go_wp2_with fail
         go_roundw
         case rel => exact ⟨q + 1, m2, r3, rfl, by go_num, by omega, by have := HEQ.out; omega, by omega, HPR, HBK, Lib.hid (by rw [HF.out, show rules.length + 1 - (q + 1) = rules.length - q by omega]), HEW⟩
         case measure => simp [intOf]; omega
       rw [if_neg heq] at hst
       have heqi : ¬ (r3.list.length : Int) = (r2.list.length : Int) := by omega
       have heqb : ((r3.list.length : Int) == (r2.list.length : Int)) = false := by simp; omega
       have HF := Lib.hid hst; clear hst
       go_wp2_with fail
       go_roundw
       case rel => exact ⟨NN, r3, rfl, by have := HNN.out; omega, by omega, HPR, HBK, HF, HEW⟩
       case measure => have := HNN.out; simp [intOf]; omega
   have hlt' : ¬ (q : Int) ≤ (rules.length : Int) := by omega
   obtain rfl : q = rules.length + 1 := by omega
   obtain ⟨A5, c5, D5, d5, hb5, ha5, hn5⟩ := hbo.out.form; have HF := Lib.hid (show runN rules list = (r, true) from by rw [hrun.out, Nat.sub_self]; rfl); have HA5 := Lib.hid ha5; have s0 := hb5.cell 0; have s1 := hb5.cell 1; have sl := hb5.lt; have HXW := Lib.hid (Else.toExt HX2.out hel.out (by omega)); have HMK := Lib.hid (HM2.out.els hel.out (show w.heap.size ≠ gb by omega)); have y0 := HMK.out.cell 0; have y1 := HMK.out.cell 1; have yf0 := HMK.out.frozen 0; have yf1 := HMK.out.frozen 1; have yl := HMK.out.lt; clear hrun hb5 ha5 hn5 hbo
   go_wp2_with fail
   refine bodyPost_ret (v := .tuple #[.agg #[.slice A5 r.list.length c5, .slice D5 r.round.length d5], .bool true]) (by simp [results, Tryz.results166, go_sem, y0, y1, yf0, yf1, yl]) rfl ?_; have hfin := run_end (x := .slice A5 r.list.length c5) (y := .slice D5 r.round.length d5) HXW.out HA5.out; exact ⟨⟨.slice A5 r.list.length c5, ⟨D5, r.round.length, d5, by rw [HF.out]⟩, by rw [HF.out]; exact hfin.1⟩, hfin.2⟩
def doL (list : List GA) (c : GC) : List GA := c.comes.foldl putA (lessA list c.goes)
def backL (list : List GA) (c : GC) : List GA × Bool := if c.comes.all (hasA list) && c.goes.all (fun a => !hasA list a) then (doL list ⟨c.goes, c.comes⟩, true) else (list, false)
def changeOfL (a b : List GA) : GC := if factsB a 300 && factsB b 300 then ⟨lessA b a, lessA a b⟩ else ⟨[], []⟩
noncomputable def fineB (rules : List GR) (given : List GA) : Bool := evalOkB rules given && (runN rules given).2
def lite (l : List GA) : Prop := l.length ≤ 40000 ∧ ∀ x ∈ l, wAtom x ≤ 80
theorem sum_lite : ∀ {l : List GA}, (∀ x ∈ l, wAtom x ≤ 80) → (l.map wAtom).sum ≤ 80 * l.length
 | [], _ => by simp
 | a :: l, h => by
   have h1 := sum_lite (l := l) (fun x hx => h x (List.mem_cons_of_mem _ hx)); have h2 := h a List.mem_cons_self; rw [List.map_cons, List.sum_cons, List.length_cons]; omega
theorem lite.w {l : List GA} (h : lite l) : wAtoms l ≤ 4194304 := by
 have h1 := sum_lite h.2; have h2 := h.1; unfold wAtoms; omega
theorem lite.args {l : List GA} (h : lite l) {x : GA} (hx : x ∈ l) : x.args.length ≤ 80 := Nat.le_trans (wAtom_args x) (h.2 x hx)
theorem lessA_mem {xs ys : List GA} {x : GA} (h : x ∈ lessA xs ys) : x ∈ xs := (List.mem_filter.1 h).1
theorem putsA_mem {x : GA} : ∀ {l out : List GA}, x ∈ l.foldl putA out → x ∈ out ∨ x ∈ l
 | [], out, h => .inl h
 | a :: l, out, h => by
   rcases putsA_mem (l := l) (out := putA out a) h with h | h
   · rcases putA_mem h with h | h
     · exact .inl h
     exact .inr (by rw [h]; exact List.mem_cons_self)
   exact .inr (List.mem_cons_of_mem _ h)
theorem putsA_most : ∀ (l out : List GA), (l.foldl putA out).length ≤ out.length + l.length
 | [], out => by simp
 | a :: l, out => by
   have h1 := putsA_most l (putA out a); have h2 := putA_one out a; rw [List.foldl_cons, List.length_cons]; omega
theorem doL_mem {list : List GA} {c : GC} {x : GA} (h : x ∈ doL list c) : x ∈ list ∨ x ∈ c.comes := (putsA_mem h).elim (fun h => .inl (lessA_mem h)) .inr
theorem doL_len (list : List GA) (c : GC) : (doL list c).length ≤ list.length + c.comes.length := Nat.le_trans (putsA_most _ _) (Nat.add_le_add_right (lessA_len _ _) _)
set_option maxRecDepth 100000 in
set_option maxHeartbeats 2000000 in
theorem l3Do_any (list : List GA) (g : GC) (v a b : Value) (w : World) {S T U : Nat → Prop} (hv : AtomsR S w v list) (ha : AtomsR T w a g.comes) (hb : AtomsR U w b g.goes) (h1 : lite list) (h2 : lite g.comes) :
 Calls Tryz.prog 105 #[v, .agg #[a, b]] w fun e w' => (∃ v', e = .returned v' ∧ AtomsR (From w.heap.size) w' v' (doL list g)) ∧ Ext w w' := by
 obtain ⟨A, c, rfl, hc1, hc2⟩ := SliceR.form hv; obtain ⟨B, d, rfl, hd1, hd2⟩ := SliceR.form ha; obtain ⟨D, f, rfl, hf1, hf2⟩ := SliceR.form hb
 obtain ⟨W, hW⟩ : ∃ W, W = w.alloc (.cells #[.slice B g.comes.length d, .slice D g.goes.length f] 32) := ⟨_, rfl⟩
 have HB := Lib.hid (show Blk W w.heap.size 32 #[.slice B g.comes.length d, .slice D g.goes.length f] from by rw [hW]; exact Blk.new _ _ _); have HX := Lib.hid (show Ext w W from by rw [hW]; exact (Ext.refl _).alloc _); have HLE := Lib.hid (l3Less_any _ _ list g.goes W (hv.ext HX.out) (hb.ext HX.out) h1.w); have HC := Lib.hid (ha.ext HX.out); have p0 := HB.out.cell 0; have p1 := HB.out.cell 1; have pl := HB.out.lt; have HH1 := Lib.hid h1; have HH2 := Lib.hid h2; have hl1 := h1.1; have hl2 := h2.1; have hll := lessA_len list g.goes
 obtain ⟨out0, hout⟩ : ∃ o, o = lessA list g.goes := ⟨_, rfl⟩
 rw [← hout] at HLE hll; have HD := Lib.hid (show doL list g = g.comes.foldl putA out0 from by rw [hout]; rfl); have HO := Lib.hid (show ∀ x ∈ out0, x.args.length ≤ 80 from fun x hx => by rw [hout] at hx; exact h1.args (lessA_mem hx)); clear hv ha hb h1 h2 hout
 go_enter Tryz.func105, Tryz.ntmps105
 go_upto_region 1 with fail
 rw [← hW]; clear hW
 go_wp2_with (first
  | (go_at_call 151; refine HLE.out.mono ?_; rintro e w1 ⟨⟨v1, rfl, hv1, _⟩, hx1⟩
     have HV1 := Lib.hid (AtomsR.sub hv1 (fun (_ : Nat) _ => (trivial : Any _))); have HX1 := Lib.hid hx1; have HC1 := Lib.hid (HC.out.ext hx1); have HB1 := Lib.hid (HB.out.ext hx1)
     clear hv1 hx1 p0 p1 pl HB HC HLE)
  | fail)
 go_loopw [5, 6] (fun o i wr => ∃ k : Nat, k ≤ g.comes.length ∧ i = .int .i64 k ∧ Hid (AtomsR Any wr o ((g.comes.take k).foldl putA out0)) ∧ Ext w1 wr) (fun _ i _ => g.comes.length - (intOf i).toNat)
 case atStart => exact ⟨0, Nat.zero_le _, rfl, HV1, Ext.refl _⟩
 case round =>
  obtain ⟨k, hk, rfl, ho, hx⟩ := hrel
  have hk0 : (0 : Int) ≤ (k : Int) := by omega
  have hb1 := HB1.out.ext hx; have p0 := hb1.cell 0; have p1 := hb1.cell 1; have pl := hb1.lt; have hol := putsA_most (g.comes.take k) out0; rw [List.length_take] at hol; clear hb1
  by_cases hlt : k < g.comes.length
  · have hlt' : (k : Int) < (g.comes.length : Int) := by omega
    obtain ⟨b, off, x, v2, rfl, hbl, hxk, hxs, hxt, hc0, hc1'⟩ := AtomsR.at_ (HC1.out.ext hx) hlt; obtain ⟨X, cx, rfl, _, _⟩ := SliceR.form hxt; have HST := Lib.hid (show (g.comes.take (k + 1)).foldl putA out0 = putA ((g.comes.take k).foldl putA out0) x from foldl_snoc _ _ _ _ _ hxk); have HPU := Lib.hid (l3PutL_any _ _ _ x wr ho.out hxt hxs (by omega)); obtain ⟨O, co, rfl, _, _⟩ := SliceR.form ho.out; clear hxk hxt
    go_wp2_with (first
     | (go_at_call 74; refine HPU.out.mono ?_; rintro e w3 ⟨⟨v3, rfl, hv3⟩, hx3⟩
        have HV3 := Lib.hid (AtomsR.sub hv3 (fun (_ : Nat) _ => (trivial : Any _))); have HX3 := Lib.hid (hx.trans' hx3)
        clear hv3 hx3)
     | fail)
    go_roundw
    case rel => exact ⟨k + 1, by omega, by go_num, (by rw [HST.out]; exact HV3), HX3.out⟩
    case measure => simp [intOf]; omega
  have hlt' : ¬ (k : Int) < (g.comes.length : Int) := by omega
  have hke : k = g.comes.length := by omega
  rw [hke, List.take_length, ← HD.out] at ho
  have HCP := Lib.hid (l3Copy_any _ _ wr ho.out (by have := doL_len list g; omega) (fun x hx => by
   rcases doL_mem hx with h | h
   · have := HH1.out.args h; omega
   have := HH2.out.args h; omega))
  obtain ⟨O, co, rfl, _, _⟩ := SliceR.form ho.out
  go_wp2_with (first
   | (go_at_call 168; refine HCP.out.mono ?_; rintro e w4 ⟨⟨v4, rfl, hv4⟩, hx4⟩
      obtain ⟨Z, cz, rfl, _, _⟩ := SliceR.form hv4; have HV4 := Lib.hid hv4; have HX4 := Lib.hid hx4
      clear hv4 hx4)
   | fail)
  go_ret; have hxx := (HX.out.trans' HX1.out).trans' hx; exact ⟨⟨_, rfl, AtomsR.sub HV4.out (fromLe hxx.size)⟩, hxx.trans' HX4.out⟩
set_option maxRecDepth 100000 in
set_option maxHeartbeats 2000000 in
theorem l7Fine_any (rules : List GR) (list : List GA) (v u : Value) (w : World) {S T : Nat → Prop} (hv : RulesR S w v rules) (hu : AtomsR T w u list) :
 Calls Tryz.prog 46 #[v, u] w fun e w' => e = .returned (.bool (fineB rules list)) ∧ Ext w w' := by
 obtain ⟨A, c, rfl, hc1, hc2⟩ := SliceR.form hv; obtain ⟨B, d, rfl, hd1, hd2⟩ := SliceR.form hu; have HE := Lib.hid (eval_any l4Run_any rules list _ _ w hv hu); have HF := Lib.hid (show fineB rules list = (evalOkB rules list && (runN rules list).2) from rfl); rw [← HF.out] at HE
 obtain ⟨fb, hfb⟩ : ∃ fb, fb = fineB rules list := ⟨_, rfl⟩
 rw [← hfb] at HE; rw [← hfb]; clear hv hu hfb HF
 go_enter Tryz.func46, Tryz.ntmps46
 go_wp2_with (first
  | (go_at_call 102; refine HE.out.mono ?_; rintro e w1 ⟨⟨v1, rfl, hv1⟩, hx1⟩
     obtain ⟨O, co, rfl, _, _⟩ := SliceR.form hv1; have HX1 := Lib.hid hx1
     clear hv1 hx1)
  | fail)
 go_ret; exact ⟨rfl, HX1.out⟩
set_option maxRecDepth 100000 in
set_option maxHeartbeats 2000000 in
theorem l7Change_any (g : GC) (a b : Value) (w : World) {T U : Nat → Prop} (ha : AtomsR T w a g.comes) (hb : AtomsR U w b g.goes) (h1 : lite g.comes) (h2 : lite g.goes) :
 Calls Tryz.prog 204 #[.agg #[a, b]] w fun e w' => (∃ x y, e = .returned (.agg #[x, y]) ∧ AtomsR (From w.heap.size) w' x g.comes ∧ AtomsR (From w.heap.size) w' y g.goes) ∧ Ext w w' := by
 obtain ⟨B, d, rfl, hd1, hd2⟩ := SliceR.form ha; obtain ⟨D, f, rfl, hf1, hf2⟩ := SliceR.form hb
 obtain ⟨W, hW⟩ : ∃ W, W = (w.alloc (.cells #[.slice B g.comes.length d, .slice D g.goes.length f] 32)).alloc (.cells #[.slice none 0 0, .slice none 0 0] 32) := ⟨_, rfl⟩
 have HB := Lib.hid (show Blk W w.heap.size 32 #[.slice B g.comes.length d, .slice D g.goes.length f] from by rw [hW]; exact (Blk.new _ _ _).alloc _); have HB2 := Lib.hid (show Blk W (w.heap.size + 1) 32 #[.slice none 0 0, .slice none 0 0] from by rw [hW]; exact Blk.at_new (by simp)); have HX := Lib.hid (show Ext w W from by rw [hW]; exact ((Ext.refl _).alloc _).alloc _)
 have hz : W.heap.size = w.heap.size + 1 + 1 := by rw [hW]; simp
 have HSW := Lib.hid (fun (W' : World) (hW' : Ext W W') => And.intro ((HB.out.ext hW').cell 0) ((HB.out.ext hW').cell 1))
 have HSY := Lib.hid (fun (W' : World) (hW' : Ext W W') (x y : Value) => (show ((W'.setCell ⟨w.heap.size + 1, 0, none⟩ x).setCell ⟨w.heap.size + 1, 1, none⟩ y).cell? ⟨w.heap.size, 0, none⟩ = some (.slice B g.comes.length d) ∧ ((W'.setCell ⟨w.heap.size + 1, 0, none⟩ x).setCell ⟨w.heap.size + 1, 1, none⟩ y).cell? ⟨w.heap.size, 1, none⟩ = some (.slice D g.goes.length f) from by
  have h0 := ((HB.out.ext hW').far (p := ⟨w.heap.size + 1, 0, none⟩) (by simp) x).far (p := ⟨w.heap.size + 1, 1, none⟩) (by simp) y
  exact ⟨h0.cell 0, h0.cell 1⟩))
 have HC1 := Lib.hid (fun (W' : World) (hW' : Ext W W') => l3Copy_any _ g.comes W' (ha.ext (HX.out.trans' hW')) (by have := h1.1; omega) (fun x hx => by have := h1.args hx; omega)); have HC2 := Lib.hid (fun (W' : World) (hW' : Ext W W') => l3Copy_any _ g.goes W' (hb.ext (HX.out.trans' hW')) (by have := h2.1; omega) (fun x hx => by have := h2.args hx; omega)); have p0 := HB.out.cell 0; have p1 := HB.out.cell 1; have pl := HB.out.lt; have tok : True := trivial; clear ha hb h1 h2
 go_enter Tryz.func204, Tryz.ntmps204
 go_upto_region 1 with fail
 rw [← hW]; clear hW
 go_region_held3 (fun W' => W'.cell? ⟨w.heap.size, 0, none⟩ = some (.slice B g.comes.length d) ∧ W'.cell? ⟨w.heap.size, 1, none⟩ = some (.slice D g.goes.length f))
  (first | exact HSY.out _ HX2.out _ _ | exact HSW.out _ HX2.out | exact HSW.out _ HX1.out | exact HSW.out _ (Ext.refl W).drew)
  (first
   | (go_at_call 168; have _t := tok; refine (HC1.out _ (Ext.refl W).drew).mono ?_; clear tok _t; rintro e w1 ⟨⟨v1, rfl, hv1⟩, hx1⟩
      obtain ⟨O1, o1, rfl, _, _⟩ := SliceR.form hv1; have HX1 := Lib.hid ((Ext.refl W).drew.trans' hx1); have HV1 := Lib.hid (show AtomsR (From W.heap.size) w1 (.slice O1 g.comes.length o1) g.comes from hv1)
      clear hv1 hx1)
   | (go_at_call 168; refine (HC2.out _ HX1.out).mono ?_; rintro e w2 ⟨⟨v2, rfl, hv2⟩, hx2⟩
      obtain ⟨O2, o2, rfl, _, _⟩ := SliceR.form hv2; have HV1b := Lib.hid (HV1.out.ext hx2); have HV2 := Lib.hid (show AtomsR (From W.heap.size) w2 (.slice O2 g.goes.length o2) g.goes from AtomsR.sub hv2 (fromLe HX1.out.size)); have HX2 := Lib.hid (HX1.out.trans' hx2); have HB4 := Lib.hid (HB2.out.ext HX2.out); have y0 := HB4.out.cell 0; have y1 := HB4.out.cell 1; have yf0 := HB4.out.frozen 0; have yf1 := HB4.out.frozen 1; have yl := HB4.out.lt
      clear hv2 hx2))
 all_goals go_wp2_with fail
 all_goals
  refine bodyPost_ret (v := .agg #[.slice O1 g.comes.length o1, .slice O2 g.goes.length o2]) (by simp [results, Tryz.results204, go_sem, y0, y1, yf0, yf1, yl]) rfl ?_
  have hA : Agree (From W.heap.size) w2 ((w2.setCell ⟨w.heap.size + 1, 0, none⟩ (.slice O1 g.comes.length o1)).setCell ⟨w.heap.size + 1, 1, none⟩ (.slice O2 g.goes.length o2)) :=
   ((Agree.refl _ _).setCell (fun hb => by have h : W.heap.size ≤ w.heap.size + 1 := hb; omega) _).setCell (fun hb => by have h : W.heap.size ≤ w.heap.size + 1 := hb; omega) _
  have hxx := HX.out.trans' HX2.out
  exact ⟨⟨_, _, rfl, (HV1b.out.imp (fun _ h => h) hA (by go_size)).sub (fromLe HX.out.size), (HV2.out.imp (fun _ h => h) hA (by go_size)).sub (fromLe HX.out.size)⟩,
   Ext.setNew (Ext.setNew hxx (by show w.heap.size ≤ w.heap.size + 1; omega) _) (by show w.heap.size ≤ w.heap.size + 1; omega) _⟩
end Go.Proofs.YtmihponoillihaaGreatDoor
