/- Part of the texts of a proof; what they say stands at each theorem. -/
import Derived.Test.YtmihponoillihaaGreatDoorBas21
import Derived.Test.YtmihponoillihaaGreatDoorBas22
set_option linter.unusedSimpArgs false
set_option linter.unusedVariables false
namespace Go.Proofs.YtmihponoillihaaGreatDoor
open Go.RowKit
theorem check_w {l : List GR} (h : progCheckN l = 0) : wRules l ≤ 1048576 := by
 obtain ⟨h1, h2, _, _⟩ := check_parts h
 have hr : ∀ r ∈ l, wRule r ≤ 179 := fun r hr => by
  have hf := h1 r hr; have a := (atom_w hf.head).1; have b := sum_most (f := wPart) (fun p hp => (atom_w (hf.body p hp)).1); have c := hf.few; unfold wRule wParts; omega
 have := sum_most hr; unfold wRules; omega
structure BaseS (B : GB) (k : Nat) : Prop where
 given : Facts B.given ∧ Asc B.given ∧ B.given.length ≤ 40
 hist : B.hist.length ≤ 30 ∧ ∀ c ∈ B.hist, (c.comes.length ≤ 40 ∧ ∀ x ∈ c.comes, wAtom x ≤ 80) ∧ (c.goes.length ≤ 40 ∧ ∀ x ∈ c.goes, wAtom x ≤ 80)
 time : 0 ≤ B.time ∧ B.time ≤ k
 rules : B.rules.length ≤ 8 ∧ ∀ r ∈ B.rules, r.body.length ≤ 4 ∧ r.head.args.length ≤ 1000 ∧ ∀ p ∈ r.body, p.atom.args.length ≤ 1000
theorem BaseS.lite {B : GB} {k : Nat} (h : BaseS B k) (hk : k ≤ 1000) : LiteB B := by
 have h1 := h.given; have h2 := h.hist.1; have h3 := h.time
 exact ⟨⟨by omega, fun x hx => Nat.le_trans (fact_w (h1.1 x hx)).1 (by omega)⟩, ⟨by omega, fun c hc => by
  obtain ⟨a, b⟩ := h.hist.2 c hc
  exact ⟨⟨by omega, a.2⟩, ⟨by omega, b.2⟩⟩⟩, ⟨by omega, by omega⟩, h.rules⟩
theorem BaseS.le {B : GB} {k m : Nat} (h : BaseS B k) (hk : k ≤ m) : BaseS B m := by
 have h3 := h.time; exact ⟨h.given, h.hist, ⟨h3.1, by omega⟩, h.rules⟩
theorem facts_nil : Facts [] := fun a ha => by cases ha
theorem BaseS.new (l : List GR) : BaseS (baseN l) 0 := by
 unfold baseN
 split
 · rename_i h
   obtain ⟨h1, h2, _, _⟩ := check_parts h; refine ⟨⟨facts_nil, List.Pairwise.nil, by simp⟩, ⟨by simp, by simp⟩, ⟨Int.le_refl _, Int.le_refl _⟩, h2, fun r hr => ?_⟩; have hf := h1 r hr; exact ⟨hf.few, Nat.le_trans (atom_w hf.head).2.1 (by omega), fun p hp => Nat.le_trans (atom_w (hf.body p hp)).2.1 (by omega)⟩
 exact ⟨⟨facts_nil, List.Pairwise.nil, by simp⟩, ⟨by simp, by simp⟩, ⟨Int.le_refl _, Int.le_refl _⟩, by simp, by simp⟩
theorem LiteX.start {B : GB} {k : Nat} (h : BaseS B k) (hk : k ≤ 1000) : LiteX ⟨B.time, ⟨[], []⟩⟩ := by
 have h3 := h.time; exact ⟨⟨by simp, by simp⟩, ⟨by simp, by simp⟩, ⟨by show -1000000 ≤ B.time; omega, by show B.time ≤ 1000000; omega⟩⟩
theorem fine_given {rules : List GR} {given : List GA} (h : fineB rules given = true) : Facts given ∧ Asc given ∧ given.length ≤ 40 := by
 unfold fineB at h; simp only [Bool.and_eq_true] at h; obtain ⟨_, h2, h3, h4⟩ := evalOk_parts h.1; exact ⟨h2, h3, h4⟩
theorem lite_less {xs ys : List GA} {n : Nat} (h : factsB xs n = true) (hn : n ≤ 300) : (lessA xs ys).length ≤ 300 ∧ ∀ x ∈ lessA xs ys, wAtom x ≤ 80 := by
 have h1 := facts_lite h (by omega); have h2 := (factsB_said h).2.2; exact ⟨Nat.le_trans (lessA_len _ _) (by omega), fun x hx => h1.2 x (lessA_mem hx)⟩
theorem lite_to {B : GB} {t : GX} {dst : List GA} (hT : LiteX t) : LiteX (toL B t dst).1 ∧ (toL B t dst).1.from_ = t.from_ := by
 unfold toL
 split
 · have hf := hT.from_
   refine ⟨?_, rfl⟩; unfold changeOfL
   split
   · rename_i h
     simp only [Bool.and_eq_true] at h; exact ⟨lite_less h.2 (Nat.le_refl _), lite_less h.1 (Nat.le_refl _), hf⟩
   exact ⟨⟨by simp, by simp⟩, ⟨by simp, by simp⟩, hf⟩
 exact ⟨hT, rfl⟩
theorem lite_add {B : GB} {t : GX} {a : GA} (hT : LiteX t) : LiteX (addL B t a).1 ∧ (addL B t a).1.from_ = t.from_ := by
 unfold addL
 split
 · split
   · exact ⟨hT, rfl⟩
   exact lite_to hT
 exact ⟨hT, rfl⟩
theorem lite_gone {B : GB} {t : GX} {a : GA} (hT : LiteX t) : LiteX (goneL B t a).1 ∧ (goneL B t a).1.from_ = t.from_ := by
 unfold goneL
 split
 · exact lite_to hT
 exact ⟨hT, rfl⟩
theorem at_now (B : GB) : (atL B B.time).1 = B.given := by
 unfold atL; rw [if_pos (show inB B.time (B.time - B.hist.length) B.time = true from decide_eq_true ⟨by omega, Int.le_refl _⟩)]; rw [Int.sub_self]
 rfl
theorem changeOk_two {c : GC} (h : changeOkB c = true) : factsB c.comes 300 = true ∧ factsB c.goes 300 = true := by
 unfold changeOkB at h; simp only [Bool.and_eq_true] at h; exact h.1
theorem BaseS.end_ {B : GB} {t : GX} {k : Nat} (h : BaseS B k) (hT : LiteX t) (hfr : t.from_ = B.time) : BaseS (endL B t).1 (k + 1) := by
 have h0 := h.le (Nat.le_succ k); unfold endL
 split
 · exact h0
 split
 · exact h0
 rename_i htx
 split
 · exact h0
 split
 · exact h0
 split
 · exact h0
 rename_i hf; simp only [Bool.not_eq_false] at hf htx
 split
 · exact h0
 have h3 := h.time; obtain ⟨g1, g2, g3⟩ := fine_given hf; refine ⟨⟨g1, g2, g3⟩, ?_, ⟨by show (0 : Int) ≤ B.time + 1; omega, by show B.time + 1 ≤ ((k + 1 : Nat) : Int); omega⟩, h.rules⟩; unfold txnB at htx; simp only [Bool.and_eq_true] at htx; obtain ⟨⟨⟨⟨_, hok⟩, _⟩, hgo⟩, _⟩ := htx; obtain ⟨k1, k2⟩ := changeOk_two hok; obtain ⟨c1, c2, _⟩ := factsB_said k1; obtain ⟨d1, d2, _⟩ := factsB_said k2; obtain ⟨b1, b2, b3⟩ := h.given; have hcl : t.change.comes.length ≤ 40 := Nat.le_trans (nodup_any (asc_nodup c2) (fun x hx => ((doL_said b1 b2 c1 d1 d2).2.2 x).2 (.inr hx))) g3
 have hgl : t.change.goes.length ≤ 40 := by
  rw [hfr, at_now, List.all_eq_true] at hgo; exact Nat.le_trans (nodup_any (asc_nodup d2) (fun x hx => (hasA_mem b1 b2 (d1 x hx)).1 (hgo x hx))) b3
 have hall : ∀ c ∈ B.hist ++ [t.change], (c.comes.length ≤ 40 ∧ ∀ x ∈ c.comes, wAtom x ≤ 80) ∧ (c.goes.length ≤ 40 ∧ ∀ x ∈ c.goes, wAtom x ≤ 80) := fun c hc => by
  rcases List.mem_append.1 hc with hc | hc
  · exact h.hist.2 c hc
  simp at hc; subst hc; exact ⟨⟨hcl, hT.comes.2⟩, ⟨hgl, hT.goes.2⟩⟩
 have hl := h.hist.1; show (ite _ _ _ : List GC).length ≤ 30 ∧ ∀ c ∈ (ite _ _ _ : List GC), _
 split
 · exact ⟨by rw [List.length_drop, List.length_append]; simp; omega, fun c hc => hall c (List.mem_of_mem_drop hc)⟩
 exact ⟨by rw [List.length_append]; simp; omega, hall⟩
theorem signedL_lite {l : List GA} (c : UInt8) (h : ∀ x ∈ l, wAtom x ≤ 80) : (signedL c l).length ≤ l.length * 84 := by
 induction l with
 | nil => simp [signedL]
 | cons a l ih =>
   have h1 := ih (fun t ht => h t (List.mem_cons_of_mem _ ht)); have h2 := atomL_len a; have h3 := h a (by simp); unfold signedL at h1 ⊢; simp only [List.map_cons, List.flatten_cons, List.length_append, List.length_cons, List.length_nil] at h1 ⊢; omega
theorem BaseS.text {B : GB} {k : Nat} (h : BaseS B k) {c : GC} (hc : c ∈ B.hist) : (changeL c).length ≤ 6720 := by
 obtain ⟨⟨h1, h2⟩, ⟨h3, h4⟩⟩ := h.hist.2 c hc; have h5 := signedL_lite 43 h2; have h6 := signedL_lite 45 h4; unfold changeL; rw [List.length_append]; omega
set_option maxRecDepth 100000 in
set_option maxHeartbeats 2000000 in
theorem specBaseNew_all (v : Value) (l : List GR) (w : World) {S : Nat → Prop} (hv : RulesR S w v l) :
 Calls Tryz.prog 145 #[v] w fun e w' => (∃ u, e = .returned u ∧ BaseR (From w.heap.size) w' u (baseN l)) ∧ Ext w w' := by
 by_cases hp : progCheckN l = 0
 · exact specBaseNew_from v l w hv (check_w hp)
 obtain ⟨A, c, rfl, hc1, hc2⟩ := SliceR.form hv; have HV := Lib.hid hv; have HB0 := Lib.hid (Blk.new w 45 #[.slice none 0 0, .int .i64 0, .slice none 0 0, .slice none 0 0]); have HX0 := Lib.hid ((Ext.refl w).alloc (.cells #[.slice none 0 0, .int .i64 0, .slice none 0 0, .slice none 0 0] 45)); have HB := Lib.hid (show baseN l = ⟨[], 0, [], []⟩ from if_neg hp)
 obtain ⟨m, hm⟩ : ∃ m, m = progCheckN l := ⟨_, rfl⟩
 have hm0 : (((m : Int) == 0) : Bool) = false := by
  rw [beq_eq_false_iff_ne]; omega
 have HP := Lib.hid (fun (W : World) (hW : Ext w W) => show Calls Tryz.prog 187 #[.slice A l.length c] W fun e w' => e = .returned (.int .i64 m) ∧ Ext W w' from by
  rw [hm]; exact specProgCheck_any _ l W (HV.out.ext hW))
 clear hp hm hv
 go_enter Tryz.func145, Tryz.ntmps145
 go_wp2_with (first
  | (go_at_call 187; refine (HP.out _ HX0.out).mono ?_; rintro e w1 ⟨rfl, hx1⟩; have HX1 := Lib.hid (HX0.out.trans' hx1); have HB1 := Lib.hid (HB0.out.ext hx1); have hl1 := HB1.out.lt
     have p0 := (HB1.out).cell 0; have f0 := (HB1.out).frozen 0; have p1 := (HB1.out).cell 1; have f1 := (HB1.out).frozen 1; have p2 := (HB1.out).cell 2; have f2 := (HB1.out).frozen 2; have p3 := (HB1.out).cell 3; have f3 := (HB1.out).frozen 3
     clear hx1))
 refine bodyPost_ret (v := .agg #[.slice none 0 0, .int .i64 0, .slice none 0 0, .slice none 0 0]) (by simp [results, Tryz.results145, go_sem, p0, p1, p2, p3]) rfl ⟨⟨_, rfl, ?_⟩, ?_⟩
 · rw [HB.out]
   exact BaseR.empty
 exact Ext.setNew (a := w) (Ext.setNew (Ext.setNew (Ext.setNew HX1.out (Nat.le_refl _) _) (Nat.le_refl _) _) (Nat.le_refl _) _) (Nat.le_refl _) _
end Go.Proofs.YtmihponoillihaaGreatDoor
