/- Part of the texts of a proof; what they say stands at each theorem. -/
import Derived.Test.YtmihponoillihaaGreatDoorBas15
import Derived.Test.YtmihponoillihaaGreatDoorBas03
set_option linter.unusedSimpArgs false
set_option linter.unusedVariables false
namespace Go.Proofs.YtmihponoillihaaGreatDoor
open Go.RowKit
theorem facts_lite {l : List GA} {n : Nat} (h : factsB l n = true) (hn : n ≤ 40000) : lite l := by
 unfold factsB at h; simp only [Bool.and_eq_true, decide_eq_true_eq, List.all_eq_true] at h; refine ⟨by omega, fun x hx => ?_⟩; have h1 := okFacts_w [x] (by simp [h.1.1 x hx]); unfold wAtoms at h1; simp at h1; omega
set_option maxRecDepth 100000 in
set_option maxHeartbeats 2000000 in
theorem specChangeOf_any (xs ys : List GA) (v u : Value) (w : World) {S T : Nat → Prop} (hv : AtomsR S w v xs) (hu : AtomsR T w u ys) :
 Calls Tryz.prog 285 #[v, u] w fun e w' => (∃ x y, e = .returned (.agg #[x, y]) ∧ AtomsR (From w.heap.size) w' x (changeOfL xs ys).comes ∧ AtomsR (From w.heap.size) w' y (changeOfL xs ys).goes) ∧ Ext w w' := by
 obtain ⟨A, c, rfl, hc1, hc2⟩ := SliceR.form hv; obtain ⟨B, d, rfl, hd1, hd2⟩ := SliceR.form hu
 obtain ⟨W, hW⟩ : ∃ W, W = w.alloc (.cells #[.slice none 0 0, .slice none 0 0] 32) := ⟨_, rfl⟩
 have HB := Lib.hid (show Blk W w.heap.size 32 #[.slice none 0 0, .slice none 0 0] from by rw [hW]; exact Blk.new _ _ _); have HX := Lib.hid (show Ext w W from by rw [hW]; exact (Ext.refl _).alloc _)
 have hz : W.heap.size = w.heap.size + 1 := by rw [hW]; simp
 have HF1 := Lib.hid (fun (W' : World) (hW' : Ext W W') => specFactsOk_any _ xs W' (hv.ext (HX.out.trans' hW'))); have HF2 := Lib.hid (fun (W' : World) (hW' : Ext W W') => specFactsOk_any _ ys W' (hu.ext (HX.out.trans' hW'))); have HV := Lib.hid (hv.ext HX.out); have HU := Lib.hid (hu.ext HX.out); have tok : True := trivial; have HD := Lib.hid (show changeOfL xs ys = if factsB xs 300 && factsB ys 300 then ⟨lessA ys xs, lessA xs ys⟩ else ⟨[], []⟩ from rfl); clear hv hu
 cases h1 : factsB xs 300
 · rw [h1] at HF1 HD
   clear h1
   go_enter Tryz.func285, Tryz.ntmps285
   go_upto_region 1 with fail
   rw [← hW]; clear hW
   go_wp2_with (first
    | (go_at_call 103; have _t := tok; refine (HF1.out _ (Ext.refl _)).mono ?_; clear tok _t; rintro e w1 ⟨rfl, hx1⟩
       have HX1 := Lib.hid hx1; have HB1 := Lib.hid (HB.out.ext hx1); have y0 := HB1.out.cell 0; have y1 := HB1.out.cell 1; have yf0 := HB1.out.frozen 0; have yf1 := HB1.out.frozen 1; have yl := HB1.out.lt
       clear hx1)
    | fail)
   refine bodyPost_ret (v := .agg #[.slice none 0 0, .slice none 0 0]) (by simp [results, Tryz.results285, go_sem, y0, y1, yf0, yf1, yl]) rfl ?_; exact ⟨⟨_, _, rfl, by rw [HD.out]; exact SliceR.nil_ 0 (Nat.zero_le _) _, by rw [HD.out]; exact SliceR.nil_ 0 (Nat.zero_le _) _⟩, Ext.setNew (Ext.setNew (HX.out.trans' HX1.out) (Nat.le_refl _) _) (Nat.le_refl _) _⟩
 cases h2 : factsB ys 300
 · rw [h1] at HF1 HD
   rw [h2] at HF2 HD; clear h1 h2
   go_enter Tryz.func285, Tryz.ntmps285
   go_upto_region 1 with fail
   rw [← hW]; clear hW
   go_wp2_with (first
    | (go_at_call 103; have _t := tok; refine (HF1.out _ (Ext.refl _)).mono ?_; clear tok _t; rintro e w1 ⟨rfl, hx1⟩
       have HX1 := Lib.hid hx1
       clear hx1)
    | (go_at_call 103; refine (HF2.out _ HX1.out).mono ?_; rintro e w2 ⟨rfl, hx2⟩
       have HX2 := Lib.hid (HX1.out.trans' hx2); have HB1 := Lib.hid (HB.out.ext HX2.out); have y0 := HB1.out.cell 0; have y1 := HB1.out.cell 1; have yf0 := HB1.out.frozen 0; have yf1 := HB1.out.frozen 1; have yl := HB1.out.lt
       clear hx2)
    | fail)
   refine bodyPost_ret (v := .agg #[.slice none 0 0, .slice none 0 0]) (by simp [results, Tryz.results285, go_sem, y0, y1, yf0, yf1, yl]) rfl ?_; exact ⟨⟨_, _, rfl, by rw [HD.out]; exact SliceR.nil_ 0 (Nat.zero_le _) _, by rw [HD.out]; exact SliceR.nil_ 0 (Nat.zero_le _) _⟩, Ext.setNew (Ext.setNew (HX.out.trans' HX2.out) (Nat.le_refl _) _) (Nat.le_refl _) _⟩
 have HL1 := Lib.hid (fun (W' : World) (hW' : Ext W W') => l3Less_any _ _ ys xs W' (HU.out.ext hW') (HV.out.ext hW') (facts_lite h2 (by omega)).w); have HL2 := Lib.hid (fun (W' : World) (hW' : Ext W W') => l3Less_any _ _ xs ys W' (HV.out.ext hW') (HU.out.ext hW') (facts_lite h1 (by omega)).w); have tok2 : True := trivial; rw [h1] at HF1 HD; rw [h2] at HF2 HD; clear h1 h2
 go_enter Tryz.func285, Tryz.ntmps285
 go_upto_region 1 with fail
 rw [← hW]; clear hW
 go_wp2_with (first
  | (go_at_call 103; have _t := tok; refine (HF1.out _ (Ext.refl _)).mono ?_; clear tok _t; rintro e w1 ⟨rfl, hx1⟩
     have HX1 := Lib.hid hx1
     clear hx1)
  | (go_at_call 103; refine (HF2.out _ HX1.out).mono ?_; rintro e w2 ⟨rfl, hx2⟩
     have HX2 := Lib.hid (HX1.out.trans' hx2)
     clear hx2)
  | (go_at_call 151; have _t := tok2; refine (HL1.out _ HX2.out).mono ?_; clear tok2 _t; rintro e w3 ⟨⟨v3, rfl, hv3, _⟩, hx3⟩
     obtain ⟨O3, o3, rfl, _, _⟩ := SliceR.form hv3; have HX3 := Lib.hid (HX2.out.trans' hx3); have HV3 := Lib.hid (AtomsR.sub hv3 (fromLe HX2.out.size))
     clear hv3 hx3)
  | (go_at_call 151; refine (HL2.out _ HX3.out).mono ?_; rintro e w4 ⟨⟨v4, rfl, hv4, _⟩, hx4⟩
     obtain ⟨O4, o4, rfl, _, _⟩ := SliceR.form hv4; have HV3b := Lib.hid (HV3.out.ext hx4); have HV4 := Lib.hid (AtomsR.sub hv4 (fromLe HX3.out.size)); have HX4 := Lib.hid (HX3.out.trans' hx4); have HB1 := Lib.hid (HB.out.ext HX4.out); have y0 := HB1.out.cell 0; have y1 := HB1.out.cell 1; have yf0 := HB1.out.frozen 0; have yf1 := HB1.out.frozen 1; have yl := HB1.out.lt
     clear hv4 hx4)
  | fail)
 refine bodyPost_ret (v := .agg #[.slice O3 (lessA ys xs).length o3, .slice O4 (lessA xs ys).length o4]) (by simp [results, Tryz.results285, go_sem, y0, y1, yf0, yf1, yl]) rfl ?_
 have hA : Agree (From W.heap.size) w4 ((w4.setCell ⟨w.heap.size, 0, none⟩ (.slice O3 (lessA ys xs).length o3)).setCell ⟨w.heap.size, 1, none⟩ (.slice O4 (lessA xs ys).length o4)) :=
  ((Agree.refl _ _).setCell (fun hb => by have h : W.heap.size ≤ w.heap.size := hb; omega) _).setCell (fun hb => by have h : W.heap.size ≤ w.heap.size := hb; omega) _
 refine ⟨⟨_, _, rfl, ?_, ?_⟩, Ext.setNew (Ext.setNew (HX.out.trans' HX4.out) (Nat.le_refl _) _) (Nat.le_refl _) _⟩
 · rw [HD.out]; exact (HV3b.out.imp (fun _ h => h) hA (by go_size)).sub (fromLe HX.out.size)
 rw [HD.out]; exact (HV4.out.imp (fun _ h => h) hA (by go_size)).sub (fromLe HX.out.size)
theorem all_stop {l : List GA} {p : GA → Bool} {k : Nat} {x : GA} (h : l[k]? = some x) (hx : p x = false) : l.all p = false := by
 rw [List.all_eq_false]; exact ⟨x, List.mem_of_getElem? h, by simp [hx]⟩
theorem all_upto {l : List GA} {p : GA → Bool} (h : ∀ (i : Nat) (x : GA), i < l.length → l[i]? = some x → p x = true) : l.all p = true := by
 rw [List.all_eq_true]; intro x hx; obtain ⟨i, hi⟩ := List.getElem?_of_mem hx; exact h i x (List.getElem?_eq_some_iff.1 hi).1 hi
set_option maxRecDepth 100000 in
set_option maxHeartbeats 4000000 in
theorem l7Back_any (list : List GA) (g : GC) (v a b : Value) (w : World) {S T U : Nat → Prop} (hv : AtomsR S w v list) (ha : AtomsR T w a g.comes) (hb : AtomsR U w b g.goes) (h1 : lite list) (h2 : lite g.goes) :
 Calls Tryz.prog 48 #[v, .agg #[a, b]] w fun e w' => (∃ v', e = .returned (.tuple #[v', .bool (backL list g).2]) ∧ AtomsR (fun i => w.heap.size ≤ i ∨ S i) w' v' (backL list g).1) ∧ Ext w w' := by
 obtain ⟨A, c, rfl, hc1, hc2⟩ := SliceR.form hv; obtain ⟨B, d, rfl, hd1, hd2⟩ := SliceR.form ha; obtain ⟨D, f, rfl, hf1, hf2⟩ := SliceR.form hb
 obtain ⟨W, hW⟩ : ∃ W, W = w.alloc (.cells #[.slice B g.comes.length d, .slice D g.goes.length f] 32) := ⟨_, rfl⟩
 have HB := Lib.hid (show Blk W w.heap.size 32 #[.slice B g.comes.length d, .slice D g.goes.length f] from by rw [hW]; exact Blk.new _ _ _); have HX := Lib.hid (show Ext w W from by rw [hW]; exact (Ext.refl _).alloc _); have HV := Lib.hid (hv.ext HX.out); have HCO := Lib.hid (ha.ext HX.out); have HGO := Lib.hid (hb.ext HX.out); have HDO := Lib.hid (fun (W' : World) (hW' : Ext W W') => l3Do_any list ⟨g.goes, g.comes⟩ _ _ _ W' (HV.out.ext hW') (HGO.out.ext hW') (HCO.out.ext hW') h1 h2); have HBK := Lib.hid (show backL list g = if g.comes.all (hasA list) && g.goes.all (fun a => !hasA list a) then (doL list ⟨g.goes, g.comes⟩, true) else (list, false) from rfl); clear hv ha hb
 go_enter Tryz.func48, Tryz.ntmps48
 go_wp2_with fail
 rw [← hW]; clear hW
 go_loopw [6] (fun i wr => ∃ k : Nat, k ≤ g.comes.length ∧ i = .int .i64 k ∧ Hid (∀ (i : Nat) (x : GA), i < k → g.comes[i]? = some x → hasA list x = true) ∧ Ext W wr) (fun i _ => g.comes.length - (intOf i).toNat)
 case atStart => exact ⟨0, Nat.zero_le _, rfl, Lib.hid (fun i x h => absurd h (Nat.not_lt_zero _)), Ext.refl _⟩
 case round =>
  obtain ⟨k, hk, rfl, hp, hx⟩ := hrel
  have hk0 : (0 : Int) ≤ (k : Int) := by omega
  have hb1 := HB.out.ext hx; have p0 := hb1.cell 0; have p1 := hb1.cell 1; have pl := hb1.lt; clear hb1
  by_cases hlt : k < g.comes.length
  · have hlt' : (k : Int) < (g.comes.length : Int) := by omega
    obtain ⟨bb, off, x, v2, rfl, hbl, hxk, hxs, hxt, hc0, hc1'⟩ := AtomsR.at_ (HCO.out.ext hx) hlt; obtain ⟨X, cx, rfl, _, _⟩ := SliceR.form hxt; have HHA := Lib.hid (l3Has_any _ _ list x wr (HV.out.ext hx) hxt); have HXK := Lib.hid hxk
    obtain ⟨t, ht⟩ : ∃ t, t = hasA list x := ⟨_, rfl⟩
    rw [← ht] at HHA; have HT := Lib.hid ht; clear hxk hxt ht
    cases t
    · have HF := Lib.hid (show backL list g = (list, false) from by rw [HBK.out, all_stop HXK.out HT.out.symm]; rfl)
      go_wp2_with (first
       | (go_at_call 104; refine HHA.out.mono ?_; rintro e w3 ⟨rfl, hx3⟩
          have HX3 := Lib.hid (hx.trans' hx3)
          clear hx3)
       | fail)
      go_ret2
      rw [HF.out]; exact ⟨⟨_, rfl, AtomsR.sub (HV.out.ext HX3.out) (fun i h => .inr h)⟩, HX.out.trans' HX3.out⟩
    go_wp2_with (first
      | (go_at_call 104; refine HHA.out.mono ?_; rintro e w3 ⟨rfl, hx3⟩
         have HX3 := Lib.hid (hx.trans' hx3)
         clear hx3)
      | fail)
    go_roundw
    case rel =>
     exact ⟨k + 1, by omega, by go_num, Lib.hid (fun i y hi hy => by
      rcases Nat.lt_or_ge i k with h | h
      · exact hp.out i y h hy
      have e : i = k := by omega
      subst e; have h1 := HXK.out
      rw [hy] at h1; injection h1 with h1
      subst h1
      exact HT.out.symm), HX3.out⟩
    case measure => simp [intOf]; omega
  have hlt' : ¬ (k : Int) < (g.comes.length : Int) := by omega
  have HAC := Lib.hid (show g.comes.all (hasA list) = true from all_upto (fun i x hi hx => hp.out i x (by omega) hx)); clear hp
  go_wp2_with fail
  rename World => w5
  go_loopw [7] (fun i wr => ∃ q : Nat, q ≤ g.goes.length ∧ i = .int .i64 q ∧ Hid (∀ (i : Nat) (x : GA), i < q → g.goes[i]? = some x → hasA list x = false) ∧ Ext w5 wr) (fun i _ => g.goes.length - (intOf i).toNat)
  case atStart => exact ⟨0, Nat.zero_le _, rfl, Lib.hid (fun i x h => absurd h (Nat.not_lt_zero _)), Ext.refl _⟩
  case round =>
   obtain ⟨q, hq, rfl, hp, hxq⟩ := hrel
   have hq0 : (0 : Int) ≤ (q : Int) := by omega
   have hxx := hx.trans' hxq; have hb1 := HB.out.ext hxx; have p0 := hb1.cell 0; have p1 := hb1.cell 1; have pl := hb1.lt; have HXX := Lib.hid hxx; clear hb1 hxx
   by_cases hlq : q < g.goes.length
   · have hlq' : (q : Int) < (g.goes.length : Int) := by omega
     obtain ⟨bb, off, x, v2, rfl, hbl, hxk, hxs, hxt, hc0, hc1'⟩ := AtomsR.at_ (HGO.out.ext HXX.out) hlq; obtain ⟨X, cx, rfl, _, _⟩ := SliceR.form hxt; have HHA := Lib.hid (l3Has_any _ _ list x wr (HV.out.ext HXX.out) hxt); have HXK := Lib.hid hxk
     obtain ⟨t, ht⟩ : ∃ t, t = hasA list x := ⟨_, rfl⟩
     rw [← ht] at HHA; have HT := Lib.hid ht; clear hxk hxt ht
     cases t
     · go_wp2_with (first
         | (go_at_call 104; refine HHA.out.mono ?_; rintro e w3 ⟨rfl, hx3⟩
            have HX3 := Lib.hid (hxq.trans' hx3)
            clear hx3)
         | fail)
       go_roundw
       case rel =>
        exact ⟨q + 1, by omega, by go_num, Lib.hid (fun i y hi hy => by
         rcases Nat.lt_or_ge i q with h | h
         · exact hp.out i y h hy
         have e : i = q := by omega
         subst e; have h1 := HXK.out
         rw [hy] at h1; injection h1 with h1
         subst h1
         exact HT.out.symm), HX3.out⟩
       case measure => simp [intOf]; omega
     have HF := Lib.hid (show backL list g = (list, false) from by rw [HBK.out, HAC.out, all_stop (p := fun a => !hasA list a) HXK.out (by rw [← HT.out]; rfl)]; rfl)
     go_wp2_with (first
      | (go_at_call 104; refine HHA.out.mono ?_; rintro e w3 ⟨rfl, hx3⟩
         have HX3 := Lib.hid (HXX.out.trans' hx3)
         clear hx3)
      | fail)
     go_ret2
     rw [HF.out]; exact ⟨⟨_, rfl, AtomsR.sub (HV.out.ext HX3.out) (fun i h => .inr h)⟩, HX.out.trans' HX3.out⟩
   have hlq' : ¬ (q : Int) < (g.goes.length : Int) := by omega
   have HF := Lib.hid (show backL list g = (doL list ⟨g.goes, g.comes⟩, true) from by
    rw [HBK.out, HAC.out, all_upto (p := fun a => !hasA list a) (fun i x hi hx => by simp [hp.out i x (by omega) hx])]; rfl)
   clear hp
   go_wp2_with (first
    | (go_at_call 105; refine (HDO.out _ HXX.out).mono ?_; rintro e w6 ⟨⟨v6, rfl, hv6⟩, hx6⟩
       obtain ⟨Z, cz, rfl, _, _⟩ := SliceR.form hv6; have HV6 := Lib.hid hv6; have HX6 := Lib.hid (HXX.out.trans' hx6)
       clear hv6 hx6)
    | fail)
   go_ret2
   rw [HF.out]; exact ⟨⟨_, rfl, AtomsR.sub HV6.out (fun i h => .inl (Nat.le_trans (HX.out.trans' HXX.out).size h))⟩, HX.out.trans' HX6.out⟩
structure GB where
 rules : List GR
 time : Int
 given : List GA
 hist : List GC
def BaseR (S : Nat → Prop) (w : World) (v : Value) (B : GB) : Prop := ∃ a b c : Value, v = .agg #[a, .int .i64 B.time, b, c] ∧ RulesR S w a B.rules ∧ AtomsR S w b B.given ∧ ChangesR S w c B.hist
theorem BaseR.ext {S : Nat → Prop} {w w' : World} {v : Value} {B : GB} (h : BaseR S w v B) (he : Ext w w') : BaseR S w' v B := by
 obtain ⟨a, b, c, h1, h2, h3, h4⟩ := h; exact ⟨a, b, c, h1, h2.ext he, h3.ext he, h4.ext he⟩
theorem BaseR.form {S : Nat → Prop} {w : World} {v : Value} {B : GB} (h : BaseR S w v B) : ∃ A1 c1 A2 c2 A3 c3, v = .agg #[.slice A1 B.rules.length c1, .int .i64 B.time, .slice A2 B.given.length c2, .slice A3 B.hist.length c3] := by
 obtain ⟨a, b, c, rfl, h2, h3, h4⟩ := h; obtain ⟨A1, c1, rfl, _⟩ := SliceR.form h2; obtain ⟨A2, c2, rfl, _⟩ := SliceR.form h3; obtain ⟨A3, c3, rfl, _⟩ := SliceR.form h4; exact ⟨_, _, _, _, _, _, rfl⟩
theorem BaseR.imp {S S' : Nat → Prop} {w w' : World} {v : Value} {B : GB} (h : BaseR S w v B) (hS : ∀ b, S b → S' b) (he : Agree S w w') (hsz : w.heap.size ≤ w'.heap.size) : BaseR S' w' v B := by
 obtain ⟨a, b, c, h1, h2, h3, h4⟩ := h; exact ⟨a, b, c, h1, h2.imp hS he hsz, h3.imp hS he hsz, ListK.imp (k := kChange) h4 (fun b h _ => hS b h) he hsz⟩
structure GX where
 from_ : Int
 change : GC
structure LiteB (B : GB) : Prop where
 given : B.given.length ≤ 5000 ∧ ∀ x ∈ B.given, wAtom x ≤ 80
 hist : B.hist.length ≤ 100 ∧ ∀ c ∈ B.hist, (c.comes.length ≤ 300 ∧ ∀ x ∈ c.comes, wAtom x ≤ 80) ∧ (c.goes.length ≤ 300 ∧ ∀ x ∈ c.goes, wAtom x ≤ 80)
 time : -1000000 ≤ B.time ∧ B.time ≤ 1000000
 rules : B.rules.length ≤ 8 ∧ ∀ r ∈ B.rules, r.body.length ≤ 4 ∧ r.head.args.length ≤ 1000 ∧ ∀ p ∈ r.body, p.atom.args.length ≤ 1000
def agoL (B : GB) : Nat → List GA
 | 0 => B.given
 | i + 1 => (backL (agoL B i) (B.hist.getD (B.hist.length - 1 - i) ⟨[], []⟩)).1
def atL (B : GB) (time : Int) : List GA × Bool := if inB time (B.time - B.hist.length) B.time then (agoL B (B.time - time).toNat, true) else ([], false)
def seesL (B : GB) (t : GX) : List GA := doL (atL B t.from_).1 t.change
theorem backL_len (list : List GA) (c : GC) : (backL list c).1.length ≤ list.length + c.goes.length := by
 unfold backL
 split
 · exact doL_len list ⟨c.goes, c.comes⟩
 show list.length ≤ _; omega
theorem backL_mem {list : List GA} {c : GC} {x : GA} (h : x ∈ (backL list c).1) : x ∈ list ∨ x ∈ c.goes := by
 unfold backL at h
 split at h
 · exact doL_mem h
 exact .inl h
theorem hist_at {B : GB} (h : LiteB B) (i : Nat) : ((B.hist.getD i ⟨[], []⟩).comes.length ≤ 300 ∧ ∀ x ∈ (B.hist.getD i ⟨[], []⟩).comes, wAtom x ≤ 80) ∧ ((B.hist.getD i ⟨[], []⟩).goes.length ≤ 300 ∧ ∀ x ∈ (B.hist.getD i ⟨[], []⟩).goes, wAtom x ≤ 80) := by
 rw [List.getD_eq_getElem?_getD]
 cases hi : B.hist[i]? with
 | none => simp
 | some c => exact h.hist.2 c (List.mem_of_getElem? hi)
theorem ago_lite {B : GB} (h : LiteB B) : ∀ i, (agoL B i).length ≤ 5000 + 300 * i ∧ ∀ x ∈ agoL B i, wAtom x ≤ 80
 | 0 => ⟨h.given.1, h.given.2⟩
 | i + 1 => by
   obtain ⟨h1, h2⟩ := ago_lite h i; obtain ⟨_, h3, h4⟩ := hist_at h (B.hist.length - 1 - i); refine ⟨Nat.le_trans (backL_len _ _) (by omega), fun x hx => ?_⟩
   rcases backL_mem hx with hx | hx
   · exact h2 x hx
   exact h4 x hx
set_option maxRecDepth 100000 in
set_option maxHeartbeats 4000000 in
theorem l7At_any (B : GB) (time : Int) (v : Value) (w : World) {S : Nat → Prop} (hv : BaseR S w v B) (hB : LiteB B) (ht : -10000000 ≤ time ∧ time ≤ 10000000) :
 Calls Tryz.prog 284 #[v, .int .i64 time] w fun e w' => (∃ v', e = .returned (.tuple #[v', .bool (atL B time).2]) ∧ AtomsR (From w.heap.size) w' v' (atL B time).1) ∧ Ext w w' := by
 obtain ⟨a, b, c, rfl, hr, hg, hh⟩ := hv; obtain ⟨A, p, rfl, _, _⟩ := SliceR.form hr; obtain ⟨D, q, rfl, _, _⟩ := SliceR.form hg; obtain ⟨H, f, rfl, hf1, hf2⟩ := SliceR.form hh; have HL := Lib.hid hB; have hB2 := hB.hist; have hB3 := hB.time
 obtain ⟨W, hW⟩ : ∃ W, W = w.alloc (.cells #[.slice A B.rules.length p, .int .i64 B.time, .slice D B.given.length q, .slice H B.hist.length f] 45) := ⟨_, rfl⟩
 have HB := Lib.hid (show Blk W w.heap.size 45 #[.slice A B.rules.length p, .int .i64 B.time, .slice D B.given.length q, .slice H B.hist.length f] from by rw [hW]; exact Blk.new _ _ _); have HX := Lib.hid (show Ext w W from by rw [hW]; exact (Ext.refl _).alloc _); have HG := Lib.hid (hg.ext HX.out); have HHI := Lib.hid (show ChangesR S W (.slice H B.hist.length f) B.hist from ListK.ext (k := kChange) hh HX.out); have HIN := Lib.hid (l1In_any time (B.time - (B.hist.length : Int)) B.time W)
 obtain ⟨ib, hib⟩ : ∃ ib, ib = inB time (B.time - (B.hist.length : Int)) B.time := ⟨_, rfl⟩
 rw [← hib] at HIN; have HAT := Lib.hid (show atL B time = if ib then (agoL B (B.time - time).toNat, true) else ([], false) from by rw [hib]; rfl)
 have HTI := Lib.hid (show ib = true → B.time - (B.hist.length : Int) ≤ time ∧ time ≤ B.time from fun h => by
  rw [h] at hib; have h2 := hib.symm; unfold inB at h2
  simpa using h2)
 have hwt : IntKind.i64.wrap (B.time - (B.hist.length : Int)) = B.time - (B.hist.length : Int) := by rw [IntKind.wrap_i64]; omega
 have p0 := HB.out.cell 0; have p1 := HB.out.cell 1; have p2 := HB.out.cell 2; have p3 := HB.out.cell 3; have pl := HB.out.lt; clear hr hg hh hib hB
 cases ib
 · go_enter Tryz.func284, Tryz.ntmps284
   go_upto_region 1 with fail
   rw [← hW]; clear hW
   go_wp2_with (first
    | (go_at_call 127; refine HIN.out.mono ?_; rintro e w1 ⟨rfl, rfl⟩)
    | fail)
   go_ret2
   rw [HAT.out]; exact ⟨⟨_, rfl, SliceR.nil_ 0 (Nat.zero_le _) _⟩, HX.out.alloc _⟩
 obtain ⟨ht1, ht2⟩ := HTI.out rfl
 obtain ⟨N, hN⟩ : ∃ N, N = (B.time - time).toNat := ⟨_, rfl⟩
 have hNi : B.time - time = (N : Int) := by omega
 have hNl : N ≤ B.hist.length := by omega
 have hwn : IntKind.i64.wrap (B.time - time) = (N : Int) := by rw [IntKind.wrap_i64]; omega
 rw [← hN] at HAT; have HCP := Lib.hid (l3Copy_any _ _ W HG.out (by have := HL.out.given.1; omega) (fun x hx => by have := wAtom_args x; have := HL.out.given.2 x hx; omega)); clear hN hNi
 go_enter Tryz.func284, Tryz.ntmps284
 go_upto_region 1 with fail
 rw [← hW]; clear hW
 go_wp2_with (first
  | (go_at_call 127; refine HIN.out.mono ?_; rintro e w1 ⟨rfl, rfl⟩)
  | (go_at_call 168; refine HCP.out.mono ?_; rintro e w2 ⟨⟨v2, rfl, hv2⟩, hx2⟩
     obtain ⟨O2, o2, rfl, _, _⟩ := SliceR.form hv2; have HV2 := Lib.hid (AtomsR.sub hv2 (fromLe HX.out.size)); have HX2 := Lib.hid hx2; have HB2 := Lib.hid (HB.out.ext hx2); have HH2 := Lib.hid (show ChangesR S w2 (.slice H B.hist.length f) B.hist from ListK.ext (k := kChange) HHI.out hx2)
     clear hv2 hx2 p0 p1 p2 p3 pl)
  | fail)
 go_loopw [6, 7] (fun o i wr => ∃ k : Nat, k ≤ N ∧ i = .int .i64 k ∧ Hid (AtomsR (From w.heap.size) wr o (agoL B k)) ∧ Ext w2 wr) (fun _ i _ => N - (intOf i).toNat)
 case atStart => exact ⟨0, Nat.zero_le _, rfl, HV2, Ext.refl _⟩
 case round =>
  obtain ⟨k, hk, rfl, ho, hx⟩ := hrel
  have hk0 : (0 : Int) ≤ (k : Int) := by omega
  have hb1 := HB2.out.ext hx; have p0 := hb1.cell 0; have p1 := hb1.cell 1; have p2 := hb1.cell 2; have p3 := hb1.cell 3; have pl := hb1.lt; clear hb1
  by_cases hlt : k < N
  · have hlt' : (k : Int) < (N : Int) := by omega
    obtain ⟨m, hm⟩ : ∃ m, m = B.hist.length - 1 - k := ⟨_, rfl⟩
    have hml : m < B.hist.length := by omega
    have hm0 : (0 : Int) ≤ (m : Int) := by omega
    have hm1 : (m : Int) < (B.hist.length : Int) := by omega
    have hw1 : IntKind.i64.wrap ((B.hist.length : Int) - 1) = (B.hist.length : Int) - 1 := by rw [IntKind.wrap_i64]; omega
    have hw2 : IntKind.i64.wrap ((B.hist.length : Int) - 1 - (k : Int)) = (m : Int) := by rw [IntKind.wrap_i64]; omega
    obtain ⟨bb, off, g, va, vb, rfl, hbl, hgk, hva, hvb, hc0, hc1⟩ := ChangesR.at_ (show ChangesR S wr (.slice H B.hist.length f) B.hist from ListK.ext (k := kChange) HH2.out hx) hml; obtain ⟨X, cx, rfl, _, _⟩ := SliceR.form hva; obtain ⟨Y, cy, rfl, _, _⟩ := SliceR.form hvb
    have HAG := Lib.hid (show agoL B (k + 1) = (backL (agoL B k) g).1 from by
     show (backL (agoL B k) (B.hist.getD (B.hist.length - 1 - k) ⟨[], []⟩)).1 = _
     rw [← hm, List.getD_eq_getElem?_getD, hgk]; rfl)
    have hgm := HL.out.hist.2 g (List.mem_of_getElem? hgk); have hal := ago_lite HL.out k; have HBA := Lib.hid (l7Back_any (agoL B k) g _ _ _ wr ho.out hva hvb ⟨by omega, hal.2⟩ ⟨by omega, hgm.2.2⟩); obtain ⟨O, co, rfl, _, _⟩ := SliceR.form ho.out; clear hgk hva hvb hgm hal hm
    go_wp2_with (first
     | (go_at_call 48; refine HBA.out.mono ?_; rintro e w3 ⟨⟨v3, rfl, hv3⟩, hx3⟩
        have HV3 := Lib.hid hv3; have HX3 := Lib.hid (hx.trans' hx3); have hwr := (HX.out.trans' (HX2.out.trans' hx)).size
        clear hv3 hx3)
     | fail)
    go_roundw
    case rel => exact ⟨k + 1, by omega, by go_num, (by rw [HAG.out]; exact Lib.hid (AtomsR.sub HV3.out (fun i h => by rcases h with h | h; exact Nat.le_trans hwr h; exact h))), HX3.out⟩
    case measure => simp [intOf]; omega
  have hlt' : ¬ (k : Int) < (N : Int) := by omega
  obtain rfl : k = N := by omega
  go_wp2
  go_ret2
  rw [HAT.out]; exact ⟨⟨_, rfl, ho.out⟩, HX.out.trans' (HX2.out.trans' hx)⟩
def TxnR (S : Nat → Prop) (w : World) (v : Value) (t : GX) : Prop := ∃ a b, v = .agg #[.int .i64 t.from_, a, b] ∧ AtomsR S w a t.change.comes ∧ AtomsR S w b t.change.goes
theorem TxnR.ext {S : Nat → Prop} {w w' : World} {v : Value} {t : GX} (h : TxnR S w v t) (he : Ext w w') : TxnR S w' v t := by
 obtain ⟨a, b, h1, h2, h3⟩ := h; exact ⟨a, b, h1, h2.ext he, h3.ext he⟩
structure LiteX (t : GX) : Prop where
 comes : t.change.comes.length ≤ 300 ∧ ∀ x ∈ t.change.comes, wAtom x ≤ 80
 goes : t.change.goes.length ≤ 300 ∧ ∀ x ∈ t.change.goes, wAtom x ≤ 80
 from_ : -1000000 ≤ t.from_ ∧ t.from_ ≤ 1000000
theorem at_lite {B : GB} (h : LiteB B) (time : Int) : (atL B time).1.length ≤ 35000 ∧ ∀ x ∈ (atL B time).1, wAtom x ≤ 80 := by
 unfold atL
 split
 · rename_i hi
   have h1 := ago_lite h (B.time - time).toNat; refine ⟨?_, h1.2⟩; have h2 := h.hist.1
   have h3 : (B.time - time).toNat ≤ B.hist.length := by
    unfold inB at hi; simp only [Bool.and_eq_true, decide_eq_true_eq] at hi; omega
   have h4 := h1.1; show (agoL B (B.time - time).toNat).length ≤ 35000; omega
 exact ⟨by simp, by simp⟩
set_option maxRecDepth 100000 in
set_option maxHeartbeats 2000000 in
theorem l7Sees_any (B : GB) (t : GX) (v u : Value) (w : World) {S T : Nat → Prop} (hv : BaseR S w v B) (hu : TxnR T w u t) (hB : LiteB B) (hT : LiteX t) :
 Calls Tryz.prog 202 #[v, u] w fun e w' => (∃ v', e = .returned v' ∧ AtomsR (From w.heap.size) w' v' (seesL B t)) ∧ Ext w w' := by
 obtain ⟨A1, c1, A2, c2, A3, c3, rfl⟩ := hv.form; obtain ⟨a, b, rfl, ha, hb⟩ := hu; obtain ⟨X, cx, rfl, _, _⟩ := SliceR.form ha; obtain ⟨Y, cy, rfl, _, _⟩ := SliceR.form hb
 obtain ⟨W, hW⟩ : ∃ W, W = (w.alloc (.cells #[.slice A1 B.rules.length c1, .int .i64 B.time, .slice A2 B.given.length c2, .slice A3 B.hist.length c3] 45)).alloc (.cells #[.int .i64 t.from_, .slice X t.change.comes.length cx, .slice Y t.change.goes.length cy] 205) := ⟨_, rfl⟩
 have HB1 := Lib.hid (show Blk W w.heap.size 45 #[.slice A1 B.rules.length c1, .int .i64 B.time, .slice A2 B.given.length c2, .slice A3 B.hist.length c3] from by rw [hW]; exact (Blk.new _ _ _).alloc _); have HB2 := Lib.hid (show Blk W (w.heap.size + 1) 205 #[.int .i64 t.from_, .slice X t.change.comes.length cx, .slice Y t.change.goes.length cy] from by rw [hW]; exact Blk.at_new (by simp)); have HX := Lib.hid (show Ext w W from by rw [hW]; exact ((Ext.refl _).alloc _).alloc _); have HAT := Lib.hid (l7At_any B t.from_ _ W (hv.ext HX.out) hB (by have := hT.from_; omega)); have hal := at_lite hB t.from_; have HSE := Lib.hid (show seesL B t = doL (atL B t.from_).1 t.change from rfl)
 obtain ⟨al, hale⟩ : ∃ al, al = (atL B t.from_).1 := ⟨_, rfl⟩
 obtain ⟨ab, habe⟩ : ∃ ab, ab = (atL B t.from_).2 := ⟨_, rfl⟩
 rw [← hale, ← habe] at HAT; rw [← hale] at HSE hal; have HC1 := Lib.hid (ha.ext HX.out); have HC2 := Lib.hid (hb.ext HX.out); have HDO := Lib.hid (fun (v' : Value) (W' : World) (hW' : Ext W W') (Z : Nat → Prop) (hv' : AtomsR Z W' v' al) => l3Do_any al t.change v' _ _ W' hv' (HC1.out.ext hW') (HC2.out.ext hW') ⟨by omega, hal.2⟩ ⟨by have := hT.comes.1; omega, hT.comes.2⟩); have p0 := HB1.out.cell 0; have p1 := HB1.out.cell 1; have p2 := HB1.out.cell 2; have p3 := HB1.out.cell 3; have pl := HB1.out.lt; have q0 := HB2.out.cell 0; have q1 := HB2.out.cell 1; have q2 := HB2.out.cell 2; have ql := HB2.out.lt; clear hv ha hb hale habe hal
 go_enter Tryz.func202, Tryz.ntmps202
 go_upto_region 1 with fail
 rw [← hW]; clear hW
 go_wp2_with (first
  | (go_at_call 284; refine HAT.out.mono ?_; rintro e w1 ⟨⟨v1, rfl, hv1⟩, hx1⟩
     obtain ⟨O1, o1, rfl, _, _⟩ := SliceR.form hv1; have HV1 := Lib.hid hv1; have HX1 := Lib.hid hx1; have hb1 := HB2.out.ext hx1; have r0 := hb1.cell 0; have r1 := hb1.cell 1; have r2 := hb1.cell 2; have rl := hb1.lt
     clear hv1 hx1 hb1 p0 p1 p2 p3 pl q0 q1 q2 ql)
  | (go_at_call 105; refine (HDO.out _ _ HX1.out _ HV1.out).mono ?_; rintro e w2 ⟨⟨v2, rfl, hv2⟩, hx2⟩
     obtain ⟨O2, o2, rfl, _, _⟩ := SliceR.form hv2; have HV2 := Lib.hid hv2; have HX2 := Lib.hid hx2
     clear hv2 hx2)
  | fail)
 go_ret; rw [HSE.out]; exact ⟨⟨_, rfl, AtomsR.sub HV2.out (fromLe (HX.out.trans' HX1.out).size)⟩, (HX.out.trans' HX1.out).trans' HX2.out⟩
noncomputable def toL (B : GB) (t : GX) (dst : List GA) : GX × Nat := if fineB B.rules dst then (⟨t.from_, changeOfL (atL B t.from_).1 dst⟩, 0) else (t, 5)
theorem txn_out {w W w2 : World} {g : Nat} {x y : Value} {t : GX} {f : Int} (hf : f = t.from_) (hx : Ext w w2) (hg : w.heap.size ≤ g) (hgW : g < W.heap.size) (ha : AtomsR (From W.heap.size) w2 x t.change.comes) (hb : AtomsR (From W.heap.size) w2 y t.change.goes) (hwW : w.heap.size ≤ W.heap.size) :
 TxnR (From w.heap.size) (((w2.setCell ⟨g, 0, none⟩ (.int .i64 f)).setCell ⟨g, 1, none⟩ x).setCell ⟨g, 2, none⟩ y) (.agg #[.int .i64 f, x, y]) t ∧ Ext w (((w2.setCell ⟨g, 0, none⟩ (.int .i64 f)).setCell ⟨g, 1, none⟩ x).setCell ⟨g, 2, none⟩ y) := by
 subst hf
 have hA : Agree (From W.heap.size) w2 (((w2.setCell ⟨g, 0, none⟩ (.int .i64 t.from_)).setCell ⟨g, 1, none⟩ x).setCell ⟨g, 2, none⟩ y) :=
  (((Agree.refl _ _).setCell (fun hb => by have h : W.heap.size ≤ g := hb; omega) _).setCell (fun hb => by have h : W.heap.size ≤ g := hb; omega) _).setCell (fun hb => by have h : W.heap.size ≤ g := hb; omega) _
 exact ⟨⟨_, _, rfl, (ha.imp (fun _ h => h) hA (by go_size)).sub (fromLe hwW), (hb.imp (fun _ h => h) hA (by go_size)).sub (fromLe hwW)⟩, Ext.setNew (Ext.setNew (Ext.setNew hx hg _) hg _) hg _⟩
set_option maxRecDepth 100000 in
set_option maxHeartbeats 4000000 in
theorem l7To_any (B : GB) (t : GX) (dst : List GA) (v u x : Value) (w : World) {S T U : Nat → Prop} (hv : BaseR S w v B) (hu : TxnR T w u t) (hx : AtomsR U w x dst) (hB : LiteB B) (hT : LiteX t) :
 Calls Tryz.prog 205 #[v, u, x] w fun e w' => (∃ y, e = .returned (.tuple #[y, .int .i64 (((toL B t dst).2 : Nat) : Int)]) ∧ TxnR (From w.heap.size) w' y (toL B t dst).1) ∧ Ext w w' := by
 obtain ⟨A1, c1, A2, c2, A3, c3, rfl⟩ := hv.form; obtain ⟨a, b, rfl, ha, hb⟩ := hu; obtain ⟨X, cx, rfl, _, _⟩ := SliceR.form ha; obtain ⟨Y, cy, rfl, _, _⟩ := SliceR.form hb; obtain ⟨Z, cz, rfl, _, _⟩ := SliceR.form hx
 obtain ⟨W, hW⟩ : ∃ W, W = ((w.alloc (.cells #[.slice A1 B.rules.length c1, .int .i64 B.time, .slice A2 B.given.length c2, .slice A3 B.hist.length c3] 45)).alloc (.cells #[.int .i64 t.from_, .slice X t.change.comes.length cx, .slice Y t.change.goes.length cy] 205)).alloc (.cells #[.int .i64 0, .slice none 0 0, .slice none 0 0] 205) := ⟨_, rfl⟩
 have HB1 := Lib.hid (show Blk W w.heap.size 45 #[.slice A1 B.rules.length c1, .int .i64 B.time, .slice A2 B.given.length c2, .slice A3 B.hist.length c3] from by rw [hW]; exact ((Blk.new _ _ _).alloc _).alloc _); have HB2 := Lib.hid (show Blk W (w.heap.size + 1) 205 #[.int .i64 t.from_, .slice X t.change.comes.length cx, .slice Y t.change.goes.length cy] from by rw [hW]; exact (Blk.at_new (by simp)).alloc _); have HB3 := Lib.hid (show Blk W (w.heap.size + 1 + 1) 205 #[.int .i64 0, .slice none 0 0, .slice none 0 0] from by rw [hW]; exact Blk.at_new (by simp)); have HX := Lib.hid (show Ext w W from by rw [hW]; exact (((Ext.refl _).alloc _).alloc _).alloc _)
 have hz : W.heap.size = w.heap.size + 1 + 1 + 1 := by rw [hW]; simp
 have HBR := Lib.hid (hv.ext HX.out)
 have hrl : ∃ Z2 : Nat → Prop, RulesR Z2 w (.slice A1 B.rules.length c1) B.rules := by
  obtain ⟨p, q, r, h1, h2, _, _⟩ := hv
  injection h1 with h1
  simp only [Array.mk.injEq, List.cons.injEq] at h1; exact ⟨_, by rw [h1.1]; exact h2⟩
 obtain ⟨Z2, hrl⟩ := hrl; have HFI := Lib.hid (l7Fine_any B.rules dst _ _ W (hrl.ext HX.out) (hx.ext HX.out)); have HC1 := Lib.hid (ha.ext HX.out); have HC2 := Lib.hid (hb.ext HX.out); have HTO := Lib.hid (hx.ext HX.out); have HTL := Lib.hid (show toL B t dst = if fineB B.rules dst then (⟨t.from_, changeOfL (atL B t.from_).1 dst⟩, 0) else (t, 5) from rfl)
 obtain ⟨fb, hfb⟩ : ∃ fb, fb = fineB B.rules dst := ⟨_, rfl⟩
 rw [← hfb] at HFI HTL; have p0 := HB1.out.cell 0; have p1 := HB1.out.cell 1; have p2 := HB1.out.cell 2; have p3 := HB1.out.cell 3; have pl := HB1.out.lt; have q0 := HB2.out.cell 0; have q1 := HB2.out.cell 1; have q2 := HB2.out.cell 2; have ql := HB2.out.lt; clear hv ha hb hx hfb hrl
 cases fb
 · have HLC := Lib.hid (fun (W' : World) (hW' : Ext W W') => l7Change_any t.change _ _ W' (HC1.out.ext hW') (HC2.out.ext hW') ⟨by have := hT.comes.1; omega, hT.comes.2⟩ ⟨by have := hT.goes.1; omega, hT.goes.2⟩)
   go_enter Tryz.func205, Tryz.ntmps205
   go_upto_region 1 with fail
   rw [← hW]; clear hW
   go_upto_region 2 with (first
    | (go_at_call 46; refine HFI.out.mono ?_; rintro e w1 ⟨rfl, hx1⟩
       have HX1 := Lib.hid hx1; have HSW := Lib.hid (fun (W' : World) (hW' : Ext w1 W') => And.intro ((HB2.out.ext (hx1.trans' hW')).cell 0) (And.intro ((HB2.out.ext (hx1.trans' hW')).cell 1) ((HB2.out.ext (hx1.trans' hW')).cell 2)))
       have HSY := Lib.hid (fun (W' : World) (hW' : Ext w1 W') (x y z : Value) => (show (((W'.setCell ⟨w.heap.size + 1 + 1, 0, none⟩ x).setCell ⟨w.heap.size + 1 + 1, 1, none⟩ y).setCell ⟨w.heap.size + 1 + 1, 2, none⟩ z).cell? ⟨w.heap.size + 1, 0, none⟩ = some (.int .i64 t.from_) ∧ (((W'.setCell ⟨w.heap.size + 1 + 1, 0, none⟩ x).setCell ⟨w.heap.size + 1 + 1, 1, none⟩ y).setCell ⟨w.heap.size + 1 + 1, 2, none⟩ z).cell? ⟨w.heap.size + 1, 1, none⟩ = some (.slice X t.change.comes.length cx) ∧ (((W'.setCell ⟨w.heap.size + 1 + 1, 0, none⟩ x).setCell ⟨w.heap.size + 1 + 1, 1, none⟩ y).setCell ⟨w.heap.size + 1 + 1, 2, none⟩ z).cell? ⟨w.heap.size + 1, 2, none⟩ = some (.slice Y t.change.goes.length cy) from by
        have h0 := (((HB2.out.ext (hx1.trans' hW')).far (p := ⟨w.heap.size + 1 + 1, 0, none⟩) (by simp) x).far (p := ⟨w.heap.size + 1 + 1, 1, none⟩) (by simp) y).far (p := ⟨w.heap.size + 1 + 1, 2, none⟩) (by simp) z
        exact ⟨h0.cell 0, h0.cell 1, h0.cell 2⟩))
       have r0 := (HSW.out _ (Ext.refl _)).1; have r1 := (HSW.out _ (Ext.refl _)).2.1; have r2 := (HSW.out _ (Ext.refl _)).2.2; have rl := Nat.lt_of_lt_of_le ql hx1.size
       clear hx1 p0 p1 p2 p3 pl q0 q1 q2)
    | fail)
   go_region_held3 (fun W' => W'.cell? ⟨w.heap.size + 1, 0, none⟩ = some (.int .i64 t.from_) ∧ W'.cell? ⟨w.heap.size + 1, 1, none⟩ = some (.slice X t.change.comes.length cx) ∧ W'.cell? ⟨w.heap.size + 1, 2, none⟩ = some (.slice Y t.change.goes.length cy))
    (first | exact HSY.out _ HX2.out _ _ _ | exact HSW.out _ HX2.out | exact HSW.out _ (Ext.refl w1).drew)
    ((go_at_call 204; refine (HLC.out _ (HX1.out.trans' (Ext.refl w1).drew)).mono ?_; rintro e w2 ⟨⟨x2, y2, rfl, hx2', hy2'⟩, hx2⟩
      obtain ⟨O1, o1, rfl, _, _⟩ := SliceR.form hx2'; obtain ⟨O2, o2, rfl, _, _⟩ := SliceR.form hy2'; have HX2 := Lib.hid ((Ext.refl w1).drew.trans' hx2); have HO1 := Lib.hid (show AtomsR (From W.heap.size) w2 (.slice O1 t.change.comes.length o1) t.change.comes from AtomsR.sub hx2' (fromLe (HX1.out.trans' (Ext.refl w1).drew).size)); have HO2 := Lib.hid (show AtomsR (From W.heap.size) w2 (.slice O2 t.change.goes.length o2) t.change.goes from AtomsR.sub hy2' (fromLe (HX1.out.trans' (Ext.refl w1).drew).size)); have HXX := Lib.hid (HX1.out.trans' HX2.out); have HB4 := Lib.hid (HB3.out.ext HXX.out); have y0 := HB4.out.cell 0; have y1 := HB4.out.cell 1; have y2 := HB4.out.cell 2; have yf0 := HB4.out.frozen 0; have yf1 := HB4.out.frozen 1; have yf2 := HB4.out.frozen 2; have yl := HB4.out.lt
      clear hx2' hy2' hx2))
   all_goals go_wp2_with fail
   all_goals
    refine bodyPost_ret (v := .tuple #[.agg #[.int .i64 t.from_, .slice O1 t.change.comes.length o1, .slice O2 t.change.goes.length o2], .int .i64 5]) (by simp [results, Tryz.results205, go_sem, y0, y1, y2, yf0, yf1, yf2, yl]) rfl ?_; have hfin := txn_out (w := w) (W := W) (g := w.heap.size + 1 + 1) (t := t) (f := t.from_) rfl (HX.out.trans' HXX.out) (by omega) (by omega) HO1.out HO2.out (by omega); rw [HTL.out]; exact ⟨⟨_, rfl, hfin.1⟩, hfin.2⟩
 have HAT := Lib.hid (fun (W' : World) (hW' : Ext W W') => l7At_any B t.from_ _ W' (HBR.out.ext hW') hB (by have := hT.from_; omega))
 obtain ⟨al, hale⟩ : ∃ al, al = (atL B t.from_).1 := ⟨_, rfl⟩
 obtain ⟨ab, habe⟩ : ∃ ab, ab = (atL B t.from_).2 := ⟨_, rfl⟩
 rw [← hale, ← habe] at HAT; rw [← hale] at HTL
 obtain ⟨cg, hcg⟩ : ∃ cg, cg = changeOfL al dst := ⟨_, rfl⟩
 have HCH := Lib.hid (fun (v' : Value) (W' : World) (hW' : Ext W W') (hv' : AtomsR (From W.heap.size) W' v' al) => specChangeOf_any al dst v' _ W' hv' (HTO.out.ext hW')); rw [← hcg] at HCH HTL; clear hale habe hcg
 go_enter Tryz.func205, Tryz.ntmps205
 go_upto_region 1 with fail
 rw [← hW]; clear hW
 go_upto_region 4 with (first
  | (go_at_call 46; refine HFI.out.mono ?_; rintro e w1 ⟨rfl, hx1⟩
     have HX1 := Lib.hid hx1; have p0' := (HB1.out.ext hx1).cell 0; have p1' := (HB1.out.ext hx1).cell 1; have p2' := (HB1.out.ext hx1).cell 2; have p3' := (HB1.out.ext hx1).cell 3; have pl' := (HB1.out.ext hx1).lt; have q0' := (HB2.out.ext hx1).cell 0; have ql' := (HB2.out.ext hx1).lt
     clear hx1 p0 p1 p2 p3 pl q0 q1 q2)
  | (go_at_call 284; refine (HAT.out _ HX1.out).mono ?_; rintro e w2 ⟨⟨v2, rfl, hv2⟩, hx2⟩
     obtain ⟨O2, o2, rfl, _, _⟩ := SliceR.form hv2; have HX2 := Lib.hid (HX1.out.trans' hx2); have HV2 := Lib.hid (AtomsR.sub hv2 (fromLe HX1.out.size)); have HSW := Lib.hid (fun (W' : World) (hW' : Ext w2 W') => (HB2.out.ext (HX2.out.trans' hW')).cell 0)
     have HSY := Lib.hid (fun (W' : World) (hW' : Ext w2 W') (x y z : Value) => (show (((W'.setCell ⟨w.heap.size + 1 + 1, 0, none⟩ x).setCell ⟨w.heap.size + 1 + 1, 1, none⟩ y).setCell ⟨w.heap.size + 1 + 1, 2, none⟩ z).cell? ⟨w.heap.size + 1, 0, none⟩ = some (.int .i64 t.from_) from by
      have h0 := (((HB2.out.ext (HX2.out.trans' hW')).far (p := ⟨w.heap.size + 1 + 1, 0, none⟩) (by simp) x).far (p := ⟨w.heap.size + 1 + 1, 1, none⟩) (by simp) y).far (p := ⟨w.heap.size + 1 + 1, 2, none⟩) (by simp) z
      exact h0.cell 0))
     have r0 := HSW.out _ (Ext.refl _); have rl := Nat.lt_of_lt_of_le ql HX2.out.size
     clear hv2 hx2 p0' p1' p2' p3' pl' q0' ql')
  | fail)
 go_region_held3 (fun W' => W'.cell? ⟨w.heap.size + 1, 0, none⟩ = some (.int .i64 t.from_))
  (first | exact HSY.out _ HX3.out _ _ _ | exact HSW.out _ HX3.out | exact HSW.out _ (Ext.refl w2).drew)
  ((go_at_call 285; refine (HCH.out _ _ (HX2.out.trans' (Ext.refl w2).drew) (HV2.out.ext (Ext.refl w2).drew)).mono ?_; rintro e w3 ⟨⟨x3, y3, rfl, hx3', hy3'⟩, hx3⟩
    obtain ⟨O3, o3, rfl, _, _⟩ := SliceR.form hx3'; obtain ⟨O4, o4, rfl, _, _⟩ := SliceR.form hy3'; have HX3 := Lib.hid ((Ext.refl w2).drew.trans' hx3); have HO3 := Lib.hid (show AtomsR (From W.heap.size) w3 (.slice O3 cg.comes.length o3) cg.comes from AtomsR.sub hx3' (fromLe (HX2.out.trans' (Ext.refl w2).drew).size)); have HO4 := Lib.hid (show AtomsR (From W.heap.size) w3 (.slice O4 cg.goes.length o4) cg.goes from AtomsR.sub hy3' (fromLe (HX2.out.trans' (Ext.refl w2).drew).size)); have HXX := Lib.hid (HX2.out.trans' HX3.out); have HB4 := Lib.hid (HB3.out.ext HXX.out); have y0 := HB4.out.cell 0; have y1 := HB4.out.cell 1; have y2 := HB4.out.cell 2; have yf0 := HB4.out.frozen 0; have yf1 := HB4.out.frozen 1; have yf2 := HB4.out.frozen 2; have yl := HB4.out.lt
    clear hx3' hy3' hx3))
 all_goals go_wp2_with fail
 all_goals
  refine bodyPost_ret (v := .tuple #[.agg #[.int .i64 t.from_, .slice O3 cg.comes.length o3, .slice O4 cg.goes.length o4], .int .i64 0]) (by simp [results, Tryz.results205, go_sem, y0, y1, y2, yf0, yf1, yf2, yl]) rfl ?_; have hfin := txn_out (w := w) (W := W) (g := w.heap.size + 1 + 1) (t := ⟨t.from_, cg⟩) (f := t.from_) rfl (HX.out.trans' HXX.out) (by omega) (by omega) HO3.out HO4.out (by omega); rw [HTL.out]; exact ⟨⟨_, rfl, hfin.1⟩, hfin.2⟩
def withoutA (xs : List GA) (a : GA) : List GA := if hasA xs a then xs.take (placeA xs a) ++ xs.drop (placeA xs a + 1) else xs
set_option maxRecDepth 100000 in
set_option maxHeartbeats 4000000 in
theorem l3Without_any (v u : Value) (xs : List GA) (a : GA) (w : World) {S T : Nat → Prop} (hv : AtomsR S w v xs) (hu : TermsR T w u a.args) (hn : xs.length ≤ 100000000) :
 Calls Tryz.prog 206 #[v, .agg #[.string a.n, u]] w fun e w' => (∃ v', e = .returned v' ∧ AtomsR (fun b => w.heap.size ≤ b ∨ S b) w' v' (withoutA xs a)) ∧ Ext w w' := by
 obtain ⟨A, c, rfl, hc1, hc2⟩ := SliceR.form hv; obtain ⟨B, d, rfl, hd1, hd2⟩ := SliceR.form hu; obtain ⟨i0, hi0, hz0, hz1, hz2⟩ := info_parts atom_info; have HB := Lib.hid (Blk.new w 54 #[.string a.n, .slice B a.args.length d]); have HV := Lib.hid (hv.ext ((Ext.refl w).alloc (.cells #[.string a.n, .slice B a.args.length d] 54))); have HU := Lib.hid (hu.ext ((Ext.refl w).alloc (.cells #[.string a.n, .slice B a.args.length d] 54))); have HW := Lib.hid (show withoutA xs a = if hasA xs a then xs.take (placeA xs a) ++ xs.drop (placeA xs a + 1) else xs from rfl); have HAT := Lib.hid (l3At_any _ _ xs a _ HV.out HU.out)
 obtain ⟨k, hk⟩ : ∃ k, k = placeA xs a := ⟨_, rfl⟩
 obtain ⟨has, hhe⟩ : ∃ has, has = hasA xs a := ⟨_, rfl⟩
 have hpl : has = true → k < xs.length := fun h => by
  rcases Nat.lt_or_ge k xs.length with h1 | h1
  · exact h1
  have h2 : hasA xs a = false := by
    unfold hasA isAt; rw [← hk, List.getElem?_eq_none h1]
  rw [hhe, h2] at h; cases h
 rw [← hk, ← hhe] at HAT HW; clear hv hu hk hhe
 cases has
 · go_enter Tryz.func206, Tryz.ntmps206
   go_wp2_with (first
    | (go_at_call 131; refine HAT.out.mono ?_; rintro e w1 ⟨rfl, hx1⟩; have HX1 := Lib.hid hx1; clear hx1)
    | fail)
   go_ret; rw [HW.out]; exact ⟨⟨_, rfl, AtomsR.sub (HV.out.ext HX1.out) (fun b hb => .inr hb)⟩, ((Ext.refl _).alloc _).trans' HX1.out⟩
 have hkl := hpl rfl
 obtain ⟨K1, hK1⟩ : ∃ K1, K1 = k + 1 := ⟨_, rfl⟩
 have hwk : IntKind.i64.wrap ((k : Int) + 1) = (K1 : Int) := by rw [IntKind.wrap_i64]; omega
 have hk0 : (0 : Int) ≤ (k : Int) := by omega
 have hk1 : (k : Int) ≤ (c : Int) := by omega
 have hk2 : (k : Int) ≤ (xs.length : Int) := by omega
 have hK0 : (0 : Int) ≤ (K1 : Int) := by omega
 have hK2 : (K1 : Int) ≤ (xs.length : Int) := by omega
 have hK3 : (K1 : Int) ≤ (c : Int) := by omega
 have hK4 : K1 ≤ xs.length := by omega
 rw [← hK1] at HW; have HP := Lib.hid (show withoutA xs a = xs.take k ++ xs.drop K1 from HW.out)
 have hlk : (xs.take k).length = k := by rw [List.length_take]; omega
 have HLK := Lib.hid hlk; clear hpl hlk hK1 HW
 go_enter Tryz.func206, Tryz.ntmps206
 go_wp2_with (first
  | (go_at_call 131; refine HAT.out.mono ?_; rintro e w1 ⟨rfl, hx1⟩; have hb1 := HB.out.ext hx1; have q0 := hb1.cell 0; have q1 := hb1.cell 1; have hl1 := hb1.lt)
  | fail)
 have HX1 := Lib.hid (((Ext.refl w).alloc (.cells #[.string a.n, .slice B a.args.length d] 54)).trans' hx1); have HB1 := Lib.hid hb1
 have HE1 := Lib.hid (show ∀ W, Ext w1 W → ElemsK kAtom (fun b => S b ∧ b < w1.heap.size) W (.slice A k c) (xs.take k) from fun W hW =>
  ElemsK.ext (((ListK.elems (k := kAtom) (SliceR.fst (HV.out.ext hx1) k (Nat.le_of_lt hkl))).sub (fun b hb hlt => ⟨hb, hlt⟩))) hW)
 have HE3 := Lib.hid (show ∀ W, Ext w1 W → ElemsK kAtom (fun b => S b ∧ b < w1.heap.size) W (.slice (if c = K1 then A else A.map (·.add (K1 * 2))) (xs.length - K1) (c - K1)) (xs.drop K1) from fun W hW =>
  ElemsK.ext (((ListK.elems (k := kAtom) (SliceR.drop (HV.out.ext hx1) K1 hK4)).sub (fun b hb hlt => ⟨hb, hlt⟩))) hW)
 clear hx1 hb1
 go_region_held3 (fun w' => w'.cell? ⟨w.heap.size, 0, none⟩ = some (.string a.n))
  (first | exact (HB1.out.ext HX3.out).cell 0 | exact (HB1.out.ext HX2.out).cell 0 | go_keep)
  (first
   | (refine step_appL (o := ⟨some 20, _, _, _, _, _⟩) (k := kAtom) (S := fun b => S b ∧ b < w1.heap.size) (T := fun b => S b ∧ b < w1.heap.size) (base := w1.heap.size) (v := .slice (some ⟨_, 0, none⟩) 0 0) (xs := []) (ys := xs.take k) (by rfl) (.tmp 16) (.tmp 19) 30 (by rfl) i0 _ 40 Tryz.underlying30 hi0 hz0 hz1 hz2 (by rfl) (by rfl)
       (by exact OwnK.drew (OwnK.empty rfl (Nat.le_refl _))) A k c (by rfl) (HE1.out _ (by exact Ext.drew (Ext.alloc (Ext.refl _) _))) (fun b hb => ⟨hb, hb.2⟩) (by unfold maxLen; simp; omega) (by simp; omega) (by go_size) ?_
      intro v1 w2 hap1; obtain ⟨A1, n1, c1, rfl, hn1, hd11, hd12⟩ := hap1.own.form2; have HX2 := Lib.hid (hap1.toExt (w0 := w1) (by exact Ext.drew (Ext.alloc (Ext.refl _) _)) (Nat.le_refl _)); have HA1 := Lib.hid hap1; clear hap1)
   | (refine step_appL (o := ⟨some 25, _, _, _, _, _⟩) (k := kAtom) (S := fun b => S b ∧ b < w1.heap.size) (T := fun b => S b ∧ b < w1.heap.size) (base := w1.heap.size) (xs := [] ++ xs.take k) (ys := xs.drop K1) (by rfl) (.tmp 20) (.tmp 24) 30 (by rfl) i0 _ 40 Tryz.underlying30 hi0 hz0 hz1 hz2 (by rfl) (by rfl)
       (by exact HA1.out.own) _ _ _ (by rfl) (HE3.out _ HX2.out) (fun b hb => ⟨hb, hb.2⟩) (by unfold maxLen; simp; omega) (by simp; omega) (by have := HX2.out.size; go_size) ?_
      intro v3 w4 hap3; obtain ⟨A3, n3, c3, rfl, hn3, hd31, hd32⟩ := hap3.own.form2; have HX3 := Lib.hid (hap3.toExt (w0 := w1) HX2.out (Nat.le_refl _)); have HA3 := Lib.hid hap3; clear hap3))
 all_goals go_wp2
 all_goals
  go_ret; refine ⟨⟨_, rfl, ?_⟩, HX1.out.trans' HX3.out⟩; rw [HP.out]; have h := HA3.out.own.list (S' := fun b => w.heap.size ≤ b ∨ S b) (fun b hb => .inr hb.1) (fun b hb => .inl (Nat.le_trans HX1.out.size hb)); simp only [List.nil_append] at h; exact h
end Go.Proofs.YtmihponoillihaaGreatDoor
