/- Part of the texts of a proof: own texts joined in the order of their building; what they say stands at each theorem. -/
import Derived.Test.YtfjdijakgjhieaaGreatBas12
import Derived.Test.YtfjdijakgjhieaaGreatBas07
import Derived.Test.YtfjdijakgjhieaaGreatBas02
import Derived.Deep.RegionHeld3
namespace Go.Proofs.YtfjdijakgjhieaaGreat
set_option linter.unusedSimpArgs false
set_option linter.unusedVariables false
open Go.RowKit

theorem varsFold_len {m : Nat} : ∀ (ps : List GP) (o : List ByteArray), (∀ p ∈ ps, p.atom.args.length ≤ m) → (ps.foldl (fun o p => varsPut o p.atom) o).length ≤ o.length + ps.length * m
 | [], o, _ => by simp
 | p :: ps, o, h => by
   have h1 := varsFold_len ps (varsPut o p.atom) (fun q hq => h q (List.mem_cons_of_mem _ hq))
   have h2 := varsPut_len o p.atom
   have h3 := h p List.mem_cons_self
   have h4 : (ps.length + 1) * m = ps.length * m + m := by rw [Nat.add_mul, Nat.one_mul]
   rw [List.foldl_cons, List.length_cons, h4]; omega
theorem varsN_most {m : Nat} {ps : List GP} (h : ∀ p ∈ ps, p.atom.args.length ≤ m) : (varsN ps).length ≤ ps.length * m := by
 have := varsFold_len ps [] h
 simpa [varsN] using this

set_option maxRecDepth 100000 in
set_option maxHeartbeats 2000000 in
theorem l5Vars_any (ps : List GP) (u : Value) (w : World) {S : Nat → Prop} (hu : PartsR S w u ps) (hps : ∀ p ∈ ps, p.atom.args.length ≤ 1000) (hpl : ps.length ≤ 4) :
 Calls Tryz.prog 70 #[u] w fun e w' => (∃ v', e = .returned v' ∧ StrsR (From w.heap.size) w' v' (varsN ps)) ∧ Ext w w' := by
 obtain ⟨B, d, rfl, hd1, hd2⟩ := SliceR.form hu
 have HU := Lib.hid hu
 have HPS := Lib.hid hps
 clear hu hps
 go_enter Tryz.func70, Tryz.ntmps70
 go_wp2
 go_loopw [3, 4] (fun o i wr => ∃ k : Nat, k ≤ ps.length ∧ i = .int .i64 k ∧ Hid (StrsR (From w.heap.size) wr o (varsN (ps.take k))) ∧ Ext w wr) (fun _ i _ => ps.length - (intOf i).toNat)
 case atStart => exact ⟨0, Nat.zero_le _, rfl, Lib.hid (ListK.nil (k := kStr) 0 (Nat.zero_le _) _), (Ext.refl _).alloc _⟩
 case round =>
  obtain ⟨k, hk, rfl, ho, hx⟩ := hrel
  have hk0 : (0 : Int) ≤ (k : Int) := by omega
  by_cases hlt : k < ps.length
  · have hk1 : (k : Int) < (ps.length : Int) := by omega
    obtain ⟨bp, op, p, vp, rfl, hbp, hpk, hpn, hpt, hp0, hp1, hp2⟩ := PartsR.at_ HU.out hlt
    obtain ⟨G, cg, rfl, hcg1, hcg2⟩ := SliceR.form hpt
    have r1 := (hx.cells.1 bp (op + k * 3 + 1) hbp).trans hp1
    have r2 := (hx.cells.1 bp (op + k * 3 + 2) hbp).trans hp2
    have HST := Lib.hid (show varsN (ps.take (k + 1)) = varsPut (varsN (ps.take k)) p.atom from foldl_take _ _ hpk)
    have HL := Lib.hid (show (varsN (ps.take k)).length + p.atom.args.length ≤ 1000000 from by
     have h1 := varsN_most (m := 1000) (ps := ps.take k) (fun q hq => HPS.out q (List.mem_of_mem_take hq))
     have h2 := HPS.out p (List.mem_of_getElem? hpk)
     rw [List.length_take] at h1
     omega)
    have HPT := Lib.hid (hpt.ext hx)
    clear hp0 hp1 hp2 hpk hpt
    go_wp2_with (go_at_call 101; refine (l2Vars_in p.atom _ _ (varsN (ps.take k)) _ HPT.out ho.out HL.out).mono ?_; rintro e w1 ⟨⟨v1, rfl, hv1⟩, hx1⟩)
    go_roundw
    case rel => exact ⟨k + 1, by omega, by go_num, Lib.hid (by rw [HST.out]; exact hv1.sub (fun b hb => hb.elim id (fun h => Nat.le_trans hx.size h))), hx.trans' hx1⟩
    case measure => simp [intOf]; omega
  · have HE := Lib.hid (show ps.take k = ps from List.take_of_length_le (by omega))
    have h1 := ho.out
    rw [HE.out] at h1
    go_wp2
    go_ret
    exact ⟨⟨_, rfl, h1⟩, hx⟩

theorem StrsR.atS {S : Nat → Prop} {w : World} {A : Option Addr} {n c : Nat} {xs : List ByteArray} (h : StrsR S w (.slice A n c) xs) {k : Nat} (hk : k < n) :
 ∃ (b off : Nat) (x : ByteArray), A = some ⟨b, off, none⟩ ∧ b < w.heap.size ∧ S b ∧ xs[k]? = some x ∧ x.size ≤ maxLen ∧ w.cell? ⟨b, off + k, none⟩ = some (.string x) := by
 obtain ⟨b, off, x, h1, h2, h3, h4, h5⟩ := StrsR.at_ h hk
 obtain ⟨A', c', hv, _, _, h6⟩ := h
 injection hv with hA hn hc
 obtain ⟨b', off', h7, _, h8, _⟩ := h6 (by omega)
 rw [← hA, h1] at h7
 injection h7 with h7
 injection h7 with h7 _
 exact ⟨b, off, x, h1, h2, by rw [h7]; exact h8, h3, h4, h5⟩
theorem Inside.beyond {S : Nat → Prop} {a b c : World} {n : Nat} (h : Inside S a b) (k : Below n b c) (hn : a.heap.size ≤ n) : Inside S a c :=
 ⟨k.os.trans h.os, k.tape.trans h.tape, k.output.trans h.output, Nat.le_trans h.size k.size, fun i hi hS => (k.block i (Nat.lt_of_lt_of_le hi hn)).trans (h.block i hi hS)⟩
theorem Inside.cell {S : Nat → Prop} {a b : World} (h : Inside S a b) {g o : Nat} {u : Value} (hg : g < a.heap.size) (hS : ¬ S g) (hc : a.cell? ⟨g, o, none⟩ = some u) : b.cell? ⟨g, o, none⟩ = some u :=
 (World.cell?_of_block (w := a) (a := ⟨g, o, none⟩) (h.block g hg hS)).trans hc
/-- A body under a head of all its variables. -/
def varT (s : ByteArray) : GT := ⟨true, s⟩
def ruleN (nm : ByteArray) (ps : List GP) : GR := ⟨⟨nm, (varsN ps).map varT⟩, ps⟩

set_option maxRecDepth 100000 in
set_option maxHeartbeats 4000000 in
theorem l5Rule_any (nm : ByteArray) (ps : List GP) (u : Value) (w : World) {S : Nat → Prop} (hu : PartsR S w u ps) (hps : ∀ p ∈ ps, p.atom.args.length ≤ 1000) (hpl : ps.length ≤ 4) :
 Calls Tryz.prog 68 #[.string nm, u] w fun e w' => (∃ v', e = .returned (.agg #[.string nm, v', u]) ∧ TermsR (From w.heap.size) w' v' ((varsN ps).map varT)) ∧ Ext w w' := by
 obtain ⟨B, d, rfl, hd1, hd2⟩ := SliceR.form hu
 obtain ⟨i0, hi0, hz0, hz1, hz2⟩ := info_parts term_info
 have hvm := varsN_most hps
 obtain ⟨W0, hW0⟩ : ∃ W0, W0 = (w.alloc (.cells #[.string ⟨#[]⟩, .slice none 0 0, .slice none 0 0] 93)).alloc (.cells #[.string nm, .slice none 0 0, .slice B ps.length d] 93) := ⟨_, rfl⟩
 have HB0 := Lib.hid (show Blk W0 w.heap.size 93 #[.string ⟨#[]⟩, .slice none 0 0, .slice none 0 0] from by rw [hW0]; exact (Blk.new _ _ _).alloc _)
 have HB1 := Lib.hid (show Blk W0 (w.heap.size + 1) 93 #[.string nm, .slice none 0 0, .slice B ps.length d] from by rw [hW0]; exact Blk.at_new (by simp))
 have HE0 := Lib.hid (show Ext w W0 from by rw [hW0]; exact ((Ext.refl _).alloc _).alloc _)
 have hz : W0.heap.size = w.heap.size + 1 + 1 := by rw [hW0]; simp
 have HW0 := Lib.hid hW0
 have HZ := Lib.hid hz
 have HU := Lib.hid (hu.ext HE0.out)
 have HPS := Lib.hid hps
 clear hu hps hW0 hz
 go_enter Tryz.func68, Tryz.ntmps68
 go_wp2_with fail
 rw [← HW0.out]
 go_wp2_with (go_at_call 70; refine (l5Vars_any ps _ W0 HU.out HPS.out hpl).mono ?_; rintro e w1 ⟨⟨v1, rfl, hv1⟩, hx1⟩)
 obtain ⟨E, ce, rfl, hce1, hce2⟩ := SliceR.form hv1
 obtain ⟨n, hn⟩ : ∃ n, n = (varsN ps).length := ⟨_, rfl⟩
 rw [← hn] at hce1 hv1 hvm ⊢
 have HN := Lib.hid hn
 have HV1 := Lib.hid hv1
 have HX1 := Lib.hid hx1
 have HR1 := Lib.hid (HB1.out.ext hx1)
 have HR0 := Lib.hid (HB0.out.ext hx1)
 have hs1 := hx1.size
 rw [HZ.out] at hs1
 clear hn hv1 hx1
 go_loopw [7] (fun i wr => ∃ (k : Nat) (q : Value), k ≤ n ∧ i = .int .i64 k ∧ Hid (Blk wr (w.heap.size + 1) 93 #[.string nm, q, .slice B ps.length d]) ∧ Hid (OwnK kTerm w1.heap.size 33 None wr q (((varsN ps).take k).map varT)) ∧ Hid (Inside (fun b => b = w.heap.size + 1) w1 wr)) (fun i _ => n - (intOf i).toNat)
 case atStart => exact ⟨0, _, Nat.zero_le _, rfl, HR1, Lib.hid OwnK.nil, Lib.hid (Inside.refl _ _)⟩
 case round =>
  obtain ⟨k, q, hk, rfl, hob, hown, hin⟩ := hrel
  have hk0 : (0 : Int) ≤ (k : Int) := by omega
  obtain ⟨OA, on, oc, rfl, hon, ho1, ho2⟩ := hown.out.form2
  have o0 := hob.out.cell 0
  have o1 := hob.out.cell 1
  have o2 := hob.out.cell 2
  have of1 := hob.out.frozen 1
  have hl1 := hob.out.lt
  have hsz := hin.out.size
  by_cases hlt : k < n
  · have hk1 : (k : Int) < (n : Int) := by omega
    obtain ⟨bv, ov, x, rfl, hbv, hbS, hxk, hxs, hx0⟩ := StrsR.atS HV1.out hlt
    have hbn : ¬ bv = w.heap.size + 1 := fun e => by unfold From at hbS; rw [HZ.out] at hbS; omega
    have HT := Lib.hid (show ((varsN ps).take (k + 1)).map varT = ((varsN ps).take k).map varT ++ [varT x] from by rw [List.take_add_one, hxk, List.map_append]; rfl)
    have HLK := Lib.hid (show (((varsN ps).take k).map varT).length = k from by rw [List.length_map, List.length_take, ← HN.out]; omega)
    have HXS := Lib.hid hxs
    have HVX := Lib.hid (fun (W : World) (hW : Inside (fun b => b = w.heap.size + 1) w1 W) => hW.cell hbv hbn hx0)
    clear hxk hx0 hbS
    go_wp2_with fail
    refine wp_region_noPanic ?_
    refine wp_region_held_drew (S := (fun w' => w'.cell? ⟨bv, ov + k, none⟩ = some (.string x))) (by kernel_rfl) ?_ (fun hHeld => ?_)
    · (try dsimp only); (first | exact HVX.out _ (hin.out.trans' (Inside.of_ext (Ext.refl wr).drew)) | exact HVX.out _ (hin.out.trans' (Inside.of_ext ((Ext.refl wr).drew.alloc _))) | exact HVX.out _ HX2.out | exact HVX.out _ (HX2.out.trans' (Inside.set _ ⟨w.heap.size + 1, 1, none⟩ _ rfl)))
    refine tk 0 (v := ?_) rfl ?_ ?_
    rotate_left
    · (intro w hSw; (try dsimp only at hSw); go_simp) <;> with_reducible rfl
    try simp only [Act.put, stz]
    refine tk 1 (v := ?_) rfl ?_ ?_
    rotate_left
    · (intro w hSw; (try dsimp only at hSw); go_simp) <;> with_reducible rfl
    try simp only [Act.put, stz]
    refine tk 3 (v := ?_) rfl ?_ ?_
    rotate_left
    · (intro w hSw; (try dsimp only at hSw); go_simp) <;> with_reducible rfl
    try simp only [Act.put, stz]
    refine tk 4 (v := ?_) rfl ?_ ?_
    rotate_left
    · (intro w hSw; (try dsimp only at hSw); go_simp) <;> with_reducible rfl
    try simp only [Act.put, stz]
    refine tk 5 (v := ?_) rfl ?_ ?_
    rotate_left
    · (intro w hSw; (try dsimp only at hSw); go_simp) <;> with_reducible rfl
    try simp only [Act.put, stz]
    refine tk 6 (v := ?_) rfl ?_ ?_
    rotate_left
    · (intro w hSw; (try dsimp only at hSw); go_simp) <;> with_reducible rfl
    try simp only [Act.put, stz]
    refine tk 7 (v := ?_) rfl ?_ ?_
    rotate_left
    · (intro w hSw; (try dsimp only at hSw); go_simp) <;> with_reducible rfl
    try simp only [Act.put, stz]
    refine wpAnyH_ready (rs := [2, 8]) (by kernel_rfl) (by simp) ?_
    refine AllReadyH.cons (o := _) rfl (fun K hK => ?_) ?_
    · go_simp
      refine hK.out _ _ ?_ (fun hNew => ?_)
      · (try dsimp only); (first | exact HVX.out _ (hin.out.trans' (Inside.of_ext (Ext.refl wr).drew)) | exact HVX.out _ (hin.out.trans' (Inside.of_ext ((Ext.refl wr).drew.alloc _))) | exact HVX.out _ HX2.out | exact HVX.out _ (HX2.out.trans' (Inside.set _ ⟨w.heap.size + 1, 1, none⟩ _ rfl)))
      clear hK K hHeld
      have hHeld := hNew
      clear hNew
      try simp only [Act.put, stz]
      refine wpAnyH_ready (rs := [8]) (by kernel_rfl) (by simp) ?_
      refine AllReadyH.cons (o := _) rfl (fun K hK => ?_) ?_
      · go_simp
        refine hK.out _ _ ?_ (fun hNew => ?_)
        · (try dsimp only); (first | exact HVX.out _ (hin.out.trans' (Inside.of_ext (Ext.refl wr).drew)) | exact HVX.out _ (hin.out.trans' (Inside.of_ext ((Ext.refl wr).drew.alloc _))) | exact HVX.out _ HX2.out | exact HVX.out _ (HX2.out.trans' (Inside.set _ ⟨w.heap.size + 1, 1, none⟩ _ rfl)))
        clear hK K hHeld
        have hHeld := hNew
        clear hNew
        try simp only [Act.put, stz]
        refine wpAnyH_ready (rs := [9]) (by kernel_rfl) (by simp) ?_
        refine AllReadyH.cons (o := _) rfl (fun K hK => ?_) ?_
        · refine step_appL (o := ⟨some 29, _, _, _, _, _⟩) (k := kTerm) (S := None) (T := None) (base := w1.heap.size) (xs := ((varsN ps).take k).map varT) (ys := [varT x]) (by rfl) (.tmp 22) (.tmp 28) 24 (by rfl) i0 _ 24 Tryz.underlying24 hi0 hz0 hz1 hz2 (by rfl) (by rfl) (hown.out.ext (by first | exact (Ext.refl _).drew.alloc _)) _ 1 1 (by rfl) (ElemsK.one (k := kTerm) (g := wr.heap.size) (x := varT x) (l := [.bool true, .string x]) (Blk.at_new (by simp)) ⟨rfl, HXS.out⟩) (fun _ h => h.elim) (maxOf (by rw [HLK.out]; simp; omega)) (by rw [HLK.out]; omega) (by go_size) ?_
          intro v2 w2 hap
          obtain ⟨B2, n2, d2, rfl, hn2, hd21, hd22⟩ := hap.own.form2
          have HAP := Lib.hid hap
          have HX2 := Lib.hid ((hin.out.trans' (Inside.of_ext ((Ext.refl wr).drew.alloc _))).beyond hap.below (Nat.le_refl _))
          have hob2 := (hob.out.drew.alloc _).below hap.below (by omega)
          have z0 := hob2.cell 0
          have z1 := hob2.cell 1
          have z2 := hob2.cell 2
          have zf := hob2.frozen 1
          have zl := hob2.lt
          have HOB := Lib.hid hob2
          clear hap hob2
          refine hK.out _ _ ?_ (fun hNew => ?_)
          · (try dsimp only); (first | exact HVX.out _ (hin.out.trans' (Inside.of_ext (Ext.refl wr).drew)) | exact HVX.out _ (hin.out.trans' (Inside.of_ext ((Ext.refl wr).drew.alloc _))) | exact HVX.out _ HX2.out | exact HVX.out _ (HX2.out.trans' (Inside.set _ ⟨w.heap.size + 1, 1, none⟩ _ rfl)))
          clear hK K hHeld
          have hHeld := hNew
          clear hNew
          try simp only [Act.put, stz]
          refine tk 10 (v := ?_) rfl ?_ ?_
          rotate_left
          · (intro w hSw; (try dsimp only at hSw); go_simp) <;> with_reducible rfl
          try simp only [Act.put, stz]
          refine tk 11 (v := ?_) rfl ?_ ?_
          rotate_left
          · (intro w hSw; (try dsimp only at hSw); go_simp) <;> with_reducible rfl
          try simp only [Act.put, stz]
          refine wpAnyH_ready (rs := [12]) (by kernel_rfl) (by simp) ?_
          refine AllReadyH.cons (o := _) rfl (fun K hK => ?_) ?_
          · go_simp
            refine hK.out _ _ ?_ (fun hNew => ?_)
            · (try dsimp only); (first | exact HVX.out _ (hin.out.trans' (Inside.of_ext (Ext.refl wr).drew)) | exact HVX.out _ (hin.out.trans' (Inside.of_ext ((Ext.refl wr).drew.alloc _))) | exact HVX.out _ HX2.out | exact HVX.out _ (HX2.out.trans' (Inside.set _ ⟨w.heap.size + 1, 1, none⟩ _ rfl)))
            clear hK K hHeld
            have hHeld := hNew
            clear hNew
            try simp only [Act.put, stz]
            refine wpAnyH_done (by kernel_rfl) ?_ _
            refine NoPanic.normal ?_
            go_wp2
            go_roundw
            case rel =>
             refine ⟨k + 1, _, by omega, by go_num, Lib.hid (by simpa using HOB.out.set_ 1 (.slice B2 n2 d2)), Lib.hid (by rw [HT.out]; exact HAP.out.own.set (p := ⟨_, 1, none⟩) (by show w.heap.size + 1 < w1.heap.size; omega) (fun h => h) _), Lib.hid ?_⟩
             exact HX2.out.trans' (Inside.set _ ⟨w.heap.size + 1, 1, none⟩ _ rfl)
            case measure => simp [intOf]; omega
          exact AllReadyH.nil
        exact AllReadyH.nil
      exact AllReadyH.nil
    refine AllReadyH.cons (o := _) rfl (fun K hK => ?_) ?_
    · go_simp
      refine hK.out _ _ ?_ (fun hNew => ?_)
      · (try dsimp only); (first | exact HVX.out _ (hin.out.trans' (Inside.of_ext (Ext.refl wr).drew)) | exact HVX.out _ (hin.out.trans' (Inside.of_ext ((Ext.refl wr).drew.alloc _))) | exact HVX.out _ HX2.out | exact HVX.out _ (HX2.out.trans' (Inside.set _ ⟨w.heap.size + 1, 1, none⟩ _ rfl)))
      clear hK K hHeld
      have hHeld := hNew
      clear hNew
      try simp only [Act.put, stz]
      refine wpAnyH_ready (rs := [2]) (by kernel_rfl) (by simp) ?_
      refine AllReadyH.cons (o := _) rfl (fun K hK => ?_) ?_
      · go_simp
        refine hK.out _ _ ?_ (fun hNew => ?_)
        · (try dsimp only); (first | exact HVX.out _ (hin.out.trans' (Inside.of_ext (Ext.refl wr).drew)) | exact HVX.out _ (hin.out.trans' (Inside.of_ext ((Ext.refl wr).drew.alloc _))) | exact HVX.out _ HX2.out | exact HVX.out _ (HX2.out.trans' (Inside.set _ ⟨w.heap.size + 1, 1, none⟩ _ rfl)))
        clear hK K hHeld
        have hHeld := hNew
        clear hNew
        try simp only [Act.put, stz]
        refine wpAnyH_ready (rs := [9]) (by kernel_rfl) (by simp) ?_
        refine AllReadyH.cons (o := _) rfl (fun K hK => ?_) ?_
        · refine step_appL (o := ⟨some 29, _, _, _, _, _⟩) (k := kTerm) (S := None) (T := None) (base := w1.heap.size) (xs := ((varsN ps).take k).map varT) (ys := [varT x]) (by rfl) (.tmp 22) (.tmp 28) 24 (by rfl) i0 _ 24 Tryz.underlying24 hi0 hz0 hz1 hz2 (by rfl) (by rfl) (hown.out.ext (by first | exact (Ext.refl _).drew.alloc _)) _ 1 1 (by rfl) (ElemsK.one (k := kTerm) (g := wr.heap.size) (x := varT x) (l := [.bool true, .string x]) (Blk.at_new (by simp)) ⟨rfl, HXS.out⟩) (fun _ h => h.elim) (maxOf (by rw [HLK.out]; simp; omega)) (by rw [HLK.out]; omega) (by go_size) ?_
          intro v2 w2 hap
          obtain ⟨B2, n2, d2, rfl, hn2, hd21, hd22⟩ := hap.own.form2
          have HAP := Lib.hid hap
          have HX2 := Lib.hid ((hin.out.trans' (Inside.of_ext ((Ext.refl wr).drew.alloc _))).beyond hap.below (Nat.le_refl _))
          have hob2 := (hob.out.drew.alloc _).below hap.below (by omega)
          have z0 := hob2.cell 0
          have z1 := hob2.cell 1
          have z2 := hob2.cell 2
          have zf := hob2.frozen 1
          have zl := hob2.lt
          have HOB := Lib.hid hob2
          clear hap hob2
          refine hK.out _ _ ?_ (fun hNew => ?_)
          · (try dsimp only); (first | exact HVX.out _ (hin.out.trans' (Inside.of_ext (Ext.refl wr).drew)) | exact HVX.out _ (hin.out.trans' (Inside.of_ext ((Ext.refl wr).drew.alloc _))) | exact HVX.out _ HX2.out | exact HVX.out _ (HX2.out.trans' (Inside.set _ ⟨w.heap.size + 1, 1, none⟩ _ rfl)))
          clear hK K hHeld
          have hHeld := hNew
          clear hNew
          try simp only [Act.put, stz]
          refine tk 10 (v := ?_) rfl ?_ ?_
          rotate_left
          · (intro w hSw; (try dsimp only at hSw); go_simp) <;> with_reducible rfl
          try simp only [Act.put, stz]
          refine tk 11 (v := ?_) rfl ?_ ?_
          rotate_left
          · (intro w hSw; (try dsimp only at hSw); go_simp) <;> with_reducible rfl
          try simp only [Act.put, stz]
          refine wpAnyH_ready (rs := [12]) (by kernel_rfl) (by simp) ?_
          refine AllReadyH.cons (o := _) rfl (fun K hK => ?_) ?_
          · go_simp
            refine hK.out _ _ ?_ (fun hNew => ?_)
            · (try dsimp only); (first | exact HVX.out _ (hin.out.trans' (Inside.of_ext (Ext.refl wr).drew)) | exact HVX.out _ (hin.out.trans' (Inside.of_ext ((Ext.refl wr).drew.alloc _))) | exact HVX.out _ HX2.out | exact HVX.out _ (HX2.out.trans' (Inside.set _ ⟨w.heap.size + 1, 1, none⟩ _ rfl)))
            clear hK K hHeld
            have hHeld := hNew
            clear hNew
            try simp only [Act.put, stz]
            refine wpAnyH_done (by kernel_rfl) ?_ _
            refine NoPanic.normal ?_
            go_wp2
            go_roundw
            case rel =>
             refine ⟨k + 1, _, by omega, by go_num, Lib.hid (by simpa using HOB.out.set_ 1 (.slice B2 n2 d2)), Lib.hid (by rw [HT.out]; exact HAP.out.own.set (p := ⟨_, 1, none⟩) (by show w.heap.size + 1 < w1.heap.size; omega) (fun h => h) _), Lib.hid ?_⟩
             exact HX2.out.trans' (Inside.set _ ⟨w.heap.size + 1, 1, none⟩ _ rfl)
            case measure => simp [intOf]; omega
          exact AllReadyH.nil
        exact AllReadyH.nil
      exact AllReadyH.nil
    exact AllReadyH.nil
  · have HE := Lib.hid (show ((varsN ps).take k).map varT = (varsN ps).map varT from by rw [List.take_of_length_le (by rw [← HN.out]; omega)])
    have hb0 := hin.out.blk HR0.out (fun e => by omega)
    have r0 := hb0.cell 0
    have r1 := hb0.cell 1
    have r2 := hb0.cell 2
    have rf0 := hb0.frozen 0
    have rf1 := hb0.frozen 1
    have rf2 := hb0.frozen 2
    have hl0 := hb0.lt
    go_wp2
    refine bodyPost_ret (v := .agg #[.string nm, .slice OA on oc, .slice B ps.length d]) (by simp [results, Tryz.results68, go_sem, r0, r1, r2]) rfl ⟨⟨_, rfl, ?_⟩, ?_⟩
    · have h1 := hown.out.list (S' := From w1.heap.size) (fun _ h => h.elim) (fun _ h => h)
      rw [HE.out] at h1
      exact TermsR.imp h1 (fromLe (by omega)) ((((Agree.refl _ _).setCell (notFrom (by show w.heap.size < _; omega)) _).setCell (notFrom (by show w.heap.size < _; omega)) _).setCell (notFrom (by show w.heap.size < _; omega)) _) (by go_size)
    · exact Ext.setNew (a := w) (Ext.setNew (Ext.setNew (hin.out.toExt (HE0.out.trans' HX1.out) (fun i hi => by omega)) (by show _ ≤ w.heap.size; omega) _) (by show _ ≤ w.heap.size; omega) _) (by show _ ≤ w.heap.size; omega) _

end Go.Proofs.YtfjdijakgjhieaaGreat
