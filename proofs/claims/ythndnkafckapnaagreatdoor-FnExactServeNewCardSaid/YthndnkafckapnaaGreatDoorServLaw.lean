/- For all rules FnExactServeNew returns true: the walk. -/
import Derived.Test.YthndnkafckapnaaGreatDoorServN
namespace Go.Proofs.YthndnkafckapnaaGreatDoor
set_option linter.unusedSimpArgs false
set_option linter.unusedVariables false
open Go.RowKit

set_option maxRecDepth 100000 in
set_option maxHeartbeats 4000000 in
theorem exactServeNew_any (v : Value) (l : List GR) (w : World) {S : Nat → Prop} (hv : RulesR S w v l) (he : ErrIs w) :
    Calls Tryz.prog 5 #[v] w fun e w' => e = .returned (.bool true) ∧ Ext w w' := by
  obtain ⟨A, c, rfl, hc1, hc2⟩ := SliceR.form hv
  obtain ⟨hs1, hs2⟩ := two_ways (szRuleS_any _ l 1048576 w ⟨by omega, by omega⟩ hv)
  have HV := Lib.hid hv
  have HE := Lib.hid he
  clear hv he
  by_cases hbig : (1048576 : Int) < wRules l
  · have HSZ := Lib.hid (hs1 hbig)
    clear hs1 hs2 hbig
    go_enter Tryz.func5, Tryz.ntmps5
    go_wp2_with (go_at_call 15; refine HSZ.out.mono ?_; rintro e w1 ⟨rfl, hx1⟩; have HX1 := Lib.hid hx1; clear hx1)
    go_ret
    exact ⟨rfl, HX1.out⟩
  have hfew : wRules l ≤ 1048576 := by omega
  have HSZ := Lib.hid (hs2 (by omega))
  have hcost := costB_baseN hfew
  have hcostr := costRs_le l
  obtain ⟨B, hB⟩ : ∃ B, B = baseN l := ⟨_, rfl⟩
  rw [← hB] at hcost
  obtain ⟨K, hK⟩ : ∃ K, K = 1 + costB B := ⟨_, rfl⟩
  obtain ⟨KR, hKR⟩ : ∃ K, K = 1 + costL costR l := ⟨_, rfl⟩
  obtain ⟨lft, hlft⟩ : ∃ q : Int, q = 1048576 - (wRules l : Int) := ⟨_, rfl⟩
  have hlf0 : 0 ≤ lft := by omega
  have hlf1 : lft ≤ 1048576 := by omega
  rw [← hlft] at HSZ
  have hK1 : 1 ≤ K := by omega
  have hK2 : K ≤ 100000000 := by omega
  have hKR1 : 1 ≤ KR := by omega
  have hKR2 : KR ≤ 100000000 := by omega
  have HT := Lib.hid (fun (W : World) (hW : Ext w W) => show Calls Tryz.prog 17 #[.slice A l.length c] W fun e w' => (∃ u, e = .returned u ∧ RulesO (From W.heap.size) w' u l) ∧ Ext W w' from toRuleS_own _ l W (HV.out.ext hW) hfew)
  have HS := Lib.hid (fun (u : Value) (W : World) (T : Nat → Prop) (hu : RulesR T W u l) => show Calls Tryz.prog 24 #[u] W fun e w' => (∃ b, e = .returned b ∧ ServR Any w' b B) ∧ Ext W w' from by rw [hB]; exact specServeNew_any u l W hu hfew)
  have HI := Lib.hid (fun (u : Value) (W : World) (T : Nat → Prop) (hW : Ext w W) (hu : RulesR T W u l) => show Calls Tryz.prog 25 #[u] W fun e w' => (∃ b, e = .returned b ∧ ServO (From W.heap.size) w' b B) ∧ Ext W w' from by rw [hB]; exact serveNew_any u l W hu (HE.out.ext hW) hfew)
  have HMR := Lib.hid (fun (u : Value) (W : World) (T : Nat → Prop) (hu : RulesO T W u l) => show Calls Tryz.prog 21 #[u, .int .i64 1] W fun e w' => e = .returned (.int .i64 KR) ∧ Inside T W w' from
    (markRuleS_any u l 1 W hu (Nat.le_refl _) (by omega)).mono fun e w' ⟨⟨q, hq, he⟩, h⟩ => ⟨by rw [he, hq, hKR], h.2⟩)
  have HMB := Lib.hid (fun (u : Value) (W : World) (T : Nat → Prop) (hu : ServO T W u B) => show Calls Tryz.prog 27 #[u, .int .i64 1] W fun e w' => e = .returned (.int .i64 K) ∧ ServO T w' u (mBase 1 B) ∧ Inside T W w' from
    (markServer_any B u 1 W hu (Nat.le_refl _) (by omega)).mono fun e w' ⟨⟨q, hq, he⟩, h⟩ => ⟨by rw [he, hq, hK], h⟩)
  have HHB := Lib.hid (fun (u : Value) (W : World) (T : Nat → Prop) (hu : ServR T W u (mBase 1 B)) => show Calls Tryz.prog 28 #[u, .int .i64 1] W fun e w' => e = .returned (.int .i64 K) ∧ Ext W w' from
    (heldServer_any B u 1 W hu (Nat.le_refl _) (by omega)).mono fun e w' ⟨⟨q, hq, he⟩, h⟩ => ⟨by rw [he, hq, hK], h⟩)
  have HEQ := Lib.hid (fun (u u' : Value) (W : World) (T T' : Nat → Prop) (h1 : ServR T W u B) (h2 : ServR T' W u' B) => eqServer_same B u u' W h1 h2)
  have HER := Lib.hid (fun (u u' : Value) (W : World) (T T' : Nat → Prop) (h1 : RulesR T W u l) (h2 : RulesR T' W u' l) => eqRuleS_same u u' l W h1 h2)
  have tok1 : True := trivial
  have tok2 : True := trivial
  have tok3 : True := trivial
  have tok4 : True := trivial
  have tok5 : True := trivial
  have tok6 : True := trivial
  have tok7 : True := trivial
  clear HE hs1 hs2 hbig hfew hcost hcostr hB hK hKR hlft
  go_enter Tryz.func5, Tryz.ntmps5
  go_wp2_with (first
    | (go_at_call 15; refine (HSZ.out).mono ?_; rintro e w1 ⟨rfl, hx1⟩
       have E1 := Lib.hid hx1
       clear hx1)
    | (go_at_call 17; have _t := tok1; refine (HT.out _ E1.out).mono ?_; clear tok1 _t; rintro e w2 ⟨⟨u1, rfl, hu1⟩, hx2⟩
       have HST := Lib.hid hx2
       have U1 := Lib.hid (RulesO.read hu1)
       have E2 := Lib.hid (E1.out.trans' HST.out)
       clear E1
       clear HST hx2 hu1)
    | (go_at_call 24; refine (HS.out _ _ _ U1.out).mono ?_; rintro e w3 ⟨⟨b0, rfl, hb0⟩, hx3⟩
       have HN0 := Lib.hid (show w.heap.size ≤ w3.heap.size from (E2.out.trans' hx3).size)
       obtain ⟨av1, avc1, av2, avc2, av3, avc3, rfl⟩ := ServR.form hb0
       have HST := Lib.hid (hx3.alloc (.cells #[.slice av1 B.rules.length avc1, .int .i64 B.time, .slice av2 B.given.length avc2, .slice av3 B.hist.length avc3, .string ⟨#[]⟩, .slice none 0 0, .slice none 0 0] 50))
       have B3 := Lib.hid ((ServR.low hb0).ext ((Ext.refl w3).alloc (.cells #[.slice av1 B.rules.length avc1, .int .i64 B.time, .slice av2 B.given.length avc2, .slice av3 B.hist.length avc3, .string ⟨#[]⟩, .slice none 0 0, .slice none 0 0] 50)))
       have KA3 := Lib.hid (Blk.new w3 50 #[.slice av1 B.rules.length avc1, .int .i64 B.time, .slice av2 B.given.length avc2, .slice av3 B.hist.length avc3, .string ⟨#[]⟩, .slice none 0 0, .slice none 0 0])
       have E3 := Lib.hid (E2.out.trans' HST.out)
       clear E2
       clear hx3 hb0 U1
       clear HST)
    | (go_at_call 17; have _t := tok2; refine (HT.out _ E3.out).mono ?_; clear tok2 _t; rintro e w4 ⟨⟨x0, rfl, hx0⟩, hx4⟩
       have HST := Lib.hid hx4
       have HN1 := Lib.hid (show w3.heap.size + 1 ≤ w4.heap.size from by have h := hx4.size; rwa [World.size_alloc] at h)
       have X4 := Lib.hid (SliceO.imp hx0 (S' := fun i => w3.heap.size + 1 ≤ i ∧ i < w4.heap.size) (fun i (h : _ ≤ i) k => ⟨by rwa [World.size_alloc] at h, k⟩) (.refl _ _) (Nat.le_refl _))
       have E4 := Lib.hid (E3.out.trans' HST.out)
       clear E3
       have B4 := Lib.hid (B3.out.ext HST.out)
       clear B3
       have KA4 := Lib.hid (KA3.out.ext HST.out)
       clear KA3
       clear HST hx4 hx0
       have pa0 := KA4.out.cell 0
       have pa1 := KA4.out.cell 1
       have pa2 := KA4.out.cell 2
       have pa3 := KA4.out.cell 3
       have pa4 := KA4.out.cell 4
       have pa5 := KA4.out.cell 5
       have pa6 := KA4.out.cell 6
       have la := KA4.out.lt)
    | (go_at_call 25; have _t := tok3; refine (HI.out _ _ _ E4.out (RulesO.read X4.out)).mono ?_; clear tok3 _t; rintro e w5 ⟨⟨g0, rfl, hg0⟩, hx5⟩
       obtain ⟨bv1, bvc1, bv2, bvc2, bv3, bvc3, rfl⟩ := ServR.form (ServO.read hg0)
       have HST := Lib.hid (hx5.alloc (.cells #[.slice bv1 B.rules.length bvc1, .int .i64 B.time, .slice bv2 B.given.length bvc2, .slice bv3 B.hist.length bvc3, .string ⟨#[]⟩, .slice none 0 0, .slice none 0 0] 50))
       have HN := Lib.hid (And.intro HN0.out (And.intro HN1.out (show w4.heap.size ≤ w5.heap.size from hx5.size)))
       have G5 := Lib.hid (ServO.ext (ServO.imp hg0 (S' := fun i => w4.heap.size ≤ i ∧ i < w5.heap.size) (fun i h k => ⟨h, k⟩) (.refl _ _) (Nat.le_refl _)) ((Ext.refl w5).alloc (.cells #[.slice bv1 B.rules.length bvc1, .int .i64 B.time, .slice bv2 B.given.length bvc2, .slice bv3 B.hist.length bvc3, .string ⟨#[]⟩, .slice none 0 0, .slice none 0 0] 50)))
       have KB5 := Lib.hid (Blk.new w5 50 #[.slice bv1 B.rules.length bvc1, .int .i64 B.time, .slice bv2 B.given.length bvc2, .slice bv3 B.hist.length bvc3, .string ⟨#[]⟩, .slice none 0 0, .slice none 0 0])
       have E5 := Lib.hid (E4.out.trans' HST.out)
       clear E4
       have B5 := Lib.hid (B4.out.ext HST.out)
       clear B4
       have KA5 := Lib.hid (KA4.out.ext HST.out)
       clear KA4
       have X5 := Lib.hid (SliceO.ext X4.out HST.out)
       clear X4
       clear HST hx5 hg0 HN0 HN1
       clear pa0 pa1 pa2 pa3 pa4 pa5 pa6 la
       have pa0 := KA5.out.cell 0
       have pa1 := KA5.out.cell 1
       have pa2 := KA5.out.cell 2
       have pa3 := KA5.out.cell 3
       have pa4 := KA5.out.cell 4
       have pa5 := KA5.out.cell 5
       have pa6 := KA5.out.cell 6
       have la := KA5.out.lt)
    | (go_at_call 26; have _t := tok4; refine (HEQ.out _ _ _ _ _ (ServO.read G5.out) B5.out).mono ?_; clear tok4 _t; rintro e w6 ⟨rfl, hx6⟩
       have HST := Lib.hid hx6
       have E6 := Lib.hid (E5.out.trans' HST.out)
       clear E5
       have B6 := Lib.hid (B5.out.ext HST.out)
       clear B5
       have KA6 := Lib.hid (KA5.out.ext HST.out)
       clear KA5
       have X6 := Lib.hid (SliceO.ext X5.out HST.out)
       clear X5
       have G6 := Lib.hid (ServO.ext G5.out HST.out)
       clear G5
       have KB6 := Lib.hid (KB5.out.ext HST.out)
       clear KB5
       clear HST hx6
       clear pa0 pa1 pa2 pa3 pa4 pa5 pa6 la
       have pa0 := KA6.out.cell 0
       have pa1 := KA6.out.cell 1
       have pa2 := KA6.out.cell 2
       have pa3 := KA6.out.cell 3
       have pa4 := KA6.out.cell 4
       have pa5 := KA6.out.cell 5
       have pa6 := KA6.out.cell 6
       have la := KA6.out.lt
       have pb0 := KB6.out.cell 0
       have pb1 := KB6.out.cell 1
       have pb2 := KB6.out.cell 2
       have pb3 := KB6.out.cell 3
       have pb4 := KB6.out.cell 4
       have pb5 := KB6.out.cell 5
       have pb6 := KB6.out.cell 6
       have lb := KB6.out.lt)
    | (go_at_call 17; have _t := tok5; refine (HT.out _ E6.out).mono ?_; clear tok5 _t; rintro e w7 ⟨⟨u2, rfl, hu2⟩, hx7⟩
       have HST := Lib.hid hx7
       have U2 := Lib.hid (RulesO.read hu2)
       clear hu2
       have E7 := Lib.hid (E6.out.trans' HST.out)
       clear E6
       have B7 := Lib.hid (B6.out.ext HST.out)
       clear B6
       have KA7 := Lib.hid (KA6.out.ext HST.out)
       clear KA6
       have X7 := Lib.hid (SliceO.ext X6.out HST.out)
       clear X6
       have G7 := Lib.hid (ServO.ext G6.out HST.out)
       clear G6
       have KB7 := Lib.hid (KB6.out.ext HST.out)
       clear KB6
       clear HST hx7
       clear pa0 pa1 pa2 pa3 pa4 pa5 pa6 la pb0 pb1 pb2 pb3 pb4 pb5 pb6 lb
       have pa0 := KA7.out.cell 0
       have pa1 := KA7.out.cell 1
       have pa2 := KA7.out.cell 2
       have pa3 := KA7.out.cell 3
       have pa4 := KA7.out.cell 4
       have pa5 := KA7.out.cell 5
       have pa6 := KA7.out.cell 6
       have la := KA7.out.lt
       have pb0 := KB7.out.cell 0
       have pb1 := KB7.out.cell 1
       have pb2 := KB7.out.cell 2
       have pb3 := KB7.out.cell 3
       have pb4 := KB7.out.cell 4
       have pb5 := KB7.out.cell 5
       have pb6 := KB7.out.cell 6
       have lb := KB7.out.lt)
    | (go_at_call 20; refine (HER.out _ _ _ _ _ (RulesO.read X7.out) U2.out).mono ?_; rintro e w8 ⟨rfl, hx8⟩
       have HST := Lib.hid hx8
       clear U2
       have E8 := Lib.hid (E7.out.trans' HST.out)
       clear E7
       have B8 := Lib.hid (B7.out.ext HST.out)
       clear B7
       have KA8 := Lib.hid (KA7.out.ext HST.out)
       clear KA7
       have X8 := Lib.hid (SliceO.ext X7.out HST.out)
       clear X7
       have G8 := Lib.hid (ServO.ext G7.out HST.out)
       clear G7
       have KB8 := Lib.hid (KB7.out.ext HST.out)
       clear KB7
       clear HST hx8
       clear pa0 pa1 pa2 pa3 pa4 pa5 pa6 la pb0 pb1 pb2 pb3 pb4 pb5 pb6 lb
       have pa0 := KA8.out.cell 0
       have pa1 := KA8.out.cell 1
       have pa2 := KA8.out.cell 2
       have pa3 := KA8.out.cell 3
       have pa4 := KA8.out.cell 4
       have pa5 := KA8.out.cell 5
       have pa6 := KA8.out.cell 6
       have la := KA8.out.lt
       have pb0 := KB8.out.cell 0
       have pb1 := KB8.out.cell 1
       have pb2 := KB8.out.cell 2
       have pb3 := KB8.out.cell 3
       have pb4 := KB8.out.cell 4
       have pb5 := KB8.out.cell 5
       have pb6 := KB8.out.cell 6
       have lb := KB8.out.lt)
    | (go_at_call 21; refine (HMR.out _ _ _ X8.out).mono ?_; rintro e w9 ⟨rfl, hi9⟩
       obtain ⟨hn1, hn2, hn3⟩ := HN.out
       have E9 := Lib.hid (hi9.toExt E8.out (fun i (hT : w3.heap.size + 1 ≤ i ∧ i < w4.heap.size) => by omega))
       clear E8
       have B9 := Lib.hid (B8.out.imp (fun _ h => h) (fun i (hs : i < w3.heap.size) hlt => hi9.block i hlt (fun (hT : w3.heap.size + 1 ≤ i ∧ i < w4.heap.size) => by omega)) hi9.size)
       clear B8
       have KA9 := Lib.hid (hi9.blk KA8.out (fun hT => by have hT2 : w3.heap.size + 1 ≤ w3.heap.size ∧ w3.heap.size < w4.heap.size := hT; omega))
       clear KA8
       clear X8
       have G9 := Lib.hid (ServO.imp G8.out (fun _ h _ => h) (fun i (hs : w4.heap.size ≤ i ∧ i < w5.heap.size) hlt => hi9.block i hlt (fun (hT : w3.heap.size + 1 ≤ i ∧ i < w4.heap.size) => by omega)) hi9.size)
       clear G8
       have KB9 := Lib.hid (hi9.blk KB8.out (fun hT => by have hT2 : w3.heap.size + 1 ≤ w5.heap.size ∧ w5.heap.size < w4.heap.size := hT; omega))
       clear KB8
       clear hn1 hn2 hn3
       clear hi9
       clear pa0 pa1 pa2 pa3 pa4 pa5 pa6 la pb0 pb1 pb2 pb3 pb4 pb5 pb6 lb
       have pa0 := KA9.out.cell 0
       have pa1 := KA9.out.cell 1
       have pa2 := KA9.out.cell 2
       have pa3 := KA9.out.cell 3
       have pa4 := KA9.out.cell 4
       have pa5 := KA9.out.cell 5
       have pa6 := KA9.out.cell 6
       have la := KA9.out.lt
       have pb0 := KB9.out.cell 0
       have pb1 := KB9.out.cell 1
       have pb2 := KB9.out.cell 2
       have pb3 := KB9.out.cell 3
       have pb4 := KB9.out.cell 4
       have pb5 := KB9.out.cell 5
       have pb6 := KB9.out.cell 6
       have lb := KB9.out.lt)
    | (go_at_call 26; have _t := tok6; refine (HEQ.out _ _ _ _ _ (ServO.read G9.out) B9.out).mono ?_; clear tok6 _t; rintro e w10 ⟨rfl, hx10⟩
       have HST := Lib.hid hx10
       have E10 := Lib.hid (E9.out.trans' HST.out)
       clear E9
       have B10 := Lib.hid (B9.out.ext HST.out)
       clear B9
       have KA10 := Lib.hid (KA9.out.ext HST.out)
       clear KA9
       have G10 := Lib.hid (ServO.ext G9.out HST.out)
       clear G9
       have KB10 := Lib.hid (KB9.out.ext HST.out)
       clear KB9
       clear HST hx10
       clear pa0 pa1 pa2 pa3 pa4 pa5 pa6 la pb0 pb1 pb2 pb3 pb4 pb5 pb6 lb
       have pa0 := KA10.out.cell 0
       have pa1 := KA10.out.cell 1
       have pa2 := KA10.out.cell 2
       have pa3 := KA10.out.cell 3
       have pa4 := KA10.out.cell 4
       have pa5 := KA10.out.cell 5
       have pa6 := KA10.out.cell 6
       have la := KA10.out.lt
       have pb0 := KB10.out.cell 0
       have pb1 := KB10.out.cell 1
       have pb2 := KB10.out.cell 2
       have pb3 := KB10.out.cell 3
       have pb4 := KB10.out.cell 4
       have pb5 := KB10.out.cell 5
       have pb6 := KB10.out.cell 6
       have lb := KB10.out.lt)
    | (go_at_call 27; refine (HMB.out _ _ _ G10.out).mono ?_; rintro e w11 ⟨rfl, hg11, hi11⟩
       obtain ⟨hn1, hn2, hn3⟩ := HN.out
       have E11 := Lib.hid (hi11.toExt E10.out (fun i (hT : w4.heap.size ≤ i ∧ i < w5.heap.size) => by omega))
       clear E10
       have B11 := Lib.hid (B10.out.imp (fun _ h => h) (fun i (hs : i < w3.heap.size) hlt => hi11.block i hlt (fun (hT : w4.heap.size ≤ i ∧ i < w5.heap.size) => by omega)) hi11.size)
       clear B10
       have KA11 := Lib.hid (hi11.blk KA10.out (fun hT => by have hT2 : w4.heap.size ≤ w3.heap.size ∧ w3.heap.size < w5.heap.size := hT; omega))
       clear KA10
       have G11 := Lib.hid hg11
       clear G10
       have KB11 := Lib.hid (hi11.blk KB10.out (fun hT => by have hT2 : w4.heap.size ≤ w5.heap.size ∧ w5.heap.size < w5.heap.size := hT; omega))
       clear KB10
       clear hn1 hn2 hn3
       clear hi11 hg11
       clear pa0 pa1 pa2 pa3 pa4 pa5 pa6 la pb0 pb1 pb2 pb3 pb4 pb5 pb6 lb
       have pa0 := KA11.out.cell 0
       have pa1 := KA11.out.cell 1
       have pa2 := KA11.out.cell 2
       have pa3 := KA11.out.cell 3
       have pa4 := KA11.out.cell 4
       have pa5 := KA11.out.cell 5
       have pa6 := KA11.out.cell 6
       have la := KA11.out.lt
       have pb0 := KB11.out.cell 0
       have pb1 := KB11.out.cell 1
       have pb2 := KB11.out.cell 2
       have pb3 := KB11.out.cell 3
       have pb4 := KB11.out.cell 4
       have pb5 := KB11.out.cell 5
       have pb6 := KB11.out.cell 6
       have lb := KB11.out.lt)
    | (go_at_call 28; have _t := tok7; refine (HHB.out _ _ _ (ServO.read G11.out)).mono ?_; clear tok7 _t; rintro e w12 ⟨rfl, hx12⟩
       have HST := Lib.hid hx12
       have E12 := Lib.hid (E11.out.trans' HST.out)
       clear E11
       have B12 := Lib.hid (B11.out.ext HST.out)
       clear B11
       have KA12 := Lib.hid (KA11.out.ext HST.out)
       clear KA11
       have G12 := Lib.hid (ServO.ext G11.out HST.out)
       clear G11
       have KB12 := Lib.hid (KB11.out.ext HST.out)
       clear KB11
       clear HST hx12
       clear pa0 pa1 pa2 pa3 pa4 pa5 pa6 la pb0 pb1 pb2 pb3 pb4 pb5 pb6 lb
       have pa0 := KA12.out.cell 0
       have pa1 := KA12.out.cell 1
       have pa2 := KA12.out.cell 2
       have pa3 := KA12.out.cell 3
       have pa4 := KA12.out.cell 4
       have pa5 := KA12.out.cell 5
       have pa6 := KA12.out.cell 6
       have la := KA12.out.lt
       have pb0 := KB12.out.cell 0
       have pb1 := KB12.out.cell 1
       have pb2 := KB12.out.cell 2
       have pb3 := KB12.out.cell 3
       have pb4 := KB12.out.cell 4
       have pb5 := KB12.out.cell 5
       have pb6 := KB12.out.cell 6
       have lb := KB12.out.lt)
    | (go_at_call 17; refine (HT.out _ E12.out).mono ?_; rintro e w13 ⟨⟨u3, rfl, hu3⟩, hx13⟩
       have HST := Lib.hid hx13
       have U3 := Lib.hid (RulesO.read hu3)
       clear hu3
       have E13 := Lib.hid (E12.out.trans' HST.out)
       clear E12
       have B13 := Lib.hid (B12.out.ext HST.out)
       clear B12
       have KA13 := Lib.hid (KA12.out.ext HST.out)
       clear KA12
       have G13 := Lib.hid (ServO.ext G12.out HST.out)
       clear G12
       have KB13 := Lib.hid (KB12.out.ext HST.out)
       clear KB12
       clear HST hx13
       clear pa0 pa1 pa2 pa3 pa4 pa5 pa6 la pb0 pb1 pb2 pb3 pb4 pb5 pb6 lb
       have pa0 := KA13.out.cell 0
       have pa1 := KA13.out.cell 1
       have pa2 := KA13.out.cell 2
       have pa3 := KA13.out.cell 3
       have pa4 := KA13.out.cell 4
       have pa5 := KA13.out.cell 5
       have pa6 := KA13.out.cell 6
       have la := KA13.out.lt
       have pb0 := KB13.out.cell 0
       have pb1 := KB13.out.cell 1
       have pb2 := KB13.out.cell 2
       have pb3 := KB13.out.cell 3
       have pb4 := KB13.out.cell 4
       have pb5 := KB13.out.cell 5
       have pb6 := KB13.out.cell 6
       have lb := KB13.out.lt)
    | (go_at_call 25; refine (HI.out _ _ _ E13.out U3.out).mono ?_; rintro e w14 ⟨⟨h0, rfl, hh0⟩, hx14⟩
       obtain ⟨cv1, cvc1, cv2, cvc2, cv3, cvc3, rfl⟩ := ServR.form (ServO.read hh0)
       have HST := Lib.hid (hx14.alloc (.cells #[.slice cv1 B.rules.length cvc1, .int .i64 B.time, .slice cv2 B.given.length cvc2, .slice cv3 B.hist.length cvc3, .string ⟨#[]⟩, .slice none 0 0, .slice none 0 0] 50))
       have H14 := Lib.hid (ServR.ext (ServO.read hh0) ((Ext.refl w14).alloc (.cells #[.slice cv1 B.rules.length cvc1, .int .i64 B.time, .slice cv2 B.given.length cvc2, .slice cv3 B.hist.length cvc3, .string ⟨#[]⟩, .slice none 0 0, .slice none 0 0] 50)))
       have E14 := Lib.hid (E13.out.trans' HST.out)
       clear E13
       have B14 := Lib.hid (B13.out.ext HST.out)
       clear B13
       have KA14 := Lib.hid (KA13.out.ext HST.out)
       clear KA13
       have G14 := Lib.hid (ServO.ext G13.out HST.out)
       clear G13
       have KB14 := Lib.hid (KB13.out.ext HST.out)
       clear KB13
       clear HST hx14 hh0 U3
       clear pa0 pa1 pa2 pa3 pa4 pa5 pa6 la pb0 pb1 pb2 pb3 pb4 pb5 pb6 lb
       have pa0 := KA14.out.cell 0
       have pa1 := KA14.out.cell 1
       have pa2 := KA14.out.cell 2
       have pa3 := KA14.out.cell 3
       have pa4 := KA14.out.cell 4
       have pa5 := KA14.out.cell 5
       have pa6 := KA14.out.cell 6
       have la := KA14.out.lt
       have pb0 := KB14.out.cell 0
       have pb1 := KB14.out.cell 1
       have pb2 := KB14.out.cell 2
       have pb3 := KB14.out.cell 3
       have pb4 := KB14.out.cell 4
       have pb5 := KB14.out.cell 5
       have pb6 := KB14.out.cell 6
       have lb := KB14.out.lt)
    | (go_at_call 26; refine (HEQ.out _ _ _ _ _ H14.out B14.out).mono ?_; rintro e w15 ⟨rfl, hx15⟩
       have HST := Lib.hid hx15
       clear H14
       have E15 := Lib.hid (E14.out.trans' HST.out)
       clear E14
       have B15 := Lib.hid (B14.out.ext HST.out)
       clear B14
       have KA15 := Lib.hid (KA14.out.ext HST.out)
       clear KA14
       have G15 := Lib.hid (ServO.ext G14.out HST.out)
       clear G14
       have KB15 := Lib.hid (KB14.out.ext HST.out)
       clear KB14
       clear HST hx15
       clear pa0 pa1 pa2 pa3 pa4 pa5 pa6 la pb0 pb1 pb2 pb3 pb4 pb5 pb6 lb
       have pa0 := KA15.out.cell 0
       have pa1 := KA15.out.cell 1
       have pa2 := KA15.out.cell 2
       have pa3 := KA15.out.cell 3
       have pa4 := KA15.out.cell 4
       have pa5 := KA15.out.cell 5
       have pa6 := KA15.out.cell 6
       have la := KA15.out.lt
       have pb0 := KB15.out.cell 0
       have pb1 := KB15.out.cell 1
       have pb2 := KB15.out.cell 2
       have pb3 := KB15.out.cell 3
       have pb4 := KB15.out.cell 4
       have pb5 := KB15.out.cell 5
       have pb6 := KB15.out.cell 6
       have lb := KB15.out.lt)
    | (go_at_call 28; refine (HHB.out _ _ _ (ServO.read G15.out)).mono ?_; rintro e w16 ⟨rfl, hx16⟩
       have E16 := Lib.hid (E15.out.trans' hx16)
       clear hx16))
  go_ret
  exact ⟨rfl, E16.out⟩

end Go.Proofs.YthndnkafckapnaaGreatDoor
