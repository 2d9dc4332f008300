/- Proved here, for all inputs and without conditions: the given statement of the law FnExactTxnBegin. -/
import Derived.Test.YthdojieomhighaaGreatDoorCas34
import Derived.Test.YthdojieomhighaaGreatDoorCas21
import Derived.Test.YthdojieomhighaaGreatDoorCas22
import Derived.Test.YthdojieomhighaaGreatDoorCas32
import Derived.Test.YthdojieomhighaaGreatDoorCas18
import Derived.Test.YthdojieomhighaaGreatDoorCas30
import Derived.Test.YthdojieomhighaaGreatDoorCas33
import Derived.Test.YthdojieomhighaaGreatDoorCas06
import Derived.Test.YthdojieomhighaaGreatDoorEtb02
import Derived.Deep.RegionHeld3
import Derived.Test.YthdojieomhighaaGreatDoorRows
import Derived.Test.YthdojieomhighaaGreatDoorCas01
import Derived.ProofKit
import Derived.ChangeSame
import Derived.WideKeyArgs
import Derived.Test.YthdojieomhighaaGreatDoorCards
import Derived.Test.YthdojieomhighaaGreatDoorCas03
import Derived.Test.YthdojieomhighaaGreatDoorEtb01
import Derived.Lib.SmallJoins
import Derived.Test.YthdojieomhighaaGreatDoorTie
import Derived.ChangeVars
import Derived.JoinedOf
import Derived.LaidLaws
import Derived.LaidHandle
import Derived.LaidMore
import Derived.OpenShut
import Derived.MakeChecks
import Derived.Stop.Joined
set_option linter.unusedSimpArgs false
set_option linter.unusedVariables false
set_option maxHeartbeats 16000000
set_option maxRecDepth 100000
namespace Go.Proofs.YthdojieomhighaaGreatDoor
open Go.RowKit
theorem exactTxnBegin_any (B:GB) (v:Value) (w:World) {S:Nat→Prop} (hv:BaseR S w v B) (he:ErrIs w) :
  Calls Tryz.prog 6 #[v] w fun e w'=>e=.returned (.bool true)∧Ext w w':=by
 obtain⟨a1,ac1,a2,ac2,a3,ac3,rfl⟩:=BaseR.form hv;have hx0:=(Ext.refl w).alloc (.cells #[.slice a1 B.rules.length ac1,.int .i64 B.time,.slice a2 B.given.length ac2,.slice a3 B.hist.length ac3] 26);have KAZ:=zh (Blk.new w 26 #[.slice a1 B.rules.length ac1,.int .i64 B.time,.slice a2 B.given.length ac2,.slice a3 B.hist.length ac3]);have HV:=zh (BaseR.ext hv hx0);have HE:=zh (he.ext hx0);have HX0:=zh hx0;obtain⟨hs1,hs2⟩:=jbw (jj0 B _ 1048576 _ ⟨by omega,by omega⟩ HV.out);clear hv he hx0;by_cases hbig:(1048576:Int)<wBase B
 · have HSZ:=zh (hs1 hbig)
   clear hs1 hs2 hbig
   go_enter Tryz.func6,Tryz.ntmps6;go_wp2_with (go_at_call 8;refine HSZ.out.mono ?_;rintro e w1 ⟨rfl,hx1⟩)
   go_ret;exact⟨rfl,HX0.out.trans' hx1⟩
 have hfew:wBase B≤1048576:=by omega
 have HSZ:=zh (hs2 (by omega));have EZ:=zh (Ext.refl (w.alloc (.cells #[.slice a1 B.rules.length ac1,.int .i64 B.time,.slice a2 B.given.length ac2,.slice a3 B.hist.length ac3] 26)));have hcA:1+costB B≤100000000:=by have:=costB_le B;omega
 obtain⟨T,hRV⟩:∃ r,r=beginL B:=⟨_,rfl⟩
 have hcR:1+costC T.change≤100000000:=by rw[hRV,beginL_cost];omega
 obtain⟨K,hK⟩:∃ K,K=1+costC T.change:=⟨_,rfl⟩
 obtain⟨KR,hKR⟩:∃ K,K=1+costB B:=⟨_,rfl⟩
 obtain⟨lft,hlft⟩:∃ q:Int,q=1048576-(wBase B:Int):=⟨_,rfl⟩
 have hlf0:0≤lft:=by omega
 have hlf1:lft≤1048576:=by omega
 rw[← hlft] at HSZ;have hK1:1≤K:=by omega
 have hK2:K≤100000000:=by omega
 have hKR1:1≤KR:=by omega
 have hKR2:KR≤100000000:=by omega
 have HT:=zh (fun (W:World) (hW:Ext (w.alloc (.cells #[.slice a1 B.rules.length ac1,.int .i64 B.time,.slice a2 B.given.length ac2,.slice a3 B.hist.length ac3] 26)) W)=>show Calls Tryz.prog 10 #[.agg #[.slice a1 B.rules.length ac1,.int .i64 B.time,.slice a2 B.given.length ac2,.slice a3 B.hist.length ac3]] W fun e w'=>(∃ u,e=.returned u∧BaseO (From W.heap.size) w' u B)∧Ext W w' from jj1 B _ W (BaseR.ext HV.out hW) hfew);have HS:=zh (fun (u:Value) (W:World) (Z:Nat→Prop) (hu:BaseR Z W u B)=>show Calls Tryz.prog 28 #[u] W fun e w'=>(∃ b,e=.returned (b)∧TxnR Any w' b T)∧Ext W w' from by rw[hRV];exact specTxnBegin_any B u W hu);have HI:=zh (fun (u:Value) (W:World) (Z:Nat→Prop) (hW:Ext (w.alloc (.cells #[.slice a1 B.rules.length ac1,.int .i64 B.time,.slice a2 B.given.length ac2,.slice a3 B.hist.length ac3] 26)) W) (hu:BaseR Z W u B)=>show Calls Tryz.prog 29 #[u] W fun e w'=>(∃ b,e=.returned (b)∧TxnO (From W.heap.size) w' b T)∧Ext W w' from by rw[hRV];exact implTxnBegin_any B u W hu (HE.out.ext hW))
 have HMR:=zh (fun (u:Value) (W:World) (Z:Nat→Prop) (hu:BaseO Z W u B)=>show Calls Tryz.prog 31 #[u,.int .i64 1] W fun e w'=>e=.returned (.int .i64 KR)∧jab Z W w' from
  (markBase_any B u 1 W hu (Nat.le_refl _) (by omega)).mono fun e w' ⟨⟨q,hq,he⟩,h⟩=>⟨by rw[he,hq,hKR],h.2⟩)
 have HMB:=zh (fun (u:Value) (W:World) (Z:Nat→Prop) (hu:TxnO Z W u T)=>show Calls Tryz.prog 32 #[u,.int .i64 1] W fun e w'=>e=.returned (.int .i64 K)∧TxnO Z w' u (mTxn 1 T)∧jab Z W w' from
  (markTxn_any T u 1 W hu (Nat.le_refl _) (by omega)).mono fun e w' ⟨⟨q,hq,he⟩,h⟩=>⟨by rw[he,hq,hK],h⟩)
 have HHB:=zh (fun (u:Value) (W:World) (Z:Nat→Prop) (hu:TxnR Z W u (mTxn 1 T))=>show Calls Tryz.prog 33 #[u,.int .i64 1] W fun e w'=>e=.returned (.int .i64 K)∧Ext W w' from
  (heldTxn_any T u 1 W hu (Nat.le_refl _) (by omega)).mono fun e w' ⟨⟨q,hq,he⟩,h⟩=>⟨by rw[he,hq,hK],h⟩)
 have HEQ:=zh (fun (u u':Value) (W:World) (Z Z':Nat→Prop) (h1:TxnR Z W u T) (h2:TxnR Z' W u' T)=>eqTxn_same T u u' W h1 h2);have HEA:=zh (fun (u u':Value) (W:World) (Z Z':Nat→Prop) (h1:BaseR Z W u B) (h2:BaseR Z' W u' B)=>jhw B u u' W h1 h2);have tok1:True:=trivial;have tok2:True:=trivial;have tok3:True:=trivial;have tok4:True:=trivial;have tok5:True:=trivial;have tok6:True:=trivial;have tok7:True:=trivial;have tok8:True:=trivial;have tok9:True:=trivial;have tok10:True:=trivial;have tok11:True:=trivial;have tok12:True:=trivial;have tok13:True:=trivial;have tok14:True:=trivial;clear HE hs1 hs2 hbig hfew hcA hcR hRV hK hKR hlft
 go_enter Tryz.func6,Tryz.ntmps6
 go_wp2_with (first
  | (go_at_call 8;have _t:=tok1;refine (HSZ.out).mono ?_;clear tok1 _t;rintro e w1 ⟨rfl,hx1⟩
     have HST:=zh hx1;have E1:=zh (EZ.out.trans' HST.out);clear EZ;have KA1:=zh (KAZ.out.ext HST.out);clear KAZ;clear HST hx1;have pa0:=KA1.out.cell 0;have pa1:=KA1.out.cell 1;have pa2:=KA1.out.cell 2;have pa3:=KA1.out.cell 3;have la:=KA1.out.lt)
  | (go_at_call 10;have _t:=tok2;refine (HT.out _ E1.out).mono ?_;clear tok2 _t;rintro e w2 ⟨⟨u1,rfl,hu1⟩,hx2⟩
     have HST:=zh hx2;have U1:=zh (BaseO.read hu1);clear pa0 pa1 pa2 pa3 la;have E2:=zh (E1.out.trans' HST.out);clear E1;have KA2:=zh (KA1.out.ext HST.out);clear KA1;clear HST hx2 hu1)
  | (go_at_call 28;have _t:=tok3;refine (HS.out _ _ _ U1.out).mono ?_;clear tok3 _t;rintro e w3 ⟨⟨b0,rfl,hb0⟩,hx3⟩
     have HN0:=zh (show w.heap.size+1≤w3.heap.size from by have h:=(E2.out.trans' hx3).size;rwa [World.size_alloc] at h);obtain⟨s1,sc1,s2,sc2,rfl⟩:=TxnR.form hb0;have HST:=zh (hx3.alloc (.cells #[.int .i64 T.from_,.slice s1 T.change.comes.length sc1,.slice s2 T.change.goes.length sc2] 71));have B3:=zh (TxnR.ext (TxnR.low hb0) ((Ext.refl w3).alloc (.cells #[.int .i64 T.from_,.slice s1 T.change.comes.length sc1,.slice s2 T.change.goes.length sc2] 71)));have KW3:=zh (Blk.new w3 71 #[.int .i64 T.from_,.slice s1 T.change.comes.length sc1,.slice s2 T.change.goes.length sc2]);have E3:=zh (E2.out.trans' HST.out);clear E2;have KA3:=zh (KA2.out.ext HST.out);clear KA2;clear HST hx3 hb0 U1;have pa0:=KA3.out.cell 0;have pa1:=KA3.out.cell 1;have pa2:=KA3.out.cell 2;have pa3:=KA3.out.cell 3;have la:=KA3.out.lt)
  | (go_at_call 10;have _t:=tok4;refine (HT.out _ E3.out).mono ?_;clear tok4 _t;rintro e w4 ⟨⟨x0,rfl,hx0⟩,hx4⟩
     have HN1:=zh (show w3.heap.size+1≤w4.heap.size from by have h:=hx4.size;rwa [World.size_alloc] at h);obtain⟨x1,xc1,x2,xc2,x3,xc3,rfl⟩:=BaseR.form (BaseO.read hx0);have HST:=zh (hx4.alloc (.cells #[.slice x1 B.rules.length xc1,.int .i64 B.time,.slice x2 B.given.length xc2,.slice x3 B.hist.length xc3] 33));have X4:=zh (BaseO.ext (BaseO.imp hx0 (S':=fun i=>w3.heap.size+1≤i∧i<w4.heap.size) (fun i (h:_≤i) k=>⟨by rwa [World.size_alloc] at h,k⟩) (.refl _ _) (Nat.le_refl _)) ((Ext.refl w4).alloc (.cells #[.slice x1 B.rules.length xc1,.int .i64 B.time,.slice x2 B.given.length xc2,.slice x3 B.hist.length xc3] 33)));have KX4:=zh (Blk.new w4 33 #[.slice x1 B.rules.length xc1,.int .i64 B.time,.slice x2 B.given.length xc2,.slice x3 B.hist.length xc3]);clear pa0 pa1 pa2 pa3 la;have E4:=zh (E3.out.trans' HST.out);clear E3;have KA4:=zh (KA3.out.ext HST.out);clear KA3;have B4:=zh (TxnR.ext B3.out HST.out);clear B3;have KW4:=zh (KW3.out.ext HST.out);clear KW3;clear HST hx4 hx0)
  | (go_at_call 29;have _t:=tok5;refine (HI.out _ _ _ E4.out (BaseO.read X4.out)).mono ?_;clear tok5 _t;rintro e w5 ⟨⟨g0,rfl,hg0⟩,hx5⟩
     have HN2:=zh (show w4.heap.size+1≤w5.heap.size from by have h:=hx5.size;rwa [World.size_alloc] at h);obtain⟨g1,gc1,g2,gc2,rfl⟩:=TxnR.form (TxnO.read hg0);have HST:=zh (hx5.alloc (.cells #[.int .i64 T.from_,.slice g1 T.change.comes.length gc1,.slice g2 T.change.goes.length gc2] 71));have G5:=zh (TxnO.ext (TxnO.imp hg0 (S':=fun i=>w4.heap.size+1≤i∧i<w5.heap.size) (fun i (h:_≤i) k=>⟨by rwa [World.size_alloc] at h,k⟩) (.refl _ _) (Nat.le_refl _)) ((Ext.refl w5).alloc (.cells #[.int .i64 T.from_,.slice g1 T.change.comes.length gc1,.slice g2 T.change.goes.length gc2] 71)));have KG5:=zh (Blk.new w5 71 #[.int .i64 T.from_,.slice g1 T.change.comes.length gc1,.slice g2 T.change.goes.length gc2]);have HN:=zh (And.intro HN0.out (And.intro HN1.out HN2.out));have E5:=zh (E4.out.trans' HST.out);clear E4;have KA5:=zh (KA4.out.ext HST.out);clear KA4;have B5:=zh (TxnR.ext B4.out HST.out);clear B4;have KW5:=zh (KW4.out.ext HST.out);clear KW4;have X5:=zh (BaseO.ext X4.out HST.out);clear X4;have KX5:=zh (KX4.out.ext HST.out);clear KX4;clear HST hx5 hg0 HN0 HN1 HN2;have pw0:=KW5.out.cell 0;have pw1:=KW5.out.cell 1;have pw2:=KW5.out.cell 2;have lw:=KW5.out.lt)
  | (go_at_call 30;have _t:=tok6;refine (HEQ.out _ _ _ _ _ (TxnO.read G5.out) B5.out).mono ?_;clear tok6 _t;rintro e w6 ⟨rfl,hx6⟩
     have HST:=zh hx6;clear pw0 pw1 pw2 lw;have E6:=zh (E5.out.trans' HST.out);clear E5;have KA6:=zh (KA5.out.ext HST.out);clear KA5;have B6:=zh (TxnR.ext B5.out HST.out);clear B5;have KW6:=zh (KW5.out.ext HST.out);clear KW5;have X6:=zh (BaseO.ext X5.out HST.out);clear X5;have KX6:=zh (KX5.out.ext HST.out);clear KX5;have G6:=zh (TxnO.ext G5.out HST.out);clear G5;have KG6:=zh (KG5.out.ext HST.out);clear KG5;clear HST hx6;have pa0:=KA6.out.cell 0;have pa1:=KA6.out.cell 1;have pa2:=KA6.out.cell 2;have pa3:=KA6.out.cell 3;have la:=KA6.out.lt;have px0:=KX6.out.cell 0;have px1:=KX6.out.cell 1;have px2:=KX6.out.cell 2;have px3:=KX6.out.cell 3;have lx:=KX6.out.lt))
 go_region_held3 (fun w'=>w'.cell? ⟨w.heap.size,0,none⟩=some (.slice a1 B.rules.length ac1)∧w'.cell? ⟨w.heap.size,1,none⟩=some (.int .i64 B.time)∧w'.cell? ⟨w.heap.size,2,none⟩=some (.slice a2 B.given.length ac2)∧w'.cell? ⟨w.heap.size,3,none⟩=some (.slice a3 B.hist.length ac3)∧w'.cell? ⟨w4.heap.size,0,none⟩=some (.slice x1 B.rules.length xc1)∧w'.cell? ⟨w4.heap.size,1,none⟩=some (.int .i64 B.time)∧w'.cell? ⟨w4.heap.size,2,none⟩=some (.slice x2 B.given.length xc2)∧w'.cell? ⟨w4.heap.size,3,none⟩=some (.slice x3 B.hist.length xc3))
  (first|exact⟨pa0,pa1,pa2,pa3,px0,px1,px2,px3⟩|exact⟨sa0,sa1,sa2,sa3,sa4,sa5,sa6,sa7⟩|exact⟨ta0,ta1,ta2,ta3,ta4,ta5,ta6,ta7⟩)
  (first
   | (go_at_call 10;refine (HT.out _ E6.out.drew).mono ?_;rintro e w7 ⟨⟨u2,rfl,hu2⟩,hx7⟩
      have U2:=zh (BaseO.read hu2);have HX7:=zh hx7;have sa0:=(KeepR.of_ext (R:=Any) hx7).cell trivial pa0;have sa1:=(KeepR.of_ext (R:=Any) hx7).cell trivial pa1;have sa2:=(KeepR.of_ext (R:=Any) hx7).cell trivial pa2;have sa3:=(KeepR.of_ext (R:=Any) hx7).cell trivial pa3;have sa4:=(KeepR.of_ext (R:=Any) hx7).cell trivial px0;have sa5:=(KeepR.of_ext (R:=Any) hx7).cell trivial px1;have sa6:=(KeepR.of_ext (R:=Any) hx7).cell trivial px2;have sa7:=(KeepR.of_ext (R:=Any) hx7).cell trivial px3;clear hu2 hx7)
   | (go_at_call 12;refine (HEA.out _ _ _ _ _ (BaseO.read (BaseO.ext X6.out ((Ext.refl w6).drew.trans' HX7.out))) U2.out).mono ?_;rintro e w8 ⟨rfl,hx8⟩
      have HX8:=zh hx8;have ta0:=(KeepR.of_ext (R:=Any) hx8).cell trivial sa0;have ta1:=(KeepR.of_ext (R:=Any) hx8).cell trivial sa1;have ta2:=(KeepR.of_ext (R:=Any) hx8).cell trivial sa2;have ta3:=(KeepR.of_ext (R:=Any) hx8).cell trivial sa3;have ta4:=(KeepR.of_ext (R:=Any) hx8).cell trivial sa4;have ta5:=(KeepR.of_ext (R:=Any) hx8).cell trivial sa5;have ta6:=(KeepR.of_ext (R:=Any) hx8).cell trivial sa6;have ta7:=(KeepR.of_ext (R:=Any) hx8).cell trivial sa7))
 have HST:=zh ((Ext.refl w6).drew.trans' (HX7.out.trans' HX8.out));clear pa0 pa1 pa2 pa3 la px0 px1 px2 px3 lx;clear sa0 sa1 sa2 sa3 sa4 sa5 sa6 sa7 ta0 ta1 ta2 ta3 ta4 ta5 ta6 ta7;have E8:=zh (E6.out.trans' HST.out);clear E6;have KA8:=zh (KA6.out.ext HST.out);clear KA6;have B8:=zh (TxnR.ext B6.out HST.out);clear B6;have KW8:=zh (KW6.out.ext HST.out);clear KW6;have X8:=zh (BaseO.ext X6.out HST.out);clear X6;have KX8:=zh (KX6.out.ext HST.out);clear KX6;have G8:=zh (TxnO.ext G6.out HST.out);clear G6;have KG8:=zh (KG6.out.ext HST.out);clear KG6;clear HST HX7 HX8 hx8 U2;have px0:=KX8.out.cell 0;have px1:=KX8.out.cell 1;have px2:=KX8.out.cell 2;have px3:=KX8.out.cell 3;have lx:=KX8.out.lt
 go_wp2_with (first
  | (go_at_call 31;have _t:=tok7;refine (HMR.out _ _ _ X8.out).mono ?_;clear tok7 _t;rintro e w9 ⟨rfl,hi9⟩
     clear px0 px1 px2 px3 lx;obtain⟨hn1,hn2,hn3⟩:=HN.out;have E9:=zh (hi9.toExt E8.out (fun i (hT:w3.heap.size+1≤i∧i<w4.heap.size)=>by simp only[World.size_alloc];omega));clear E8;have KA9:=zh (hi9.blk KA8.out (fun hT=>by have hT2:w3.heap.size+1≤w.heap.size∧w.heap.size<w4.heap.size:=hT;omega));clear KA8;have B9:=zh (TxnR.imp B8.out (fun _ h=>h) (fun i (hs:i<w3.heap.size) hlt=>hi9.block i hlt (fun (hT:w3.heap.size+1≤i∧i<w4.heap.size)=>by omega)) hi9.size);clear B8;have KW9:=zh (hi9.blk KW8.out (fun hT=>by have hT2:w3.heap.size+1≤w3.heap.size∧w3.heap.size<w4.heap.size:=hT;omega));clear KW8;clear X8;have KX9:=zh (hi9.blk KX8.out (fun hT=>by have hT2:w3.heap.size+1≤w4.heap.size∧w4.heap.size<w4.heap.size:=hT;omega));clear KX8;have G9:=zh (TxnO.imp G8.out (fun _ h _=>h) (fun i (hs:w4.heap.size+1≤i∧i<w5.heap.size) hlt=>hi9.block i hlt (fun (hT:w3.heap.size+1≤i∧i<w4.heap.size)=>by omega)) hi9.size);clear G8;have KG9:=zh (hi9.blk KG8.out (fun hT=>by have hT2:w3.heap.size+1≤w5.heap.size∧w5.heap.size<w4.heap.size:=hT;omega));clear KG8;clear hn1 hn2 hn3;clear hi9;have pg0:=KG9.out.cell 0;have pg1:=KG9.out.cell 1;have pg2:=KG9.out.cell 2;have lg:=KG9.out.lt;have pw0:=KW9.out.cell 0;have pw1:=KW9.out.cell 1;have pw2:=KW9.out.cell 2;have lw:=KW9.out.lt)
  | (go_at_call 30;have _t:=tok8;refine (HEQ.out _ _ _ _ _ (TxnO.read G9.out) B9.out).mono ?_;clear tok8 _t;rintro e w10 ⟨rfl,hx10⟩
     have HST:=zh hx10;clear pg0 pg1 pg2 lg pw0 pw1 pw2 lw;have E10:=zh (E9.out.trans' HST.out);clear E9;have KA10:=zh (KA9.out.ext HST.out);clear KA9;have B10:=zh (TxnR.ext B9.out HST.out);clear B9;have KW10:=zh (KW9.out.ext HST.out);clear KW9;have KX10:=zh (KX9.out.ext HST.out);clear KX9;have G10:=zh (TxnO.ext G9.out HST.out);clear G9;have KG10:=zh (KG9.out.ext HST.out);clear KG9;clear HST hx10;have pg0:=KG10.out.cell 0;have pg1:=KG10.out.cell 1;have pg2:=KG10.out.cell 2;have lg:=KG10.out.lt)
  | (go_at_call 32;have _t:=tok9;refine (HMB.out _ _ _ G10.out).mono ?_;clear tok9 _t;rintro e w11 ⟨rfl,hg11,hi11⟩
     clear pg0 pg1 pg2 lg;obtain⟨hn1,hn2,hn3⟩:=HN.out;have E11:=zh (hi11.toExt E10.out (fun i (hT:w4.heap.size+1≤i∧i<w5.heap.size)=>by simp only[World.size_alloc];omega));clear E10;have KA11:=zh (hi11.blk KA10.out (fun hT=>by have hT2:w4.heap.size+1≤w.heap.size∧w.heap.size<w5.heap.size:=hT;omega));clear KA10;have B11:=zh (TxnR.imp B10.out (fun _ h=>h) (fun i (hs:i<w3.heap.size) hlt=>hi11.block i hlt (fun (hT:w4.heap.size+1≤i∧i<w5.heap.size)=>by omega)) hi11.size);clear B10;have KW11:=zh (hi11.blk KW10.out (fun hT=>by have hT2:w4.heap.size+1≤w3.heap.size∧w3.heap.size<w5.heap.size:=hT;omega));clear KW10;have KX11:=zh (hi11.blk KX10.out (fun hT=>by have hT2:w4.heap.size+1≤w4.heap.size∧w4.heap.size<w5.heap.size:=hT;omega));clear KX10;have G11:=zh hg11;clear G10;have KG11:=zh (hi11.blk KG10.out (fun hT=>by have hT2:w4.heap.size+1≤w5.heap.size∧w5.heap.size<w5.heap.size:=hT;omega));clear KG10;clear hn1 hn2 hn3;clear hi11 hg11;have pg0:=KG11.out.cell 0;have pg1:=KG11.out.cell 1;have pg2:=KG11.out.cell 2;have lg:=KG11.out.lt)
  | (go_at_call 33;have _t:=tok10;refine (HHB.out _ _ _ (TxnO.read G11.out)).mono ?_;clear tok10 _t;rintro e w12 ⟨rfl,hx12⟩
     have HST:=zh hx12;clear pg0 pg1 pg2 lg;have E12:=zh (E11.out.trans' HST.out);clear E11;have KA12:=zh (KA11.out.ext HST.out);clear KA11;have B12:=zh (TxnR.ext B11.out HST.out);clear B11;have KW12:=zh (KW11.out.ext HST.out);clear KW11;have KX12:=zh (KX11.out.ext HST.out);clear KX11;have G12:=zh (TxnO.ext G11.out HST.out);clear G11;have KG12:=zh (KG11.out.ext HST.out);clear KG11;clear HST hx12;have pa0:=KA12.out.cell 0;have pa1:=KA12.out.cell 1;have pa2:=KA12.out.cell 2;have pa3:=KA12.out.cell 3;have la:=KA12.out.lt)
  | (go_at_call 10;have _t:=tok11;refine (HT.out _ E12.out).mono ?_;clear tok11 _t;rintro e w13 ⟨⟨u3,rfl,hu3⟩,hx13⟩
     have HST:=zh hx13;have U3:=zh (BaseO.read hu3);clear hu3;clear pa0 pa1 pa2 pa3 la;have E13:=zh (E12.out.trans' HST.out);clear E12;have KA13:=zh (KA12.out.ext HST.out);clear KA12;have B13:=zh (TxnR.ext B12.out HST.out);clear B12;have KW13:=zh (KW12.out.ext HST.out);clear KW12;have KX13:=zh (KX12.out.ext HST.out);clear KX12;have G13:=zh (TxnO.ext G12.out HST.out);clear G12;have KG13:=zh (KG12.out.ext HST.out);clear KG12;clear HST hx13)
  | (go_at_call 29;have _t:=tok12;refine (HI.out _ _ _ E13.out U3.out).mono ?_;clear tok12 _t;rintro e w14 ⟨⟨h0,rfl,hh0⟩,hx14⟩
     obtain⟨h1,hc1,h2,hc2,rfl⟩:=TxnR.form (TxnO.read hh0);have HST:=zh (hx14.alloc (.cells #[.int .i64 T.from_,.slice h1 T.change.comes.length hc1,.slice h2 T.change.goes.length hc2] 71));have H14:=zh (TxnR.ext (TxnO.read hh0) ((Ext.refl w14).alloc (.cells #[.int .i64 T.from_,.slice h1 T.change.comes.length hc1,.slice h2 T.change.goes.length hc2] 71)));have E14:=zh (E13.out.trans' HST.out);clear E13;have KA14:=zh (KA13.out.ext HST.out);clear KA13;have B14:=zh (TxnR.ext B13.out HST.out);clear B13;have KW14:=zh (KW13.out.ext HST.out);clear KW13;have KX14:=zh (KX13.out.ext HST.out);clear KX13;have G14:=zh (TxnO.ext G13.out HST.out);clear G13;have KG14:=zh (KG13.out.ext HST.out);clear KG13;clear HST hx14 hh0 U3;have pw0:=KW14.out.cell 0;have pw1:=KW14.out.cell 1;have pw2:=KW14.out.cell 2;have lw:=KW14.out.lt)
  | (go_at_call 30;have _t:=tok13;refine (HEQ.out _ _ _ _ _ H14.out B14.out).mono ?_;clear tok13 _t;rintro e w15 ⟨rfl,hx15⟩
     have HST:=zh hx15;clear H14;clear pw0 pw1 pw2 lw;have E15:=zh (E14.out.trans' HST.out);clear E14;have KA15:=zh (KA14.out.ext HST.out);clear KA14;have B15:=zh (TxnR.ext B14.out HST.out);clear B14;have KW15:=zh (KW14.out.ext HST.out);clear KW14;have KX15:=zh (KX14.out.ext HST.out);clear KX14;have G15:=zh (TxnO.ext G14.out HST.out);clear G14;have KG15:=zh (KG14.out.ext HST.out);clear KG14;clear HST hx15;have pg0:=KG15.out.cell 0;have pg1:=KG15.out.cell 1;have pg2:=KG15.out.cell 2;have lg:=KG15.out.lt)
  | (go_at_call 33;have _t:=tok14;refine (HHB.out _ _ _ (TxnO.read G15.out)).mono ?_;clear tok14 _t;rintro e w16 ⟨rfl,hx16⟩
     have E16:=zh (E15.out.trans' hx16);clear hx16))
 go_ret;exact⟨rfl,HX0.out.trans' E16.out⟩
end Go.Proofs.YthdojieomhighaaGreatDoor
namespace Go.Proofs.YthdojieomhighaaGreatDoor
open Go.RowKit Go.ChangeShapes Go.WideShapes
theorem law_own:ownKnob Tryz.prog.godebug=none:=by kernel_rfl
theorem law_laidOut:laidOutB Tryz.prog=true:=by kernel_rfl
section
variable {H:Type} {enc:TypeId × Value→H} {P:Program}
theorem trodAll_stays (hl:laidOutB P=true) {W W':World} (hb:Below W.heap.size W W'):∀ (ts:List TypeId) (vs:List Value) (ds:List (DataW H)) (ps:List MemPlace),(∀ t∈ts,P.readableRec t=true∧t<P.types.size) →
  DataW.TrodAll enc P W 0 (fun _=>true) true ts vs ds ps→(∀ x∈ps,x.block<W.heap.size)→∀ sp:Nat→Bool,(∀ x∈ps,sp x.block=true)→DataW.TrodAll enc P W' 0 sp true ts vs ds ps
 | [],[],[],ps,_,h,_,_,_=>h
 | t :: ts,v :: vs,d :: ds,ps,ht,h,hlt,sp,hsp=>by
   obtain⟨p,q,h1,h2,rfl⟩:=h;refine⟨p,q,?_,trodAll_stays hl hb ts vs ds q (fun t ht'=>ht t (List.mem_cons_of_mem _ ht')) h2 (fun x hx=>hlt x (List.mem_append.2 (.inr hx))) sp (fun x hx=>hsp x (List.mem_append.2 (.inr hx))),rfl⟩;exact WideElems.Trod_stays hl (ht t (by simp)).1 (ht t (by simp)).2 h1 (fun x hx=>hb.same (hlt x (List.mem_append.2 (.inl hx)))) (fun x hx=>hsp x (List.mem_append.2 (.inl hx)))
 | [],_ :: _,_,_,_,h,_,_,_=>by simp[DataW.TrodAll] at h
 | [],[],_ :: _,_,_,h,_,_,_=>by simp[DataW.TrodAll] at h
 | _ :: _,[],_,_,_,h,_,_,_=>by simp[DataW.TrodAll] at h
 | _ :: _,_ :: _,[],_,_,h,_,_,_=>by simp[DataW.TrodAll] at h
theorem law_post {f:Func} {s:ChangeSpec} {apart fresh handsOn again:Bool} {W W':World} {args:Array Value} {ds:List (DataW H)} {before:List MemPlace} {t:TypeId}
  (hvars:s.vars=[]) (hres:f.resultTypes = #[t]) (hbool:P.underlying t=some .bool) (hspec:s.fn H (ds++[]) = { results:=[.lit (.bool true)],args:=ds })
  (hl:laidOutB P=true) (hts:∀ t∈f.params.toList,P.readableRec t=true∧t<P.types.size)
  (hW:DataW.Whole enc P f.params.toList s.vars apart W args.toList ds [] before) (hb:Below W.heap.size W W') :
  s.post enc P f apart fresh handsOn again W args (.bool true) W':=by
 obtain⟨p,q,hA,hV,hpq,hz,hn⟩:=id hW
 have hq:q=[]:=by
  rw[hvars] at hV;obtain⟨_,h2⟩:=trodVars_none hV;exact h2
 subst hq;rw[List.append_nil] at hpq;subst hpq;have hlt:∀ x∈before,x.block<W.heap.size:=fun x hx=>hW.lt x hx
 have hstay:=trodAll_stays hl hb _ _ _ _ hts hA hlt;have hold:∀ x∈before,(fun b=>decide (b<W.heap.size)) x.block=true:=fun x hx=>by simpa using hlt x hx
 have hr:∀ (b:Nat) (sp:Nat→Bool) (hd:Bool),DataW.TrodAll enc P W' b sp hd f.resultTypes.toList ((Value.bool true).resultList f.resultTypes.size) (s.fn H (ds++[])).results []:=by
  intro b sp hd;rw[hres,hspec];exact trodAll_mk1 (shut_bool hbool true)
 have hvr:∀ sp:Nat→Bool,DataW.TrodVars enc P W' sp s.vars (s.fn H (ds++[])).vars []:=by
  intro sp;rw[hvars,hspec]
  rfl
 have hargs:∀ sp:Nat→Bool,(∀ x∈before,sp x.block=true)→DataW.TrodAll enc P W' 0 sp true f.params.toList args.toList (s.fn H (ds++[])).args before:=by
  intro sp hsp;rw[hspec];exact hstay sp hsp
 refine⟨ds,[],before,[],before,[],hW,hr _ _ _,hargs _ hold,hvr _,World.keptBut_mono (fun x hx=>⟨hx,.inr (by simpa using hx)⟩) (hb.frame (· ∈before)),fun _=>?_⟩;refine⟨ok_one hres rfl (okWide_bool_mk hbool true),_,_,([]++before)++[],⟨[]++before,[],trodAll_append (hargs _ (fun _ _=>rfl)) (hr _ _ _),hvr _,rfl,?_,?_⟩,?_⟩
 · intro b off hp
   have hin:MemPlace.cell b off∈before:=by simpa using hp
   rw[hb.frozen (hlt _ hin)];exact hz b off hin
 · intro ha
   have:=hn ha;simpa using this
 intro x hx _;simpa using hx
end
end Go.Proofs.YthdojieomhighaaGreatDoor
namespace Go.Proofs.YthdojieomhighaaGreatDoor
open Go Go.RowKit Go.ChangeShapes Go.WideShapes Go.ChangeAt
theorem tbg_wf:(Rows.fnExactTxnBeginRow.wf (OpenSpec.ofChange Rows.fnExactTxnBeginSpec) && laidOutB Tryz.pinned.checked.prog && mapsRowed Tryz.pinned.checked.prog)=true:=by kernel_rfl
theorem tbg_inPlace:(Rows.fnExactTxnBeginRow.inPlace == Tryz.pinned.checked.prog.inPlace 6)=true:=by kernel_rfl
theorem tbg_unfollowed:(Rows.fnExactTxnBeginRow.unfollowed == Tryz.pinned.checked.prog.unfollowed 6)=true:=by kernel_rfl
theorem tbg_recurses:(Rows.fnExactTxnBeginRow.recurses == Tryz.pinned.checked.prog.recurses 6)=true:=by kernel_rfl
theorem tbg_named:(Rows.fnExactTxnBeginRow.named == Tryz.pinned.checked.prog.varsNamed 6)=true:=by kernel_rfl
theorem tbg_closed:joinedFacts Tryz.pinned.checked.prog 6 Tryz.f6 Rows.fnExactTxnBeginSpec Rows.fnExactTxnBeginRow=true:=by
 unfold joinedFacts;rw[tbg_wf,tbg_inPlace,tbg_unfollowed,tbg_recurses,tbg_named]
 kernel_rfl
theorem tbg_word:Rows.fnExactTxnBeginRow.wfByText (OpenSpec.ofChange Rows.fnExactTxnBeginSpec)=true:=by kernel_rfl
theorem tbg_main:Tryz.pinned.checked.prog.mainIs=some (true, "716a1bbada85004e6b2427beb1733e4d3f3d684104e8f0391f6013de4c71cca0".toList):=by kernel_rfl
theorem tbg_looks:true=Tryz.pinned.checked.prog.looks []:=by kernel_rfl
theorem tbg_goes:false=Rows.fnExactTxnBeginRow.goesBy Tryz.pinned.checked.prog:=by kernel_rfl
theorem tbg_func:Tryz.pinned.checked.prog.funcNamed Rows.fnExactTxnBeginRow.func=some 6:=by kernel_rfl
end Go.Proofs.YthdojieomhighaaGreatDoor
namespace Go.Proofs.YthdojieomhighaaGreatDoor
open Go.RowKit Go.ChangeShapes Go.WideShapes Go.Deep
section
variable {H:Type} {enc:TypeId × Value→H} {P:Program} {w:World} {base:Nat} {spare:Nat→Bool} {held:Bool}
theorem open_elems {t e:TypeId} {fuel m:Nat} {v:Value} {x:DataW H × List MemPlace} (ht:P.underlying t=some (.slice e)) (hC:P.cellsOf e=m) (hm0:0<m) (h:DataW.trod enc P w base spare held fuel t [v]=some x) :
  ∃ (A : Option Addr) (n c:Nat),v=.slice A n c∧n≤c∧c≤maxLen ∧
    (0 < n→∃ b off,A=some ⟨b,off,none⟩∧b<w.heap.size∧∀ i,i<n→∃ (k:Nat) (cs:List Value),cs.length=m∧(∀ (j:Nat) (u:Value),cs[j]? = some u→w.cell? ⟨b,off+(i*m+j),none⟩=some u) ∧
     ∃ y,DataW.trod enc P w base spare held k e cs=some y):=by
 rcases open_slice ht h with ⟨hcs,_⟩|⟨a,len,cap,q,n,D,Pl,hcs,hb,hl,hm,hmm,hx,hi⟩
 · injection hcs with hv _
   subst hv;exact⟨none,0,0,rfl,Nat.le_refl _,Nat.zero_le _,fun h=>absurd h (by omega)⟩
 injection hcs with hv _
 subst hv;refine⟨some a,len,cap,rfl,hl,hm,fun h0=>?_⟩;have hml:len≤q:=by rw[hmm];split<;>omega
 have key:∀ i,i<len→∃ (k:Nat) (cs:List Value),cs.length=m∧(∀ (j:Nat) (u:Value),cs[j]? = some u→w.cell? (a.add (i*m+j))=some u)∧∃ y,DataW.trod enc P w base spare held k e cs=some y:=by
  intro i hilt;obtain⟨cs',hc,ht'⟩:=hi i (by omega);rw[hC] at hc;obtain⟨_,hcl,hat⟩:=World.cells?_some hc;refine⟨n,cs',hcl,fun j u hu=>?_,_,ht'⟩;have hjl:j<m:=by rw[← hcl];exact (List.getElem?_eq_some_iff.1 hu).1
  rw[← Go.Deep.add_add,hat j hjl,hu]
 obtain⟨k0,cs0,hl0,hc0,_⟩:=key 0 h0;have h00:=hc0 0 (cs0[0]'(by omega)) (List.getElem?_eq_getElem (by omega));rw[Nat.zero_mul,Nat.add_zero] at h00;have ha0:a.add 0=a:=by simp[Addr.add]
 rw[ha0] at h00;have haa:=cell_addr h00
 have hadd:∀ n,a.add n=⟨a.block,a.off+n,none⟩:=by
  intro n;unfold Addr.add;split
  · rename_i h;subst h;rw[Nat.add_zero];exact haa
  rfl
 refine⟨a.block,a.off,by rw[← haa],?_,fun i hilt=>?_⟩
 · rw[haa] at h00;exact jcm h00
 obtain⟨k,cs,hl1,hc1,hf1⟩:=key i hilt;exact⟨k,cs,hl1,fun j u hu=>by rw[← hadd];exact hc1 j u hu,hf1⟩
theorem field_of {e:TypeId} {fs:Array Field} {k m:Nat} {cs l:List Value} {y:DataW H × List MemPlace} (he:P.underlying e=some (.struct fs)) (h:DataW.trod enc P w base spare held k e cs=some y) (j:Nat) (f:Field) (hj:fs[j]? = some f)
  (hm:P.cellsOf f.type=m) (hl:(cs.drop f.offset).take m=l):∃ (k':Nat) (y':DataW H × List MemPlace),DataW.trod enc P w base spare held k' f.type l=some y':=by
 obtain⟨ys,n',hn',hy,hlen,hyl,hf⟩:=DataW.trod_struct he h;have h1:=hf j f hj;rw[hm,hl] at h1;have hjl:j<fs.size:=(Array.getElem?_eq_some_iff.1 hj).1;have hys:ys[j]? = some (ys[j]'(by omega)):=List.getElem?_eq_getElem (by omega);exact⟨_,_,h1.trans hys⟩
end
section
variable {H:Type} {enc:TypeId × Value→H} {w:World} {base:Nat} {spare:Nat→Bool} {held:Bool} {fuel:Nat} {v:Value} {x:DataW H × List MemPlace}
theorem read_atom {c0 c1:Value} (h:DataW.trod enc Tryz.prog w base spare held fuel 132 [c0,c1]=some x):∃ (s:ByteArray) (ts:List GT),c0=.string s∧s.size≤maxLen∧jae Any w c1 ts:=by
 obtain⟨k0,y0,h0⟩:=field_of Tryz.underlying132 h 0 _ rfl (m:=1) (l:=[c0]) (by kernel_rfl) rfl;obtain⟨k1,y1,h1⟩:=field_of Tryz.underlying132 h 1 _ rfl (m:=1) (l:=[c1]) (by kernel_rfl) rfl;obtain⟨s,e1,_,hs⟩:=DataW.trod_string Tryz.underlying9 h0;obtain⟨ts,ht⟩:=read_terms h1;injection e1 with e1 _
 exact⟨s,ts,e1,hs,ht⟩
theorem read_parts (h:DataW.trod enc Tryz.prog w base spare held fuel 133 [v]=some x):∃ xs:List GP,jao Any w v xs:=by
 obtain⟨A,n,c,rfl,h1,h2,h3⟩:=open_elems (m:=3) Tryz.underlying133 (by kernel_rfl) (by decide) h;by_cases h0:0<n
 · obtain ⟨b,off,hA,hb,hrow⟩:=h3 h0
   obtain ⟨xs,hl,hr⟩:=ja7 (fun i (a:GP)=>∃ u,w.cell? ⟨b,off+(i*3+0),none⟩=some (.bool a.no)∧w.cell? ⟨b,off+(i*3+1),none⟩=some (.string a.atom.n)∧w.cell? ⟨b,off+(i*3+2),none⟩=some u∧a.atom.n.size≤maxLen∧jae Any w u a.atom.args) n 0 (fun i hi=>by
    rw[Nat.zero_add];obtain⟨k,cs,hcl,hc,y,hy⟩:=hrow i hi
    match cs,hcl with
    | [c0,c1,c2],_ =>
      obtain⟨k0,y0,hy0⟩:=field_of Tryz.underlying245 hy 0 _ rfl (m:=1) (l:=[c0]) (by kernel_rfl) rfl;obtain⟨k1,y1,hy1⟩:=field_of Tryz.underlying245 hy 1 _ rfl (m:=2) (l:=[c1,c2]) (by kernel_rfl) rfl;obtain⟨bv,e0,_⟩:=DataW.trod_bool Tryz.underlying4 hy0;injection e0 with e0 _
      obtain⟨s,ts,rfl,hs,ht⟩:=read_atom hy1;subst e0;exact⟨⟨bv,⟨s,ts⟩⟩,c2,hc 0 _ rfl,hc 1 _ rfl,hc 2 _ rfl,hs,ht⟩)
   refine⟨xs,A,c,by rw[hl],by rw[hl];exact h1,h2,fun _=>⟨b,off,hA,hb,trivial,fun i x hx=>?_⟩⟩;obtain⟨u,r0,r1,r2,r3,r4⟩:=hr i x hx;rw[Nat.zero_add] at r0 r1 r2;refine⟨[.bool x.no,.string x.atom.n,u],rfl,fun j y hy=>?_,u,rfl,r3,r4⟩
   match j,hy with
   | 0,hy=>simp at hy;subst hy;exact r0
   | 1,hy=>simp at hy;subst hy;exact r1
   | 2,hy=>simp at hy;subst hy;exact r2
 obtain rfl:n=0:=by omega
 exact⟨[],jaa.nil_ c h2 A⟩
theorem read_rules (h:DataW.trod enc Tryz.prog w base spare held fuel 22 [v]=some x):∃ xs:List GR,jal Any w v xs:=by
 obtain⟨A,n,c,rfl,h1,h2,h3⟩:=open_elems (m:=3) Tryz.underlying22 (by kernel_rfl) (by decide) h;by_cases h0:0<n
 · obtain ⟨b,off,hA,hb,hrow⟩:=h3 h0
   obtain ⟨xs,hl,hr⟩:=ja7 (fun i (a:GR)=>∃ u z,w.cell? ⟨b,off+(i*3+0),none⟩=some (.string a.head.n)∧w.cell? ⟨b,off+(i*3+1),none⟩=some u∧w.cell? ⟨b,off+(i*3+2),none⟩=some z∧a.head.n.size≤maxLen∧jae Any w u a.head.args∧jao Any w z a.body) n 0 (fun i hi=>by
    rw[Nat.zero_add];obtain⟨k,cs,hcl,hc,y,hy⟩:=hrow i hi
    match cs,hcl with
    | [c0,c1,c2],_ =>
      obtain⟨k0,y0,hy0⟩:=field_of Tryz.underlying135 hy 0 _ rfl (m:=2) (l:=[c0,c1]) (by kernel_rfl) rfl;obtain⟨k1,y1,hy1⟩:=field_of Tryz.underlying135 hy 1 _ rfl (m:=1) (l:=[c2]) (by kernel_rfl) rfl;obtain⟨s,ts,rfl,hs,ht⟩:=read_atom hy0;obtain⟨ps,hp⟩:=read_parts hy1;exact⟨⟨⟨s,ts⟩,ps⟩,c1,c2,hc 0 _ rfl,hc 1 _ rfl,hc 2 _ rfl,hs,ht,hp⟩)
   refine⟨xs,A,c,by rw[hl],by rw[hl];exact h1,h2,fun _=>⟨b,off,hA,hb,trivial,fun i x hx=>?_⟩⟩;obtain⟨u,z,r0,r1,r2,r3,r4,r5⟩:=hr i x hx;rw[Nat.zero_add] at r0 r1 r2;refine⟨[.string x.head.n,u,z],rfl,fun j y hy=>?_,u,z,rfl,r3,r4,r5⟩
   match j,hy with
   | 0,hy=>simp at hy;subst hy;exact r0
   | 1,hy=>simp at hy;subst hy;exact r1
   | 2,hy=>simp at hy;subst hy;exact r2
 obtain rfl:n=0:=by omega
 exact⟨[],jaa.nil_ c h2 A⟩
end
end Go.Proofs.YthdojieomhighaaGreatDoor
namespace Go.Proofs.YthdojieomhighaaGreatDoor
open Go.RowKit Go.ChangeShapes Go.WideShapes Go.Joins
section
variable {H:Type} {enc:TypeId × Value→H} {w:World} {base:Nat} {spare:Nat→Bool} {held:Bool} {fuel:Nat} {v:Value} {x:DataW H × List MemPlace}
theorem read_changes (h:DataW.trod enc Tryz.prog w base spare held fuel 24 [v]=some x):∃ xs:List GC,jan Any w v xs:=by
 obtain⟨A,n,c,rfl,h1,h2,h3⟩:=open_rows Tryz.underlying24 Tryz.underlying139 (by kernel_rfl) (by kernel_rfl) (by decide) h;by_cases h0:0<n
 · obtain ⟨b,off,hA,hb,hrow⟩:=h3 h0
   obtain ⟨xs,hl,hr⟩:=ja7 (fun i (a:GC)=>∃ u z,w.cell? ⟨b,off+(i*2+0),none⟩=some u∧w.cell? ⟨b,off+(i*2+1),none⟩=some z∧jac Any w u a.comes∧jac Any w z a.goes) n 0 (fun i hi=>by
    rw[Nat.zero_add];obtain⟨k,cs,hcl,hc,hf⟩:=hrow i hi
    match cs,hcl with
    | [c0,c1],_ =>
      obtain⟨y0,hy0⟩:=hf 0 _ c0 rfl rfl;obtain⟨y1,hy1⟩:=hf 1 _ c1 rfl rfl;obtain⟨xs,hxs⟩:=read_atoms hy0;obtain⟨ys,hys⟩:=read_atoms hy1;exact⟨⟨xs,ys⟩,c0,c1,hc 0 _ rfl,hc 1 _ rfl,hxs,hys⟩)
   refine⟨xs,A,c,by rw[hl],by rw[hl];exact h1,h2,fun _=>⟨b,off,hA,hb,trivial,fun i x hx=>?_⟩⟩;obtain⟨u,z,r0,r1,r2,r3⟩:=hr i x hx;rw[Nat.zero_add] at r0 r1;refine⟨[u,z],rfl,fun j y hy=>?_,u,z,rfl,r2,r3⟩
   match j,hy with
   | 0,hy=>simp at hy;subst hy;exact r0
   | 1,hy=>simp at hy;subst hy;exact r1
 obtain rfl:n=0:=by omega
 exact⟨[],jaa.nil_ c h2 A⟩
theorem law_base_cells:Tryz.prog.cellsOf 26=4:=by kernel_rfl
theorem read_base {r:Reach} {b0:Nat} {d:DataW H} {p:List MemPlace} (hv:Value.okWide Tryz.prog w r b0 26 v) (h:DataW.Trod enc Tryz.prog w base spare held 26 v d p):∃ B:GB,BaseR Any w v B:=by
 obtain⟨c0,c1,c2,c3,y0,y1,y2,y3,m,rfl,rfl,rfl,hy0,hy1,hy2,hy3⟩:=open_agg4 Tryz.underlying26 (by kernel_rfl) law_base_cells hv h;obtain⟨rs,hrs⟩:=read_rules hy0;obtain⟨n,e1,_⟩:=DataW.trod_int Tryz.underlying3 hy1;obtain⟨xs,hxs⟩:=read_atoms hy2;obtain⟨cs,hcs⟩:=read_changes hy3;injection e1 with e1 _
 subst e1;exact⟨⟨rs,n,xs,cs⟩,c0,c2,c3,rfl,hrs,hxs,hcs⟩
end
end Go.Proofs.YthdojieomhighaaGreatDoor
namespace Go.Proofs.YthdojieomhighaaGreatDoor
open Go.RowKit Go.ChangeShapes Go.WideShapes Go.ChangeAt
theorem tbg_et:Tryz.prog.globalNamed "errors.errorType" = some 0:=by kernel_rfl
theorem tbg_rt:(Tryz.prog.cutTypes.find? (·.1 == "internal/reflectlite.rtype")).map (·.2)=some 346:=by kernel_rfl
theorem tbg_oneRow:((List.range Tryz.prog.types.size).filter fun t=>Tryz.prog.rowNamed t [101,114,114,111,114])=[199]:=by kernel_rfl
theorem tbg_handle:typeHandle Tryz.prog 199=.pointer (some ⟨2,199,none⟩):=by kernel_rfl
theorem tbg_err {W:World} (h:laidMetH Tryz.prog Rows.fnExactTxnBeginRow.laid W):ErrIs W:=by
 have h':laidMet Tryz.prog [] W∧handlesMet Tryz.prog Rows.fnExactTxnBeginRow.laid W:=h;obtain⟨name,u,ty,e1,e2,e3,e4,e5⟩:=h'.2 _ (List.mem_singleton.2 rfl);have en:name=[101,114,114,111,114]:=(Option.some.inj e1).symm;subst en;obtain rfl:=Option.some.inj (tbg_rt.symm.trans e2);have hm:ty∈(List.range Tryz.prog.types.size).filter fun t=>Tryz.prog.rowNamed t [101,114,114,111,114]:=List.mem_filter.2 ⟨List.mem_range.2 e3,e4⟩
 rw[tbg_oneRow] at hm;obtain rfl:=List.mem_singleton.1 hm;rw[tbg_handle] at e5;simpa [ErrIs] using World.var?_cell tbg_et e5 0
noncomputable def tbg_world (os:Os):World :=
 let w0:=World.holding Tryz.prog os ⟨#[],#[],[]⟩
 { w0 with heap:=w0.heap.modify 0 fun
  | .cells _ t frozen=>.cells #[.iface 346 (.agg #[.pointer (some ⟨2,199,none⟩)])] t frozen
  | o=>o }
theorem tbg_met (os:Os) (args:Array Value):laidMetH Tryz.prog Rows.fnExactTxnBeginRow.laid ((tbg_world os).forCall (fun _ _=>0) ⟨#[],args,[]⟩).memory :=
 laidMetH_of_parts (laidMet_nil _ _) (by kernel_rfl)
theorem tbg_lifted (os:Os) (started:os.Started) (H:Type) (enc:TypeId × Value→H) :
  ReturnsInHanded {} Tryz.checked os 6 .any (fun w args=>(Rows.fnExactTxnBeginSpec.pre enc Tryz.prog Tryz.f6 [] false w args∧laidMetH Tryz.prog Rows.fnExactTxnBeginRow.laid w)∧sizedMet enc Tryz.prog Tryz.f6 (OpenSpec.ofChange Rows.fnExactTxnBeginSpec) false w args)
   (Rows.fnExactTxnBeginSpec.post enc Tryz.prog Tryz.f6 false true false false):=by
 refine returnsInHanded_of_change_and (C:=Tryz.checked) (X:=fun w _=>laidMetH Tryz.prog Rows.fnExactTxnBeginRow.laid w) (fun _ _ _ hh h=>h.of_heap hh) law_own started (by kernel_rfl) Tryz.func6
  (ChangeSpec.witness_at (enc:=enc) (C:=Tryz.checked) (os:=os) (X:=fun w _=>laidMetH Tryz.prog Rows.fnExactTxnBeginRow.laid w) false (tbg_world os) #[.agg #[.slice none 0 0,.int .i64 0,.slice none 0 0,.slice none 0 0]] 8 rfl (by kernel_rfl) (by kernel_rfl) (by kernel_rfl) (by kernel_rfl) (by kernel_rfl) (tbg_met os _)) ?_
 intro W base args ds gs before hval0 hW _ _ hL _;have hval:∀ (j:Nat) t v,Tryz.f6.params[j]? = some t→args[j]? = some v→Value.okWide Tryz.prog W .any base t v:=hval0;have hW':=hW;obtain⟨p,q,hA0,hV,rfl,hfz,hnd⟩:=hW;have hA:DataW.TrodAll enc Tryz.prog W 0 (fun _=>true) true Tryz.f6.params.toList args.toList ds p:=hA0;rw[Tryz.params6] at hA hval;obtain⟨v0,d0,rfl,rfl,h0⟩:=trodAll_one hA;obtain⟨rfl,rfl⟩:=trodVars_none hV;clear hA0 hval0;simp only[List.append_nil] at hW';obtain⟨B,hB⟩:=read_base (hval 0 26 v0 rfl rfl) h0;refine (exactTxnBegin_any B _ W hB (tbg_err hL)).mono fun e W' ⟨he,hw⟩=>?_
 subst he;exact⟨_,rfl,law_post (t:=4) rfl rfl Tryz.underlying4 rfl law_laidOut (by rw[Tryz.params6];intro t ht;simp at ht;rcases ht with rfl<;>exact⟨by kernel_rfl,of_decide_eq_true (by kernel_rfl)⟩) hW' hw⟩
theorem tbg_inst:Tryz.f6.isInstance Tryz.pinned.checked.prog Rows.fnExactTxnBeginRow.origin Rows.fnExactTxnBeginRow.targs:=of_decide_eq_true (by kernel_rfl)
theorem tbg_wrap:Tryz.f6.isWrapper Tryz.pinned.checked.prog Rows.fnExactTxnBeginRow.wrapper Rows.fnExactTxnBeginRow.mainSum:=by
 unfold Func.isWrapper;rw[if_neg (of_decide_eq_false (by kernel_rfl))];exact⟨rfl,rfl⟩
theorem tbg_row (os:Os) (started:os.Started) (H:Type) (enc:TypeId × Value→H) (_:∀ a b,enc a=enc b→a=b) :
  ReturnsInHanded Rows.fnExactTxnBeginRow.assume Tryz.pinned.checked os 6 .any (Rows.fnExactTxnBeginRow.pre enc Tryz.pinned.checked.prog Tryz.f6 (OpenSpec.ofChange Rows.fnExactTxnBeginSpec)) (Rows.fnExactTxnBeginSpec.post enc Tryz.pinned.checked.prog Tryz.f6 Rows.fnExactTxnBeginRow.apart Rows.fnExactTxnBeginRow.fresh Rows.fnExactTxnBeginRow.handsOn Rows.fnExactTxnBeginRow.again) :=
 tbg_lifted os started H enc
theorem tbg_open:Rows.fnExactTxnBeginRow.holds Tryz.pinned (OpenSpec.ofChange Rows.fnExactTxnBeginSpec) :=
 OpenClaim.holds_of_wide 6 Tryz.f6 rfl rfl rfl rfl rfl rfl rfl ⟨rfl,rfl,rfl,rfl,rfl⟩ rfl rfl rfl rfl rfl (by kernel_rfl) Tryz.func6 tbg_closed tbg_inst tbg_wrap tbg_row
theorem tbg_said:Rows.FnExactTxnBeginSaid:=tbg_open
theorem tbg_args:([26].all fun u=> !Tryz.pinned.checked.prog.wantsStandIn u)=true:=by kernel_rfl
theorem fnExactTxnBegin_holds:Rows.FnExactTxnBeginCardSaid :=
 Claim7.holds_tied_plain_at .later [] [.handle] true (true, "716a1bbada85004e6b2427beb1733e4d3f3d684104e8f0391f6013de4c71cca0") true
  tbg_said (fun _ h=>by cases h) tbg_word (fun _ h=>by cases h) fnExactTxnBegin_row_tie rfl ⟨rfl,rfl⟩ tbg_main rfl
  (fun f fn hf hfn=>by
   obtain rfl:f=6:=Option.some.inj (tbg_func.symm.trans hf) |>.symm
   obtain rfl:fn=Tryz.f6:=(Option.some.inj (Tryz.func6.symm.trans hfn)).symm
   exact ⟨tbg_looks,fun j t ht=>by
    rw[Tryz.params6] at ht;have hm:t∈ [26]:=by simpa using Array.mem_of_getElem? ht
    exact (show Tryz.pinned.checked.prog.wantsStandIn t=false by simpa using List.all_eq_true.1 tbg_args t hm)⟩)
  tbg_goes
end Go.Proofs.YthdojieomhighaaGreatDoor
