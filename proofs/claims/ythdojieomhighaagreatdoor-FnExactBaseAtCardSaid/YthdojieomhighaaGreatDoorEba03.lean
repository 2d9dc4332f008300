/- Proved here, for all inputs and without conditions: the given statement of the law FnExactBaseAt. -/
import Derived.Test.YthdojieomhighaaGreatDoorEba02
import Derived.Test.YthdojieomhighaaGreatDoorCas34
import Derived.Test.YthdojieomhighaaGreatDoorCas21
import Derived.Test.YthdojieomhighaaGreatDoorCas22
import Derived.Test.YthdojieomhighaaGreatDoorCas32
import Derived.Test.YthdojieomhighaaGreatDoorCas18
import Derived.Test.YthdojieomhighaaGreatDoorCas30
import Derived.Test.YthdojieomhighaaGreatDoorCas33
import Derived.Test.YthdojieomhighaaGreatDoorCas06
import Derived.Deep.RegionHeld3
import Derived.Test.YthdojieomhighaaGreatDoorRows
import Derived.Test.YthdojieomhighaaGreatDoorCas01
import Derived.ProofKit
import Derived.ChangeSame
import Derived.WideKeyArgs
import Derived.Test.YthdojieomhighaaGreatDoorCards
import Derived.Test.YthdojieomhighaaGreatDoorCas03
import Derived.Test.YthdojieomhighaaGreatDoorEba01
import Derived.Lib.SmallJoins
import Derived.Test.YthdojieomhighaaGreatDoorTie
import Derived.ChangeVars
import Derived.JoinedOf
import Derived.LaidLaws
import Derived.LaidHandle
import Derived.LaidMore
import Derived.OpenShut
import Derived.MakeChecks
import Derived.Stop.Joined
set_option linter.unusedSimpArgs false
set_option linter.unusedVariables false
set_option maxHeartbeats 16000000
set_option maxRecDepth 100000
namespace Go.Proofs.YthdojieomhighaaGreatDoor
open Go.RowKit
noncomputable def j1p (B:GB) (time:Int):List GA × Bool:=if jbn B then atL B time else ([],false)
theorem j3b (B:GB) (time:Int):Facts (j1p B time).1∧(j1p B time).1.length≤40:=by
 unfold j1p;split
 · rename_i h
   by_cases ht:B.time-B.hist.length≤time∧time≤B.time
   · rw [at_in ht]
     obtain⟨f1,_,f3⟩:=j2l h (i:=(B.time-time).toNat) (by omega);exact⟨f1,f3⟩
   rw[j4u ht];exact⟨j29,by simp⟩
 exact⟨j29,by simp⟩
theorem j3w {l:List GA} (h:Facts l):j1n l≤7*l.length:=jpm (f:=costA) fun a ha=>by
 have:=(jmq (h a ha)).2.1;unfold costA;omega
theorem j3c (B:GB) (time:Int):1+j1n (j1p B time).1≤100000000:=by
 obtain⟨h1,h2⟩:=j3b B time;have:=j3w h1;omega
theorem j3d (B:GB) (v:Value) (w:World) {S:Nat→Prop} (hv:BaseR S w v B) (hb:0≤B.time∧B.time≤1000000∧B.hist.length≤1000) :
  Calls Tryz.prog 145 #[v] w fun e w'=>e=.returned (.int .i64 (B.time-B.hist.length))∧Ext w w':=by
 obtain⟨A1,c1,A2,c2,A3,c3,rfl⟩:=hv.form;obtain⟨h0,h1,h2⟩:=hb;have hwt:IntKind.i64.wrap (B.time-(B.hist.length:Int))=B.time-(B.hist.length:Int):=by rw[IntKind.wrap_i64];omega
 clear hv
 go_enter Tryz.func145,Tryz.ntmps145;go_wp2;go_ret;exact⟨rfl,(Ext.refl _).alloc _⟩
def j11 (B:GB) (t:Int):Bool:=decide (B.time-B.hist.length≤t) && decide (t≤B.time)
theorem j4b (B:GB) (t:Int) (v:Value) (w:World) {S:Nat→Prop} (hv:BaseR S w v B) (hb:0≤B.time∧B.time≤1000000∧B.hist.length≤1000) :
  Calls Tryz.prog 83 #[v,.int .i64 t] w fun e w'=>e=.returned (.bool (j11 B t))∧Ext w w':=by
 obtain⟨A1,c1,A2,c2,A3,c3,rfl⟩:=hv.form;have hx0:=(Ext.refl w).alloc (.cells #[.slice A1 B.rules.length c1,.int .i64 B.time,.slice A2 B.given.length c2,.slice A3 B.hist.length c3] 33);have HB:=zh (Blk.new w 33 #[.slice A1 B.rules.length c1,.int .i64 B.time,.slice A2 B.given.length c2,.slice A3 B.hist.length c3]);have HF:=zh (j3d B _ _ (hv.ext hx0) hb);have HX:=zh hx0;clear hv hx0 hb;by_cases h1:B.time-(B.hist.length:Int)≤t
 · by_cases h2:t≤B.time
   · have HK:=zh (show j11 B t=true from by unfold j11;simp[h1,h2])
     go_enter Tryz.func83,Tryz.ntmps83;go_wp2_with (go_at_call 145;refine HF.out.mono ?_;rintro e w1 ⟨rfl,hx1⟩;have hb1:=HB.out.ext hx1;have q1:=hb1.cell 1;have ql:=hb1.lt;clear hb1)
     go_ret;exact⟨by rw[HK.out];first|rfl|(show Ending.returned (Value.bool (decide (t≤B.time)))=_;rw[decide_eq_false (by omega)]),HX.out.trans' hx1⟩
   have HK:=zh (show j11 B t=false from by unfold j11;simp[h2])
   go_enter Tryz.func83,Tryz.ntmps83;go_wp2_with (go_at_call 145;refine HF.out.mono ?_;rintro e w1 ⟨rfl,hx1⟩;have hb1:=HB.out.ext hx1;have q1:=hb1.cell 1;have ql:=hb1.lt;clear hb1)
   go_ret;exact⟨by rw[HK.out];first|rfl|(show Ending.returned (Value.bool (decide (t≤B.time)))=_;rw[decide_eq_false (by omega)]),HX.out.trans' hx1⟩
 have HK:=zh (show j11 B t=false from by unfold j11;simp[h1])
 go_enter Tryz.func83,Tryz.ntmps83;go_wp2_with (go_at_call 145;refine HF.out.mono ?_;rintro e w1 ⟨rfl,hx1⟩;have hb1:=HB.out.ext hx1;have q1:=hb1.cell 1;have ql:=hb1.lt;clear hb1)
 go_ret;exact⟨by rw[HK.out];first|rfl|(show Ending.returned (Value.bool (decide (t≤B.time)))=_;rw[decide_eq_false (by omega)]),HX.out.trans' hx1⟩
theorem j43 (B:GB) (time:Int) (v:Value) (w:World) {S:Nat→Prop} (hv:BaseR S w v B) (hok:jbn B=true) (ht:B.time-B.hist.length≤time∧time≤B.time) :
  Calls Tryz.prog 84 #[v,.int .i64 time] w fun e w'=>(∃ r,e=.returned r∧jac Any w' r (agoL B (B.time-time).toNat))∧Ext w w':=by
 obtain⟨a,b,c,rfl,hr,hg,hh⟩:=hv;obtain⟨A1,c1,rfl,_,_⟩:=jaa.form hr;obtain⟨A2,c2,rfl,_,_⟩:=jaa.form hg;obtain⟨A3,c3,rfl,hf1,hf2⟩:=jaa.form hh;obtain⟨⟨b0,b1,b2,b3⟩,_,_⟩:=j16 hok;obtain⟨ht1,ht2⟩:=ht;obtain⟨W,hW⟩:=nm (w.alloc (.cells #[.slice A1 B.rules.length c1,.int .i64 B.time,.slice A2 B.given.length c2,.slice A3 B.hist.length c3] 33))
 have HB:=zh (show Blk W w.heap.size 33 #[.slice A1 B.rules.length c1,.int .i64 B.time,.slice A2 B.given.length c2,.slice A3 B.hist.length c3] from by rw[hW];exact Blk.new _ _ _);have HX:=zh (show Ext w W from by rw[hW];exact (Ext.refl _).alloc _);have HFI:=zh (fun (W':World) (hW':Ext W W')=>j3d B _ W' (show BaseR S W' (.agg #[.slice A1 B.rules.length c1,.int .i64 B.time,.slice A2 B.given.length c2,.slice A3 B.hist.length c3]) B from⟨_,_,_,rfl,hr.ext (HX.out.trans' hW'),hg.ext (HX.out.trans' hW'),jan.ext hh (HX.out.trans' hW')⟩) ⟨b0,by omega,by omega⟩);have HG:=zh (jac.sub (hg.ext HX.out) (fun _ _=>trivial:∀ b,S b→Any b));have HH:=zh (jan.ext hh HX.out);have HOK:=zh hok;obtain⟨N,hN⟩:=nm ((B.time-time).toNat)
 have hNi:B.time-time=(N:Int):=by omega
 have hNl:N≤B.hist.length:=by omega
 rw[← hN];obtain⟨L,hL⟩:=nm (B.hist.length)
 have hw1:IntKind.i64.wrap ((B.hist.length:Int)-1)=(B.hist.length:Int)-1:=by rw[IntKind.wrap_i64];omega
 have hw2:IntKind.i64.wrap (time-(B.time-(B.hist.length:Int)))=(B.hist.length:Int)-(N:Int):=by rw[IntKind.wrap_i64];omega
 have hL30:B.hist.length≤30:=b2;have p0:=HB.out.cell 0;have p1:=HB.out.cell 1;have p2:=HB.out.cell 2;have p3:=HB.out.cell 3;have pl:=HB.out.lt;clear hr hg hh hN hok hL
 go_enter Tryz.func84,Tryz.ntmps84
 go_upto_region 1 with fail
 rw[← hW];clear hW;go_wp2_with fail
 go_loopw [5,6] (fun o i wr=>∃ (k:Nat) (z:Int),k≤N∧i=.int .i64 z∧z=(B.hist.length:Int)-1-(k:Int)∧Hid (jac Any wr o (agoL B k))∧Ext W wr) (fun _ i _=>(intOf i+1).toNat)
 case atStart=>exact⟨0,_,Nat.zero_le _,rfl,by simp,HG,Ext.refl _⟩
 case round =>
  obtain⟨k,z,hk,rfl,hz,ho,hx⟩:=hrel;have hb1:=HB.out.ext hx;clear p0 p1 p2 p3 pl;have p0:=hb1.cell 0;have p1:=hb1.cell 1;have p2:=hb1.cell 2;have p3:=hb1.cell 3;have pl:=hb1.lt;clear hb1;obtain⟨O,co,rfl,_,_⟩:=jaa.form ho.out;have HFI1:=zh (HFI.out wr hx);by_cases hlt:k<N
  · obtain ⟨m,hm⟩:∃ m,m=B.hist.length-1-k:=⟨_,rfl⟩
    obtain rfl:z=(m:Int):=by omega
    have hml:m<B.hist.length:=by omega
    have hm0:(0:Int)≤(m:Int):=by omega
    have hm1:(m:Int)<(B.hist.length:Int):=by omega
    have hge:(B.hist.length:Int)-(N:Int)≤(m:Int):=by omega
    have hw3:IntKind.i64.wrap ((m:Int)-1)=(m:Int)-1:=by rw[IntKind.wrap_i64];omega
    obtain⟨s1,s2⟩:=j3r HOK.out (i:=k) (by omega);obtain⟨f1,f2,f3⟩:=j2l HOK.out (i:=k) (by omega);have hs:=j3q B k;rw[j2f (by omega)] at s1 s2 hs;obtain⟨bb,off,g,va,vb,rfl,hbl,hgk,hva,hvb,hc0,hc1⟩:=jan.at_ (jan.ext HH.out hx) hml;obtain⟨X,cx,rfl,_,_⟩:=jaa.form hva;obtain⟨Y,cy,rfl,_,_⟩:=jaa.form hvb
    have hgm:B.hist[B.hist.length-1-k]'(by omega)=g:=by
     have h1:B.hist[B.hist.length-1-k]? = some g:=by rw[← hm];exact hgk
     exact (List.getElem?_eq_some_iff.1 h1).2
    rw[hgm] at s1 s2 hs;have HTB:=zh (fun (W':World) (hW':Ext wr W')=>jin (agoL B k) g _ _ _ W' (ho.out.ext hW') (hva.ext hW') (hvb.ext hW') (by omega) f1 f2 s1);have HAG:=zh (show agoL B (k+1)=doL (agoL B k) ⟨g.goes,g.comes⟩ from by rw[hs,jrm s2]);have HM:=zh hm;clear hz hm hgk hva hvb hgm s1 s2 f1 f2 f3 hs
    go_wp2_with (first
     | (go_at_call 145;refine HFI1.out.mono ?_;rintro e w1 ⟨rfl,hx1⟩
        have HX1:=zh hx1;have q3:=(hx1.cells.1 w.heap.size 3 pl).trans p3;have e0:=(hx1.cells.1 bb (off+m*2) hbl).trans hc0;have e1:=(hx1.cells.1 bb (off+m*2+1) hbl).trans hc1;have ql:=Nat.lt_of_lt_of_le pl hx1.size;clear hx1)
     | (go_at_call 51;refine (HTB.out _ HX1.out).mono ?_;rintro e w2 ⟨⟨r2,rfl,hr2⟩,hx2⟩
        have HX2:=zh hx2;have HR2:=zh hr2;clear hr2 hx2)
     | fail)
    go_roundw
    case rel=>exact⟨k+1,_,by omega,rfl,by have hm:=HM.out;omega,by rw[HAG.out];exact HR2,hx.trans' (HX1.out.trans' HX2.out)⟩
    case measure=>simp[intOf]
  obtain rfl:k=N:=by omega
  have hge:¬ (B.hist.length:Int)-(k:Int)≤z:=by omega
  go_wp2_with (first
   | (go_at_call 145;refine HFI1.out.mono ?_;rintro e w1 ⟨rfl,hx1⟩
      have HX1:=zh hx1;clear hx1)
   | fail)
  go_ret;exact⟨⟨_,rfl,ho.out.ext HX1.out⟩,HX.out.trans' (hx.trans' HX1.out)⟩
theorem j2o (B:GB) (time:Int) (v:Value) (w:World) {S:Nat→Prop} (hv:BaseR S w v B) :
  Calls Tryz.prog 25 #[v,.int .i64 time] w fun e w'=>(∃ b,e=.returned (.tuple #[b,.bool (j1p B time).2])∧jac Any w' b (j1p B time).1)∧Ext w w':=by
 obtain⟨A1,c1,A2,c2,A3,c3,rfl⟩:=hv.form;obtain⟨W,hW⟩:=nm (w.alloc (.cells #[.slice A1 B.rules.length c1,.int .i64 B.time,.slice A2 B.given.length c2,.slice A3 B.hist.length c3] 33))
 have HB:=zh (show Blk W w.heap.size 33 #[.slice A1 B.rules.length c1,.int .i64 B.time,.slice A2 B.given.length c2,.slice A3 B.hist.length c3] from by rw[hW];exact Blk.new _ _ _);have HX:=zh (show Ext w W from by rw[hW];exact (Ext.refl _).alloc _);have HV:=zh (hv.ext HX.out);have HOK:=zh (je3 B _ W HV.out);have p0:=HB.out.cell 0;have p1:=HB.out.cell 1;have p2:=HB.out.cell 2;have p3:=HB.out.cell 3;have pl:=HB.out.lt;have HBA:=zh (show j1p B time=if jbn B then atL B time else ([],false) from rfl);clear hv;cases hok:jbn B
 · rw [hok] at HOK
   have HF:=zh (show j1p B time=([],false) from by rw[HBA.out,hok];rfl);clear hok
   go_enter Tryz.func25,Tryz.ntmps25
   go_upto_region 1 with fail
   rw[← hW];clear hW
   go_wp2_with (first
    | (go_at_call 9;refine HOK.out.mono ?_;rintro e w1 ⟨rfl,hx1⟩;have HX1:=zh hx1;clear hx1)
    | fail)
   go_ret2;rw[HF.out];exact⟨⟨_,rfl,jaa.nil_ 0 (Nat.zero_le _) _⟩,(HX.out.trans' HX1.out).alloc _⟩
 rw[hok] at HOK;have HF:=zh (show j1p B time=atL B time from by rw[HBA.out,hok];rfl);have HAT:=zh (fun (W':World) (hW':Ext W W')=>j4f B time _ W' (HV.out.ext hW') (j4y hok));obtain⟨al,hal⟩:=nm ((atL B time).1)
 obtain⟨ab,hab⟩:=nm ((atL B time).2)
 rw[← hal,← hab] at HAT;rw[HF.out,← hal,← hab];clear hok hal hab HF
 go_enter Tryz.func25,Tryz.ntmps25
 go_upto_region 1 with fail
 rw[← hW];clear hW
 go_wp2_with (first
  | (go_at_call 9;refine HOK.out.mono ?_;rintro e w1 ⟨rfl,hx1⟩
     have HX1:=zh hx1;have hb1:=HB.out.ext hx1;have q0:=hb1.cell 0;have q1:=hb1.cell 1;have q2:=hb1.cell 2;have q3:=hb1.cell 3;have ql:=hb1.lt;clear hx1 hb1 p0 p1 p2 p3 pl)
  | (go_at_call 85;refine (HAT.out _ HX1.out).mono ?_;rintro e w2 ⟨⟨v2,rfl,hv2⟩,hx2⟩
     obtain⟨O2,o2,rfl,_,_⟩:=jaa.form hv2;have HV2:=zh hv2;have HX2:=zh hx2;clear hv2 hx2)
  | fail)
 go_ret2;exact⟨⟨_,rfl,jac.sub HV2.out (fun _ _=>trivial)⟩,HX.out.trans' (HX1.out.trans' HX2.out)⟩
theorem j2p (B:GB) (time:Int) (v:Value) (w:World) {S:Nat→Prop} (hv:BaseR S w v B) (he:ErrIs w) :
  Calls Tryz.prog 24 #[v,.int .i64 time] w fun e w'=>(∃ b,e=.returned (.tuple #[b,.bool (j1p B time).2])∧jba (From w.heap.size) w' b (j1p B time).1)∧Ext w w':=by
 obtain⟨A1,c1,A2,c2,A3,c3,rfl⟩:=hv.form;obtain⟨W,hW⟩:=nm (w.alloc (.cells #[.slice A1 B.rules.length c1,.int .i64 B.time,.slice A2 B.given.length c2,.slice A3 B.hist.length c3] 33))
 have HB:=zh (show Blk W w.heap.size 33 #[.slice A1 B.rules.length c1,.int .i64 B.time,.slice A2 B.given.length c2,.slice A3 B.hist.length c3] from by rw[hW];exact Blk.new _ _ _);have HX:=zh (show Ext w W from by rw[hW];exact (Ext.refl _).alloc _);have HV:=zh (hv.ext HX.out);have HOK:=zh (je2 B _ W HV.out (he.ext HX.out));have p0:=HB.out.cell 0;have p1:=HB.out.cell 1;have p2:=HB.out.cell 2;have p3:=HB.out.cell 3;have pl:=HB.out.lt;have HBA:=zh (show j1p B time=if jbn B then atL B time else ([],false) from rfl);clear hv he;cases hok:jbn B
 · rw [hok] at HOK
   have HF:=zh (show j1p B time=([],false) from by rw[HBA.out,hok];rfl);clear hok
   go_enter Tryz.func24,Tryz.ntmps24
   go_upto_region 1 with fail
   rw[← hW];clear hW
   go_wp2_with (first
    | (go_at_call 11;refine HOK.out.mono ?_;rintro e w1 ⟨rfl,hx1⟩;have HX1:=zh hx1;clear hx1)
    | fail)
   go_ret2;rw[HF.out];exact⟨⟨_,rfl,jad.nil 0 (Nat.zero_le _) _⟩,HX.out.trans' HX1.out⟩
 rw[hok] at HOK;have HF:=zh (show j1p B time=atL B time from by rw[HBA.out,hok];rfl);obtain⟨⟨b0,b1,b2,b3⟩,_,_⟩:=j16 hok;have HKN:=zh (fun (W':World) (hW':Ext W W')=>j4b B time _ W' (HV.out.ext hW') ⟨b0,by omega,by omega⟩);by_cases hin:B.time-B.hist.length≤time∧time≤B.time
 · have hk:j11 B time=true:=by unfold j11;simp[hin.1,hin.2]
   rw[hk] at HKN;have hin1:=at_in hin;obtain⟨f1,f2,f3⟩:=j2l hok (i:=(B.time-time).toNat) (by omega);have HAT:=zh (fun (W':World) (hW':Ext W W')=>j43 B time _ W' (HV.out.ext hW') hok hin);obtain⟨al,hal⟩:=nm (agoL B (B.time-time).toNat)
   rw[← hal] at HAT f1 f3;rw[HF.out,hin1,← hal];have HCP:=zh (fun (x:Value) (W':World) (hx:jac Any W' x al)=>j23 x al W' hx (by omega) (fun y hy=>by have:=(jmq (f1 y hy)).2.1;omega));have hsz:=HX.out.size;clear hok hal HF hk hin1 f1 f2 f3 hin
   go_enter Tryz.func24,Tryz.ntmps24
   go_upto_region 1 with fail
   rw[← hW];clear hW
   go_wp2_with (first
    | (go_at_call 11;refine HOK.out.mono ?_;rintro e w1 ⟨rfl,hx1⟩
       have HX1:=zh hx1;have hb1:=HB.out.ext hx1;have q0:=hb1.cell 0;have q1:=hb1.cell 1;have q2:=hb1.cell 2;have q3:=hb1.cell 3;have ql:=hb1.lt;clear hx1 hb1 p0 p1 p2 p3 pl)
    | (go_at_call 83;refine (HKN.out _ HX1.out).mono ?_;rintro e w2 ⟨rfl,hx2⟩
       have HX2:=zh (HX1.out.trans' hx2);have hb2:=HB.out.ext HX2.out;clear q0 q1 q2 q3 ql;have q0:=hb2.cell 0;have q1:=hb2.cell 1;have q2:=hb2.cell 2;have q3:=hb2.cell 3;have ql:=hb2.lt;clear hx2 hb2)
    | (go_at_call 84;refine (HAT.out _ HX2.out).mono ?_;rintro e w3 ⟨⟨v3,rfl,hv3⟩,hx3⟩
       obtain⟨O3,o3,rfl,_,_⟩:=jaa.form hv3;have HV3:=zh hv3;have HX3:=zh (HX2.out.trans' hx3);clear hv3 hx3)
    | (go_at_call 75;refine (HCP.out _ _ HV3.out).mono ?_;rintro e w4 ⟨⟨v4,rfl,hv4⟩,hx4⟩
       obtain⟨O4,o4,rfl,_,_⟩:=jad.form hv4;have HV4:=zh hv4;have HX4:=zh hx4;clear hv4 hx4)
    | fail)
   go_ret2;exact⟨⟨_,rfl,jad.sub HV4.out (jdi (Nat.le_trans hsz HX3.out.size))⟩,HX.out.trans' (HX3.out.trans' HX4.out)⟩
 have hk:j11 B time=false:=by
   unfold j11;rw[Bool.and_eq_false_iff,decide_eq_false_iff_not,decide_eq_false_iff_not];omega
 rw[hk] at HKN;have hin1:=j4u hin;rw[HF.out,hin1];clear hok HF hk hin1 hin
 go_enter Tryz.func24,Tryz.ntmps24
 go_upto_region 1 with fail
 rw[← hW];clear hW
 go_wp2_with (first
  | (go_at_call 11;refine HOK.out.mono ?_;rintro e w1 ⟨rfl,hx1⟩
     have HX1:=zh hx1;have hb1:=HB.out.ext hx1;have q0:=hb1.cell 0;have q1:=hb1.cell 1;have q2:=hb1.cell 2;have q3:=hb1.cell 3;have ql:=hb1.lt;clear hx1 hb1 p0 p1 p2 p3 pl)
  | (go_at_call 83;refine (HKN.out _ HX1.out).mono ?_;rintro e w2 ⟨rfl,hx2⟩
     have HX2:=zh (HX1.out.trans' hx2);clear hx2)
  | fail)
 go_ret2;exact⟨⟨_,rfl,jad.nil 0 (Nat.zero_le _) _⟩,HX.out.trans' HX2.out⟩
theorem j2m (B:GB) (time:Int) (v:Value) (w:World) {S:Nat→Prop} (hv:BaseR S w v B) (he:ErrIs w) :
  Calls Tryz.prog 7 #[v,.int .i64 time] w fun e w'=>e=.returned (.bool true)∧Ext w w':=by
 obtain⟨a1,ac1,a2,ac2,a3,ac3,rfl⟩:=BaseR.form hv;have hx0:=(Ext.refl w).alloc (.cells #[.slice a1 B.rules.length ac1,.int .i64 B.time,.slice a2 B.given.length ac2,.slice a3 B.hist.length ac3] 26);have KAZ:=zh (Blk.new w 26 #[.slice a1 B.rules.length ac1,.int .i64 B.time,.slice a2 B.given.length ac2,.slice a3 B.hist.length ac3]);have HV:=zh (BaseR.ext hv hx0);have HE:=zh (he.ext hx0);have HX0:=zh hx0;obtain⟨hs1,hs2⟩:=jbw (jj0 B _ 1048576 _ ⟨by omega,by omega⟩ HV.out);clear hv he hx0;by_cases hbig:(1048576:Int)<wBase B
 · have HSZ:=zh (hs1 hbig)
   clear hs1 hs2 hbig
   go_enter Tryz.func7,Tryz.ntmps7;go_wp2_with (go_at_call 8;refine HSZ.out.mono ?_;rintro e w1 ⟨rfl,hx1⟩)
   go_ret;exact⟨rfl,HX0.out.trans' hx1⟩
 have hfew:wBase B≤1048576:=by omega
 have HSZ:=zh (hs2 (by omega));have EZ:=zh (Ext.refl (w.alloc (.cells #[.slice a1 B.rules.length ac1,.int .i64 B.time,.slice a2 B.given.length ac2,.slice a3 B.hist.length ac3] 26)));have hcA:1+costB B≤100000000:=by have:=j4j B;omega
 obtain⟨L,hRV⟩:∃ r,r=(j1p B time).1:=⟨_,rfl⟩
 have hcR:1+j1n L≤100000000:=by rw[hRV];exact j3c B time
 obtain⟨K,hK⟩:=nm (1+j1n L)
 obtain⟨KR,hKR⟩:∃ K,K=1+costB B:=⟨_,rfl⟩
 obtain⟨lft,hlft⟩:∃ q:Int,q=1048576-(wBase B:Int):=⟨_,rfl⟩
 have hlf0:0≤lft:=by omega
 have hlf1:lft≤1048576:=by omega
 rw[← hlft] at HSZ;have hK1:1≤K:=by omega
 have hK2:K≤100000000:=by omega
 have hKR1:1≤KR:=by omega
 have hKR2:KR≤100000000:=by omega
 have HT:=zh (fun (W:World) (hW:Ext (w.alloc (.cells #[.slice a1 B.rules.length ac1,.int .i64 B.time,.slice a2 B.given.length ac2,.slice a3 B.hist.length ac3] 26)) W)=>show Calls Tryz.prog 10 #[.agg #[.slice a1 B.rules.length ac1,.int .i64 B.time,.slice a2 B.given.length ac2,.slice a3 B.hist.length ac3]] W fun e w'=>(∃ u,e=.returned u∧BaseO (From W.heap.size) w' u B)∧Ext W w' from jj1 B _ W (BaseR.ext HV.out hW) hfew);obtain⟨ok,hok⟩:∃ r,r=(j1p B time).2:=⟨_,rfl⟩
 have hoo:(ok == ok)=true:=beq_self_eq_true _;have HS:=zh (fun (u:Value) (W:World) (Z:Nat→Prop) (hu:BaseR Z W u B)=>show Calls Tryz.prog 25 #[u,.int .i64 time] W fun e w'=>(∃ b,e=.returned (.tuple #[b,.bool ok])∧jac Any w' b L)∧Ext W w' from by rw[hRV,hok];exact j2o B time u W hu);have HI:=zh (fun (u:Value) (W:World) (Z:Nat→Prop) (hW:Ext (w.alloc (.cells #[.slice a1 B.rules.length ac1,.int .i64 B.time,.slice a2 B.given.length ac2,.slice a3 B.hist.length ac3] 26)) W) (hu:BaseR Z W u B)=>show Calls Tryz.prog 24 #[u,.int .i64 time] W fun e w'=>(∃ b,e=.returned (.tuple #[b,.bool ok])∧jba (From W.heap.size) w' b L)∧Ext W w' from by rw[hRV,hok];exact j2p B time u W hu (HE.out.ext hW))
 have HMR:=zh (fun (u:Value) (W:World) (Z:Nat→Prop) (hu:BaseO Z W u B)=>show Calls Tryz.prog 31 #[u,.int .i64 1] W fun e w'=>e=.returned (.int .i64 KR)∧jab Z W w' from
  (j27 B u 1 W hu (Nat.le_refl _) (by omega)).mono fun e w' ⟨⟨q,hq,he⟩,h⟩=>⟨by rw[he,hq,hKR],h.2⟩)
 have HMB:=zh (fun (u:Value) (W:World) (Z:Nat→Prop) (hu:jba Z W u L)=>show Calls Tryz.prog 35 #[u,.int .i64 1] W fun e w'=>e=.returned (.int .i64 K)∧jba Z w' u (j1o 1 L)∧jab Z W w' from
  (j1u u L 1 W hu (Nat.le_refl _) (by omega)).mono fun e w' ⟨⟨q,hq,he⟩,h⟩=>⟨by rw[he,hq,hK],h⟩)
 have HHB:=zh (fun (u:Value) (W:World) (Z:Nat→Prop) (hu:jac Z W u (j1o 1 L))=>show Calls Tryz.prog 36 #[u,.int .i64 1] W fun e w'=>e=.returned (.int .i64 K)∧Ext W w' from
  (j2z u L 1 W hu (Nat.le_refl _) (by omega)).mono fun e w' ⟨⟨q,hq,he⟩,h⟩=>⟨by rw[he,hq,hK],h⟩)
 have HEQ:=zh (fun (u u':Value) (W:World) (Z Z':Nat→Prop) (h1:jac Z W u L) (h2:jac Z' W u' L)=>jet u u' L W h1 h2);have HEA:=zh (fun (u u':Value) (W:World) (Z Z':Nat→Prop) (h1:BaseR Z W u B) (h2:BaseR Z' W u' B)=>jhw B u u' W h1 h2);have tok1:True:=trivial;have tok2:True:=trivial;have tok3:True:=trivial;have tok4:True:=trivial;have tok5:True:=trivial;have tok6:True:=trivial;have tok7:True:=trivial;have tok8:True:=trivial;have tok9:True:=trivial;have tok10:True:=trivial;have tok11:True:=trivial;have tok12:True:=trivial;have tok13:True:=trivial;have tok14:True:=trivial;clear HE hs1 hs2 hbig hfew hcA hcR hRV hK hKR hlft hok
 go_enter Tryz.func7,Tryz.ntmps7
 go_wp2_with (first
  | (go_at_call 8;have _t:=tok1;refine (HSZ.out).mono ?_;clear tok1 _t;rintro e w1 ⟨rfl,hx1⟩
     have HST:=zh hx1;have E1:=zh (EZ.out.trans' HST.out);clear EZ;have KA1:=zh (KAZ.out.ext HST.out);clear KAZ;clear HST hx1;have pa0:=KA1.out.cell 0;have pa1:=KA1.out.cell 1;have pa2:=KA1.out.cell 2;have pa3:=KA1.out.cell 3;have la:=KA1.out.lt)
  | (go_at_call 10;have _t:=tok2;refine (HT.out _ E1.out).mono ?_;clear tok2 _t;rintro e w2 ⟨⟨u1,rfl,hu1⟩,hx2⟩
     have HST:=zh hx2;have U1:=zh (BaseO.read hu1);clear pa0 pa1 pa2 pa3 la;have E2:=zh (E1.out.trans' HST.out);clear E1;have KA2:=zh (KA1.out.ext HST.out);clear KA1;clear HST hx2 hu1)
  | (go_at_call 25;have _t:=tok3;refine (HS.out _ _ _ U1.out).mono ?_;clear tok3 _t;rintro e w3 ⟨⟨b0,rfl,hb0⟩,hx3⟩
     have HN0:=zh (show w.heap.size+1≤w3.heap.size from by have h:=(E2.out.trans' hx3).size;rwa [World.size_alloc] at h);obtain⟨s1,sc1,rfl,hsc1,hsc2⟩:=jaa.form hb0;have HST:=zh hx3;have B3:=zh (jac.low hb0);have E3:=zh (E2.out.trans' HST.out);clear E2;have KA3:=zh (KA2.out.ext HST.out);clear KA2;clear HST hx3 hb0 U1;have pa0:=KA3.out.cell 0;have pa1:=KA3.out.cell 1;have pa2:=KA3.out.cell 2;have pa3:=KA3.out.cell 3;have la:=KA3.out.lt)
  | (go_at_call 10;have _t:=tok4;refine (HT.out _ E3.out).mono ?_;clear tok4 _t;rintro e w4 ⟨⟨x0,rfl,hx0⟩,hx4⟩
     have HN1:=zh (show w3.heap.size≤w4.heap.size from by have h:=hx4.size;exact h);obtain⟨x1,xc1,x2,xc2,x3,xc3,rfl⟩:=BaseR.form (BaseO.read hx0);have HST:=zh (hx4.alloc (.cells #[.slice x1 B.rules.length xc1,.int .i64 B.time,.slice x2 B.given.length xc2,.slice x3 B.hist.length xc3] 33));have X4:=zh (BaseO.ext (BaseO.imp hx0 (S':=fun i=>w3.heap.size≤i∧i<w4.heap.size) (fun i (h:_≤i) k=>⟨by exact h,k⟩) (.refl _ _) (Nat.le_refl _)) ((Ext.refl w4).alloc (.cells #[.slice x1 B.rules.length xc1,.int .i64 B.time,.slice x2 B.given.length xc2,.slice x3 B.hist.length xc3] 33)));have KX4:=zh (Blk.new w4 33 #[.slice x1 B.rules.length xc1,.int .i64 B.time,.slice x2 B.given.length xc2,.slice x3 B.hist.length xc3]);clear pa0 pa1 pa2 pa3 la;have E4:=zh (E3.out.trans' HST.out);clear E3;have KA4:=zh (KA3.out.ext HST.out);clear KA3;have B4:=zh (jac.ext B3.out HST.out);clear B3;clear HST hx4 hx0)
  | (go_at_call 24;have _t:=tok5;refine (HI.out _ _ _ E4.out (BaseO.read X4.out)).mono ?_;clear tok5 _t;rintro e w5 ⟨⟨g0,rfl,hg0⟩,hx5⟩
     have HN2:=zh (show w4.heap.size+1≤w5.heap.size from by have h:=hx5.size;rwa [World.size_alloc] at h);obtain⟨g1,gc1,rfl,hgc1,hgc2⟩:=jad.form hg0;have HST:=zh hx5;have G5:=zh (jad.imp hg0 (S':=fun i=>w4.heap.size+1≤i∧i<w5.heap.size) (fun i (h:_≤i) k=>⟨by rwa [World.size_alloc] at h,k⟩) (.refl _ _) (Nat.le_refl _));have HN:=zh (And.intro HN0.out (And.intro HN1.out HN2.out));have E5:=zh (E4.out.trans' HST.out);clear E4;have KA5:=zh (KA4.out.ext HST.out);clear KA4;have B5:=zh (jac.ext B4.out HST.out);clear B4;have X5:=zh (BaseO.ext X4.out HST.out);clear X4;have KX5:=zh (KX4.out.ext HST.out);clear KX4;clear HST hx5 hg0 HN0 HN1 HN2)
  | (go_at_call 34;have _t:=tok6;refine (HEQ.out _ _ _ _ _ (jba.read G5.out) B5.out).mono ?_;clear tok6 _t;rintro e w6 ⟨rfl,hx6⟩
     have HST:=zh hx6;have E6:=zh (E5.out.trans' HST.out);clear E5;have KA6:=zh (KA5.out.ext HST.out);clear KA5;have B6:=zh (jac.ext B5.out HST.out);clear B5;have X6:=zh (BaseO.ext X5.out HST.out);clear X5;have KX6:=zh (KX5.out.ext HST.out);clear KX5;have G6:=zh (jad.ext G5.out HST.out);clear G5;clear HST hx6;have pa0:=KA6.out.cell 0;have pa1:=KA6.out.cell 1;have pa2:=KA6.out.cell 2;have pa3:=KA6.out.cell 3;have la:=KA6.out.lt;have px0:=KX6.out.cell 0;have px1:=KX6.out.cell 1;have px2:=KX6.out.cell 2;have px3:=KX6.out.cell 3;have lx:=KX6.out.lt))
 go_region_held3 (fun w'=>w'.cell? ⟨w.heap.size,0,none⟩=some (.slice a1 B.rules.length ac1)∧w'.cell? ⟨w.heap.size,1,none⟩=some (.int .i64 B.time)∧w'.cell? ⟨w.heap.size,2,none⟩=some (.slice a2 B.given.length ac2)∧w'.cell? ⟨w.heap.size,3,none⟩=some (.slice a3 B.hist.length ac3)∧w'.cell? ⟨w4.heap.size,0,none⟩=some (.slice x1 B.rules.length xc1)∧w'.cell? ⟨w4.heap.size,1,none⟩=some (.int .i64 B.time)∧w'.cell? ⟨w4.heap.size,2,none⟩=some (.slice x2 B.given.length xc2)∧w'.cell? ⟨w4.heap.size,3,none⟩=some (.slice x3 B.hist.length xc3))
  (first|exact⟨pa0,pa1,pa2,pa3,px0,px1,px2,px3⟩|exact⟨sa0,sa1,sa2,sa3,sa4,sa5,sa6,sa7⟩|exact⟨ta0,ta1,ta2,ta3,ta4,ta5,ta6,ta7⟩)
  (first
   | (go_at_call 10;refine (HT.out _ E6.out.drew).mono ?_;rintro e w7 ⟨⟨u2,rfl,hu2⟩,hx7⟩
      have U2:=zh (BaseO.read hu2);have HX7:=zh hx7;have sa0:=(KeepR.of_ext (R:=Any) hx7).cell trivial pa0;have sa1:=(KeepR.of_ext (R:=Any) hx7).cell trivial pa1;have sa2:=(KeepR.of_ext (R:=Any) hx7).cell trivial pa2;have sa3:=(KeepR.of_ext (R:=Any) hx7).cell trivial pa3;have sa4:=(KeepR.of_ext (R:=Any) hx7).cell trivial px0;have sa5:=(KeepR.of_ext (R:=Any) hx7).cell trivial px1;have sa6:=(KeepR.of_ext (R:=Any) hx7).cell trivial px2;have sa7:=(KeepR.of_ext (R:=Any) hx7).cell trivial px3;clear hu2 hx7)
   | (go_at_call 12;refine (HEA.out _ _ _ _ _ (BaseO.read (BaseO.ext X6.out ((Ext.refl w6).drew.trans' HX7.out))) U2.out).mono ?_;rintro e w8 ⟨rfl,hx8⟩
      have HX8:=zh hx8;have ta0:=(KeepR.of_ext (R:=Any) hx8).cell trivial sa0;have ta1:=(KeepR.of_ext (R:=Any) hx8).cell trivial sa1;have ta2:=(KeepR.of_ext (R:=Any) hx8).cell trivial sa2;have ta3:=(KeepR.of_ext (R:=Any) hx8).cell trivial sa3;have ta4:=(KeepR.of_ext (R:=Any) hx8).cell trivial sa4;have ta5:=(KeepR.of_ext (R:=Any) hx8).cell trivial sa5;have ta6:=(KeepR.of_ext (R:=Any) hx8).cell trivial sa6;have ta7:=(KeepR.of_ext (R:=Any) hx8).cell trivial sa7))
 have HST:=zh ((Ext.refl w6).drew.trans' (HX7.out.trans' HX8.out));clear pa0 pa1 pa2 pa3 la px0 px1 px2 px3 lx;clear sa0 sa1 sa2 sa3 sa4 sa5 sa6 sa7 ta0 ta1 ta2 ta3 ta4 ta5 ta6 ta7;have E8:=zh (E6.out.trans' HST.out);clear E6;have KA8:=zh (KA6.out.ext HST.out);clear KA6;have B8:=zh (jac.ext B6.out HST.out);clear B6;have X8:=zh (BaseO.ext X6.out HST.out);clear X6;have KX8:=zh (KX6.out.ext HST.out);clear KX6;have G8:=zh (jad.ext G6.out HST.out);clear G6;clear HST HX7 HX8 hx8 U2;have px0:=KX8.out.cell 0;have px1:=KX8.out.cell 1;have px2:=KX8.out.cell 2;have px3:=KX8.out.cell 3;have lx:=KX8.out.lt
 go_wp2_with (first
  | (go_at_call 31;have _t:=tok7;refine (HMR.out _ _ _ X8.out).mono ?_;clear tok7 _t;rintro e w9 ⟨rfl,hi9⟩
     clear px0 px1 px2 px3 lx;obtain⟨hn1,hn2,hn3⟩:=HN.out;have E9:=zh (hi9.toExt E8.out (fun i (hT:w3.heap.size≤i∧i<w4.heap.size)=>by simp only[World.size_alloc];omega));clear E8;have KA9:=zh (hi9.blk KA8.out (fun hT=>by have hT2:w3.heap.size≤w.heap.size∧w.heap.size<w4.heap.size:=hT;omega));clear KA8;have B9:=zh (jac.imp B8.out (fun _ h=>h) (fun i (hs:i<w3.heap.size) hlt=>hi9.block i hlt (fun (hT:w3.heap.size≤i∧i<w4.heap.size)=>by omega)) hi9.size);clear B8;clear X8;have KX9:=zh (hi9.blk KX8.out (fun hT=>by have hT2:w3.heap.size≤w4.heap.size∧w4.heap.size<w4.heap.size:=hT;omega));clear KX8;have G9:=zh (jad.imp G8.out (fun _ h _=>h) (fun i (hs:w4.heap.size+1≤i∧i<w5.heap.size) hlt=>hi9.block i hlt (fun (hT:w3.heap.size≤i∧i<w4.heap.size)=>by omega)) hi9.size);clear G8;clear hn1 hn2 hn3;clear hi9)
  | (go_at_call 34;have _t:=tok8;refine (HEQ.out _ _ _ _ _ (jba.read G9.out) B9.out).mono ?_;clear tok8 _t;rintro e w10 ⟨rfl,hx10⟩
     have HST:=zh hx10;have E10:=zh (E9.out.trans' HST.out);clear E9;have KA10:=zh (KA9.out.ext HST.out);clear KA9;have B10:=zh (jac.ext B9.out HST.out);clear B9;have KX10:=zh (KX9.out.ext HST.out);clear KX9;have G10:=zh (jad.ext G9.out HST.out);clear G9;clear HST hx10)
  | (go_at_call 35;have _t:=tok9;refine (HMB.out _ _ _ G10.out).mono ?_;clear tok9 _t;rintro e w11 ⟨rfl,hg11,hi11⟩
     obtain⟨hn1,hn2,hn3⟩:=HN.out;have E11:=zh (hi11.toExt E10.out (fun i (hT:w4.heap.size+1≤i∧i<w5.heap.size)=>by simp only[World.size_alloc];omega));clear E10;have KA11:=zh (hi11.blk KA10.out (fun hT=>by have hT2:w4.heap.size+1≤w.heap.size∧w.heap.size<w5.heap.size:=hT;omega));clear KA10;have B11:=zh (jac.imp B10.out (fun _ h=>h) (fun i (hs:i<w3.heap.size) hlt=>hi11.block i hlt (fun (hT:w4.heap.size+1≤i∧i<w5.heap.size)=>by omega)) hi11.size);clear B10;have KX11:=zh (hi11.blk KX10.out (fun hT=>by have hT2:w4.heap.size+1≤w4.heap.size∧w4.heap.size<w5.heap.size:=hT;omega));clear KX10;have G11:=zh hg11;clear G10;clear hn1 hn2 hn3;clear hi11 hg11)
  | (go_at_call 36;have _t:=tok10;refine (HHB.out _ _ _ (jba.read G11.out)).mono ?_;clear tok10 _t;rintro e w12 ⟨rfl,hx12⟩
     have HST:=zh hx12;have E12:=zh (E11.out.trans' HST.out);clear E11;have KA12:=zh (KA11.out.ext HST.out);clear KA11;have B12:=zh (jac.ext B11.out HST.out);clear B11;have KX12:=zh (KX11.out.ext HST.out);clear KX11;have G12:=zh (jad.ext G11.out HST.out);clear G11;clear HST hx12;have pa0:=KA12.out.cell 0;have pa1:=KA12.out.cell 1;have pa2:=KA12.out.cell 2;have pa3:=KA12.out.cell 3;have la:=KA12.out.lt)
  | (go_at_call 10;have _t:=tok11;refine (HT.out _ E12.out).mono ?_;clear tok11 _t;rintro e w13 ⟨⟨u3,rfl,hu3⟩,hx13⟩
     have HST:=zh hx13;have U3:=zh (BaseO.read hu3);clear hu3;clear pa0 pa1 pa2 pa3 la;have E13:=zh (E12.out.trans' HST.out);clear E12;have KA13:=zh (KA12.out.ext HST.out);clear KA12;have B13:=zh (jac.ext B12.out HST.out);clear B12;have KX13:=zh (KX12.out.ext HST.out);clear KX12;have G13:=zh (jad.ext G12.out HST.out);clear G12;clear HST hx13)
  | (go_at_call 24;have _t:=tok12;refine (HI.out _ _ _ E13.out U3.out).mono ?_;clear tok12 _t;rintro e w14 ⟨⟨h0,rfl,hh0⟩,hx14⟩
     obtain⟨h1,hc1,rfl,hhc1,hhc2⟩:=jad.form hh0;have HST:=zh hx14;have H14:=zh (jba.read hh0);have E14:=zh (E13.out.trans' HST.out);clear E13;have KA14:=zh (KA13.out.ext HST.out);clear KA13;have B14:=zh (jac.ext B13.out HST.out);clear B13;have KX14:=zh (KX13.out.ext HST.out);clear KX13;have G14:=zh (jad.ext G13.out HST.out);clear G13;clear HST hx14 hh0 U3)
  | (go_at_call 34;have _t:=tok13;refine (HEQ.out _ _ _ _ _ H14.out B14.out).mono ?_;clear tok13 _t;rintro e w15 ⟨rfl,hx15⟩
     have HST:=zh hx15;clear H14;have E15:=zh (E14.out.trans' HST.out);clear E14;have KA15:=zh (KA14.out.ext HST.out);clear KA14;have B15:=zh (jac.ext B14.out HST.out);clear B14;have KX15:=zh (KX14.out.ext HST.out);clear KX14;have G15:=zh (jad.ext G14.out HST.out);clear G14;clear HST hx15)
  | (go_at_call 36;have _t:=tok14;refine (HHB.out _ _ _ (jba.read G15.out)).mono ?_;clear tok14 _t;rintro e w16 ⟨rfl,hx16⟩
     have E16:=zh (E15.out.trans' hx16);clear hx16))
 go_ret;exact⟨rfl,HX0.out.trans' E16.out⟩
end Go.Proofs.YthdojieomhighaaGreatDoor
namespace Go.Proofs.YthdojieomhighaaGreatDoor
open Go.RowKit Go.ChangeShapes Go.WideShapes
theorem j4z:ownKnob Tryz.prog.godebug=none:=by kernel_rfl
theorem j3n:laidOutB Tryz.prog=true:=by kernel_rfl
section
variable {H:Type} {enc:TypeId × Value→H} {P:Program}
theorem j17 (hl:laidOutB P=true) {W W':World} (hb:Below W.heap.size W W'):∀ (ts:List TypeId) (vs:List Value) (ds:List (DataW H)) (ps:List MemPlace),(∀ t∈ts,P.readableRec t=true∧t<P.types.size) →
  DataW.TrodAll enc P W 0 (fun _=>true) true ts vs ds ps→(∀ x∈ps,x.block<W.heap.size)→∀ sp:Nat→Bool,(∀ x∈ps,sp x.block=true)→DataW.TrodAll enc P W' 0 sp true ts vs ds ps
 | [],[],[],ps,_,h,_,_,_=>h
 | t :: ts,v :: vs,d :: ds,ps,ht,h,hlt,sp,hsp=>by
   obtain⟨p,q,h1,h2,rfl⟩:=h;refine⟨p,q,?_,j17 hl hb ts vs ds q (fun t ht'=>ht t (List.mem_cons_of_mem _ ht')) h2 (fun x hx=>hlt x (List.mem_append.2 (.inr hx))) sp (fun x hx=>hsp x (List.mem_append.2 (.inr hx))),rfl⟩;exact WideElems.Trod_stays hl (ht t (by simp)).1 (ht t (by simp)).2 h1 (fun x hx=>hb.same (hlt x (List.mem_append.2 (.inl hx)))) (fun x hx=>hsp x (List.mem_append.2 (.inl hx)))
 | [],_ :: _,_,_,_,h,_,_,_=>by simp[DataW.TrodAll] at h
 | [],[],_ :: _,_,_,h,_,_,_=>by simp[DataW.TrodAll] at h
 | _ :: _,[],_,_,_,h,_,_,_=>by simp[DataW.TrodAll] at h
 | _ :: _,_ :: _,[],_,_,h,_,_,_=>by simp[DataW.TrodAll] at h
theorem j4k {f:Func} {s:ChangeSpec} {apart fresh handsOn again:Bool} {W W':World} {args:Array Value} {ds:List (DataW H)} {before:List MemPlace} {t:TypeId}
  (hvars:s.vars=[]) (hres:f.resultTypes = #[t]) (hbool:P.underlying t=some .bool) (hspec:s.fn H (ds++[]) = { results:=[.lit (.bool true)],args:=ds })
  (hl:laidOutB P=true) (hts:∀ t∈f.params.toList,P.readableRec t=true∧t<P.types.size)
  (hW:DataW.Whole enc P f.params.toList s.vars apart W args.toList ds [] before) (hb:Below W.heap.size W W') :
  s.post enc P f apart fresh handsOn again W args (.bool true) W':=by
 obtain⟨p,q,hA,hV,hpq,hz,hn⟩:=id hW
 have hq:q=[]:=by
  rw[hvars] at hV;obtain⟨_,h2⟩:=trodVars_none hV;exact h2
 subst hq;rw[List.append_nil] at hpq;subst hpq;have hlt:∀ x∈before,x.block<W.heap.size:=fun x hx=>hW.lt x hx
 have hstay:=j17 hl hb _ _ _ _ hts hA hlt;have hold:∀ x∈before,(fun b=>decide (b<W.heap.size)) x.block=true:=fun x hx=>by simpa using hlt x hx
 have hr:∀ (b:Nat) (sp:Nat→Bool) (hd:Bool),DataW.TrodAll enc P W' b sp hd f.resultTypes.toList ((Value.bool true).resultList f.resultTypes.size) (s.fn H (ds++[])).results []:=by
  intro b sp hd;rw[hres,hspec];exact trodAll_mk1 (shut_bool hbool true)
 have hvr:∀ sp:Nat→Bool,DataW.TrodVars enc P W' sp s.vars (s.fn H (ds++[])).vars []:=by
  intro sp;rw[hvars,hspec]
  rfl
 have hargs:∀ sp:Nat→Bool,(∀ x∈before,sp x.block=true)→DataW.TrodAll enc P W' 0 sp true f.params.toList args.toList (s.fn H (ds++[])).args before:=by
  intro sp hsp;rw[hspec];exact hstay sp hsp
 refine⟨ds,[],before,[],before,[],hW,hr _ _ _,hargs _ hold,hvr _,World.keptBut_mono (fun x hx=>⟨hx,.inr (by simpa using hx)⟩) (hb.frame (· ∈before)),fun _=>?_⟩;refine⟨ok_one hres rfl (okWide_bool_mk hbool true),_,_,([]++before)++[],⟨[]++before,[],trodAll_append (hargs _ (fun _ _=>rfl)) (hr _ _ _),hvr _,rfl,?_,?_⟩,?_⟩
 · intro b off hp
   have hin:MemPlace.cell b off∈before:=by simpa using hp
   rw[hb.frozen (hlt _ hin)];exact hz b off hin
 · intro ha
   have:=hn ha;simpa using this
 intro x hx _;simpa using hx
end
end Go.Proofs.YthdojieomhighaaGreatDoor
namespace Go.Proofs.YthdojieomhighaaGreatDoor
open Go Go.RowKit Go.ChangeShapes Go.WideShapes Go.ChangeAt
theorem j44:(Rows.fnExactBaseAtRow.wf (OpenSpec.ofChange Rows.fnExactBaseAtSpec) && laidOutB Tryz.pinned.checked.prog && mapsRowed Tryz.pinned.checked.prog)=true:=by kernel_rfl
theorem j3o:(Rows.fnExactBaseAtRow.inPlace == Tryz.pinned.checked.prog.inPlace 7)=true:=by kernel_rfl
theorem j2q:(Rows.fnExactBaseAtRow.unfollowed == Tryz.pinned.checked.prog.unfollowed 7)=true:=by kernel_rfl
theorem j3e:(Rows.fnExactBaseAtRow.recurses == Tryz.pinned.checked.prog.recurses 7)=true:=by kernel_rfl
theorem j4c:(Rows.fnExactBaseAtRow.named == Tryz.pinned.checked.prog.varsNamed 7)=true:=by kernel_rfl
theorem j3x:joinedFacts Tryz.pinned.checked.prog 7 Tryz.f7 Rows.fnExactBaseAtSpec Rows.fnExactBaseAtRow=true:=by
 unfold joinedFacts;rw[j44,j3o,j2q,j3e,j4c]
 kernel_rfl
theorem j4l:Rows.fnExactBaseAtRow.wfByText (OpenSpec.ofChange Rows.fnExactBaseAtSpec)=true:=by kernel_rfl
theorem j4m:Tryz.pinned.checked.prog.mainIs=some (true, "716a1bbada85004e6b2427beb1733e4d3f3d684104e8f0391f6013de4c71cca0".toList):=by kernel_rfl
theorem j4d:true=Tryz.pinned.checked.prog.looks []:=by kernel_rfl
theorem j4n:false=Rows.fnExactBaseAtRow.goesBy Tryz.pinned.checked.prog:=by kernel_rfl
theorem j4o:Tryz.pinned.checked.prog.funcNamed Rows.fnExactBaseAtRow.func=some 7:=by kernel_rfl
end Go.Proofs.YthdojieomhighaaGreatDoor
namespace Go.Proofs.YthdojieomhighaaGreatDoor
open Go.RowKit Go.ChangeShapes Go.WideShapes Go.Deep
section
variable {H:Type} {enc:TypeId × Value→H} {P:Program} {w:World} {base:Nat} {spare:Nat→Bool} {held:Bool}
theorem j2w {t e:TypeId} {fuel m:Nat} {v:Value} {x:DataW H × List MemPlace} (ht:P.underlying t=some (.slice e)) (hC:P.cellsOf e=m) (hm0:0<m) (h:DataW.trod enc P w base spare held fuel t [v]=some x) :
  ∃ (A : Option Addr) (n c:Nat),v=.slice A n c∧n≤c∧c≤maxLen ∧
    (0 < n→∃ b off,A=some ⟨b,off,none⟩∧b<w.heap.size∧∀ i,i<n→∃ (k:Nat) (cs:List Value),cs.length=m∧(∀ (j:Nat) (u:Value),cs[j]? = some u→w.cell? ⟨b,off+(i*m+j),none⟩=some u) ∧
     ∃ y,DataW.trod enc P w base spare held k e cs=some y):=by
 rcases open_slice ht h with ⟨hcs,_⟩|⟨a,len,cap,q,n,D,Pl,hcs,hb,hl,hm,hmm,hx,hi⟩
 · injection hcs with hv _
   subst hv;exact⟨none,0,0,rfl,Nat.le_refl _,Nat.zero_le _,fun h=>absurd h (by omega)⟩
 injection hcs with hv _
 subst hv;refine⟨some a,len,cap,rfl,hl,hm,fun h0=>?_⟩;have hml:len≤q:=by rw[hmm];split<;>omega
 have key:∀ i,i<len→∃ (k:Nat) (cs:List Value),cs.length=m∧(∀ (j:Nat) (u:Value),cs[j]? = some u→w.cell? (a.add (i*m+j))=some u)∧∃ y,DataW.trod enc P w base spare held k e cs=some y:=by
  intro i hilt;obtain⟨cs',hc,ht'⟩:=hi i (by omega);rw[hC] at hc;obtain⟨_,hcl,hat⟩:=World.cells?_some hc;refine⟨n,cs',hcl,fun j u hu=>?_,_,ht'⟩;have hjl:j<m:=by rw[← hcl];exact (List.getElem?_eq_some_iff.1 hu).1
  rw[← Go.Deep.add_add,hat j hjl,hu]
 obtain⟨k0,cs0,hl0,hc0,_⟩:=key 0 h0;have h00:=hc0 0 (cs0[0]'(by omega)) (List.getElem?_eq_getElem (by omega));rw[Nat.zero_mul,Nat.add_zero] at h00;have ha0:a.add 0=a:=by simp[Addr.add]
 rw[ha0] at h00;have haa:=j24 h00
 have hadd:∀ n,a.add n=⟨a.block,a.off+n,none⟩:=by
  intro n;unfold Addr.add;split
  · rename_i h;subst h;rw[Nat.add_zero];exact haa
  rfl
 refine⟨a.block,a.off,by rw[← haa],?_,fun i hilt=>?_⟩
 · rw[haa] at h00;exact jcm h00
 obtain⟨k,cs,hl1,hc1,hf1⟩:=key i hilt;exact⟨k,cs,hl1,fun j u hu=>by rw[← hadd];exact hc1 j u hu,hf1⟩
theorem j12 {e:TypeId} {fs:Array Field} {k m:Nat} {cs l:List Value} {y:DataW H × List MemPlace} (he:P.underlying e=some (.struct fs)) (h:DataW.trod enc P w base spare held k e cs=some y) (j:Nat) (f:Field) (hj:fs[j]? = some f)
  (hm:P.cellsOf f.type=m) (hl:(cs.drop f.offset).take m=l):∃ (k':Nat) (y':DataW H × List MemPlace),DataW.trod enc P w base spare held k' f.type l=some y':=by
 obtain⟨ys,n',hn',hy,hlen,hyl,hf⟩:=DataW.trod_struct he h;have h1:=hf j f hj;rw[hm,hl] at h1;have hjl:j<fs.size:=(Array.getElem?_eq_some_iff.1 hj).1;have hys:ys[j]? = some (ys[j]'(by omega)):=List.getElem?_eq_getElem (by omega);exact⟨_,_,h1.trans hys⟩
end
section
variable {H:Type} {enc:TypeId × Value→H} {w:World} {base:Nat} {spare:Nat→Bool} {held:Bool} {fuel:Nat} {v:Value} {x:DataW H × List MemPlace}
theorem j3f {c0 c1:Value} (h:DataW.trod enc Tryz.prog w base spare held fuel 132 [c0,c1]=some x):∃ (s:ByteArray) (ts:List GT),c0=.string s∧s.size≤maxLen∧jae Any w c1 ts:=by
 obtain⟨k0,y0,h0⟩:=j12 Tryz.underlying132 h 0 _ rfl (m:=1) (l:=[c0]) (by kernel_rfl) rfl;obtain⟨k1,y1,h1⟩:=j12 Tryz.underlying132 h 1 _ rfl (m:=1) (l:=[c1]) (by kernel_rfl) rfl;obtain⟨s,e1,_,hs⟩:=DataW.trod_string Tryz.underlying9 h0;obtain⟨ts,ht⟩:=j2s h1;injection e1 with e1 _
 exact⟨s,ts,e1,hs,ht⟩
theorem j3y (h:DataW.trod enc Tryz.prog w base spare held fuel 133 [v]=some x):∃ xs:List GP,jao Any w v xs:=by
 obtain⟨A,n,c,rfl,h1,h2,h3⟩:=j2w (m:=3) Tryz.underlying133 (by kernel_rfl) (by decide) h;by_cases h0:0<n
 · obtain ⟨b,off,hA,hb,hrow⟩:=h3 h0
   obtain ⟨xs,hl,hr⟩:=ja7 (fun i (a:GP)=>∃ u,w.cell? ⟨b,off+(i*3+0),none⟩=some (.bool a.no)∧w.cell? ⟨b,off+(i*3+1),none⟩=some (.string a.atom.n)∧w.cell? ⟨b,off+(i*3+2),none⟩=some u∧a.atom.n.size≤maxLen∧jae Any w u a.atom.args) n 0 (fun i hi=>by
    rw[Nat.zero_add];obtain⟨k,cs,hcl,hc,y,hy⟩:=hrow i hi
    match cs,hcl with
    | [c0,c1,c2],_ =>
      obtain⟨k0,y0,hy0⟩:=j12 Tryz.underlying245 hy 0 _ rfl (m:=1) (l:=[c0]) (by kernel_rfl) rfl;obtain⟨k1,y1,hy1⟩:=j12 Tryz.underlying245 hy 1 _ rfl (m:=2) (l:=[c1,c2]) (by kernel_rfl) rfl;obtain⟨bv,e0,_⟩:=DataW.trod_bool Tryz.underlying4 hy0;injection e0 with e0 _
      obtain⟨s,ts,rfl,hs,ht⟩:=j3f hy1;subst e0;exact⟨⟨bv,⟨s,ts⟩⟩,c2,hc 0 _ rfl,hc 1 _ rfl,hc 2 _ rfl,hs,ht⟩)
   refine⟨xs,A,c,by rw[hl],by rw[hl];exact h1,h2,fun _=>⟨b,off,hA,hb,trivial,fun i x hx=>?_⟩⟩;obtain⟨u,r0,r1,r2,r3,r4⟩:=hr i x hx;rw[Nat.zero_add] at r0 r1 r2;refine⟨[.bool x.no,.string x.atom.n,u],rfl,fun j y hy=>?_,u,rfl,r3,r4⟩
   match j,hy with
   | 0,hy=>simp at hy;subst hy;exact r0
   | 1,hy=>simp at hy;subst hy;exact r1
   | 2,hy=>simp at hy;subst hy;exact r2
 obtain rfl:n=0:=by omega
 exact⟨[],jaa.nil_ c h2 A⟩
theorem j3z (h:DataW.trod enc Tryz.prog w base spare held fuel 22 [v]=some x):∃ xs:List GR,jal Any w v xs:=by
 obtain⟨A,n,c,rfl,h1,h2,h3⟩:=j2w (m:=3) Tryz.underlying22 (by kernel_rfl) (by decide) h;by_cases h0:0<n
 · obtain ⟨b,off,hA,hb,hrow⟩:=h3 h0
   obtain ⟨xs,hl,hr⟩:=ja7 (fun i (a:GR)=>∃ u z,w.cell? ⟨b,off+(i*3+0),none⟩=some (.string a.head.n)∧w.cell? ⟨b,off+(i*3+1),none⟩=some u∧w.cell? ⟨b,off+(i*3+2),none⟩=some z∧a.head.n.size≤maxLen∧jae Any w u a.head.args∧jao Any w z a.body) n 0 (fun i hi=>by
    rw[Nat.zero_add];obtain⟨k,cs,hcl,hc,y,hy⟩:=hrow i hi
    match cs,hcl with
    | [c0,c1,c2],_ =>
      obtain⟨k0,y0,hy0⟩:=j12 Tryz.underlying135 hy 0 _ rfl (m:=2) (l:=[c0,c1]) (by kernel_rfl) rfl;obtain⟨k1,y1,hy1⟩:=j12 Tryz.underlying135 hy 1 _ rfl (m:=1) (l:=[c2]) (by kernel_rfl) rfl;obtain⟨s,ts,rfl,hs,ht⟩:=j3f hy0;obtain⟨ps,hp⟩:=j3y hy1;exact⟨⟨⟨s,ts⟩,ps⟩,c1,c2,hc 0 _ rfl,hc 1 _ rfl,hc 2 _ rfl,hs,ht,hp⟩)
   refine⟨xs,A,c,by rw[hl],by rw[hl];exact h1,h2,fun _=>⟨b,off,hA,hb,trivial,fun i x hx=>?_⟩⟩;obtain⟨u,z,r0,r1,r2,r3,r4,r5⟩:=hr i x hx;rw[Nat.zero_add] at r0 r1 r2;refine⟨[.string x.head.n,u,z],rfl,fun j y hy=>?_,u,z,rfl,r3,r4,r5⟩
   match j,hy with
   | 0,hy=>simp at hy;subst hy;exact r0
   | 1,hy=>simp at hy;subst hy;exact r1
   | 2,hy=>simp at hy;subst hy;exact r2
 obtain rfl:n=0:=by omega
 exact⟨[],jaa.nil_ c h2 A⟩
end
end Go.Proofs.YthdojieomhighaaGreatDoor
namespace Go.Proofs.YthdojieomhighaaGreatDoor
open Go.RowKit Go.ChangeShapes Go.WideShapes Go.Joins
section
variable {H:Type} {enc:TypeId × Value→H} {w:World} {base:Nat} {spare:Nat→Bool} {held:Bool} {fuel:Nat} {v:Value} {x:DataW H × List MemPlace}
theorem j3g (h:DataW.trod enc Tryz.prog w base spare held fuel 24 [v]=some x):∃ xs:List GC,jan Any w v xs:=by
 obtain⟨A,n,c,rfl,h1,h2,h3⟩:=j2g Tryz.underlying24 Tryz.underlying139 (by kernel_rfl) (by kernel_rfl) (by decide) h;by_cases h0:0<n
 · obtain ⟨b,off,hA,hb,hrow⟩:=h3 h0
   obtain ⟨xs,hl,hr⟩:=ja7 (fun i (a:GC)=>∃ u z,w.cell? ⟨b,off+(i*2+0),none⟩=some u∧w.cell? ⟨b,off+(i*2+1),none⟩=some z∧jac Any w u a.comes∧jac Any w z a.goes) n 0 (fun i hi=>by
    rw[Nat.zero_add];obtain⟨k,cs,hcl,hc,hf⟩:=hrow i hi
    match cs,hcl with
    | [c0,c1],_ =>
      obtain⟨y0,hy0⟩:=hf 0 _ c0 rfl rfl;obtain⟨y1,hy1⟩:=hf 1 _ c1 rfl rfl;obtain⟨xs,hxs⟩:=j18 hy0;obtain⟨ys,hys⟩:=j18 hy1;exact⟨⟨xs,ys⟩,c0,c1,hc 0 _ rfl,hc 1 _ rfl,hxs,hys⟩)
   refine⟨xs,A,c,by rw[hl],by rw[hl];exact h1,h2,fun _=>⟨b,off,hA,hb,trivial,fun i x hx=>?_⟩⟩;obtain⟨u,z,r0,r1,r2,r3⟩:=hr i x hx;rw[Nat.zero_add] at r0 r1;refine⟨[u,z],rfl,fun j y hy=>?_,u,z,rfl,r2,r3⟩
   match j,hy with
   | 0,hy=>simp at hy;subst hy;exact r0
   | 1,hy=>simp at hy;subst hy;exact r1
 obtain rfl:n=0:=by omega
 exact⟨[],jaa.nil_ c h2 A⟩
theorem j2r:Tryz.prog.cellsOf 26=4:=by kernel_rfl
theorem j4e {r:Reach} {b0:Nat} {d:DataW H} {p:List MemPlace} (hv:Value.okWide Tryz.prog w r b0 26 v) (h:DataW.Trod enc Tryz.prog w base spare held 26 v d p):∃ B:GB,BaseR Any w v B:=by
 obtain⟨c0,c1,c2,c3,y0,y1,y2,y3,m,rfl,rfl,rfl,hy0,hy1,hy2,hy3⟩:=open_agg4 Tryz.underlying26 (by kernel_rfl) j2r hv h;obtain⟨rs,hrs⟩:=j3z hy0;obtain⟨n,e1,_⟩:=DataW.trod_int Tryz.underlying3 hy1;obtain⟨xs,hxs⟩:=j18 hy2;obtain⟨cs,hcs⟩:=j3g hy3;injection e1 with e1 _
 subst e1;exact⟨⟨rs,n,xs,cs⟩,c0,c2,c3,rfl,hrs,hxs,hcs⟩
end
end Go.Proofs.YthdojieomhighaaGreatDoor
namespace Go.Proofs.YthdojieomhighaaGreatDoor
open Go.RowKit Go.ChangeShapes Go.WideShapes Go.ChangeAt
theorem j45:Tryz.prog.globalNamed "errors.errorType" = some 0:=by kernel_rfl
theorem j46:(Tryz.prog.cutTypes.find? (·.1 == "internal/reflectlite.rtype")).map (·.2)=some 346:=by kernel_rfl
theorem j30:((List.range Tryz.prog.types.size).filter fun t=>Tryz.prog.rowNamed t [101,114,114,111,114])=[199]:=by kernel_rfl
theorem j31:typeHandle Tryz.prog 199=.pointer (some ⟨2,199,none⟩):=by kernel_rfl
theorem j40 {W:World} (h:laidMetH Tryz.prog Rows.fnExactBaseAtRow.laid W):ErrIs W:=by
 have h':laidMet Tryz.prog [] W∧handlesMet Tryz.prog Rows.fnExactBaseAtRow.laid W:=h;obtain⟨name,u,ty,e1,e2,e3,e4,e5⟩:=h'.2 _ (List.mem_singleton.2 rfl);have en:name=[101,114,114,111,114]:=(Option.some.inj e1).symm;subst en;obtain rfl:=Option.some.inj (j46.symm.trans e2);have hm:ty∈(List.range Tryz.prog.types.size).filter fun t=>Tryz.prog.rowNamed t [101,114,114,111,114]:=List.mem_filter.2 ⟨List.mem_range.2 e3,e4⟩
 rw[j30] at hm;obtain rfl:=List.mem_singleton.1 hm;rw[j31] at e5;simpa [ErrIs] using World.var?_cell j45 e5 0
noncomputable def j3h (os:Os):World :=
 let w0:=World.holding Tryz.prog os ⟨#[],#[],[]⟩
 { w0 with heap:=w0.heap.modify 0 fun
  | .cells _ t frozen=>.cells #[.iface 346 (.agg #[.pointer (some ⟨2,199,none⟩)])] t frozen
  | o=>o }
theorem j41 (os:Os) (args:Array Value):laidMetH Tryz.prog Rows.fnExactBaseAtRow.laid ((j3h os).forCall (fun _ _=>0) ⟨#[],args,[]⟩).memory :=
 laidMetH_of_parts (laidMet_nil _ _) (by kernel_rfl)
theorem j32 (os:Os) (started:os.Started) (H:Type) (enc:TypeId × Value→H) :
  ReturnsInHanded {} Tryz.checked os 7 .any (fun w args=>(Rows.fnExactBaseAtSpec.pre enc Tryz.prog Tryz.f7 [] false w args∧laidMetH Tryz.prog Rows.fnExactBaseAtRow.laid w)∧sizedMet enc Tryz.prog Tryz.f7 (OpenSpec.ofChange Rows.fnExactBaseAtSpec) false w args)
   (Rows.fnExactBaseAtSpec.post enc Tryz.prog Tryz.f7 false true false false):=by
 refine returnsInHanded_of_change_and (C:=Tryz.checked) (X:=fun w _=>laidMetH Tryz.prog Rows.fnExactBaseAtRow.laid w) (fun _ _ _ hh h=>h.of_heap hh) j4z started (by kernel_rfl) Tryz.func7
  (ChangeSpec.witness_at (enc:=enc) (C:=Tryz.checked) (os:=os) (X:=fun w _=>laidMetH Tryz.prog Rows.fnExactBaseAtRow.laid w) false (j3h os) #[.agg #[.slice none 0 0,.int .i64 0,.slice none 0 0,.slice none 0 0],.int .i64 0] 8 rfl (by kernel_rfl) (by kernel_rfl) (by kernel_rfl) (by kernel_rfl) (by kernel_rfl) (j41 os _)) ?_
 intro W base args ds gs before hval0 hW _ _ hL _;have hval:∀ (j:Nat) t v,Tryz.f7.params[j]? = some t→args[j]? = some v→Value.okWide Tryz.prog W .any base t v:=hval0;have hW':=hW;obtain⟨p,q,hA0,hV,rfl,hfz,hnd⟩:=hW;have hA:DataW.TrodAll enc Tryz.prog W 0 (fun _=>true) true Tryz.f7.params.toList args.toList ds p:=hA0;rw[Tryz.params7] at hA hval;obtain⟨v0,v1,d0,d1,p0,p1,rfl,rfl,rfl,h0,h1⟩:=trodAll_two hA;obtain⟨rfl,rfl⟩:=trodVars_none hV;clear hA0 hval0;simp only[List.append_nil] at hW';obtain⟨B,hB⟩:=j4e (hval 0 26 v0 rfl rfl) h0;obtain⟨_,h1'⟩:=h1;obtain⟨n,e1,_⟩:=DataW.trod_int Tryz.underlying3 h1';obtain⟨_,rfl⟩:=okWide_int Tryz.underlying3 (hval 1 3 v1 rfl rfl);injection e1 with e1 _
 injection e1 with _ e2
 subst e2;refine (j2m B _ _ W hB (j40 hL)).mono fun e W' ⟨he,hw⟩=>?_
 subst he;exact⟨_,rfl,j4k (t:=4) rfl rfl Tryz.underlying4 rfl j3n (by rw[Tryz.params7];intro t ht;simp at ht;rcases ht with rfl|rfl<;>exact⟨by kernel_rfl,of_decide_eq_true (by kernel_rfl)⟩) hW' hw⟩
theorem j4p:Tryz.f7.isInstance Tryz.pinned.checked.prog Rows.fnExactBaseAtRow.origin Rows.fnExactBaseAtRow.targs:=of_decide_eq_true (by kernel_rfl)
theorem j4q:Tryz.f7.isWrapper Tryz.pinned.checked.prog Rows.fnExactBaseAtRow.wrapper Rows.fnExactBaseAtRow.mainSum:=by
 unfold Func.isWrapper;rw[if_neg (of_decide_eq_false (by kernel_rfl))];exact⟨rfl,rfl⟩
theorem j42 (os:Os) (started:os.Started) (H:Type) (enc:TypeId × Value→H) (_:∀ a b,enc a=enc b→a=b) :
  ReturnsInHanded Rows.fnExactBaseAtRow.assume Tryz.pinned.checked os 7 .any (Rows.fnExactBaseAtRow.pre enc Tryz.pinned.checked.prog Tryz.f7 (OpenSpec.ofChange Rows.fnExactBaseAtSpec)) (Rows.fnExactBaseAtSpec.post enc Tryz.pinned.checked.prog Tryz.f7 Rows.fnExactBaseAtRow.apart Rows.fnExactBaseAtRow.fresh Rows.fnExactBaseAtRow.handsOn Rows.fnExactBaseAtRow.again) :=
 j32 os started H enc
theorem j4r:Rows.fnExactBaseAtRow.holds Tryz.pinned (OpenSpec.ofChange Rows.fnExactBaseAtSpec) :=
 OpenClaim.holds_of_wide 7 Tryz.f7 rfl rfl rfl rfl rfl rfl rfl ⟨rfl,rfl,rfl,rfl,rfl⟩ rfl rfl rfl rfl rfl (by kernel_rfl) Tryz.func7 j3x j4p j4q j42
theorem j4s:Rows.FnExactBaseAtSaid:=j4r
theorem j4t:([26,3].all fun u=> !Tryz.pinned.checked.prog.wantsStandIn u)=true:=by kernel_rfl
theorem fnExactBaseAt_holds:Rows.FnExactBaseAtCardSaid :=
 Claim7.holds_tied_plain_at .later [] [.handle] true (true, "716a1bbada85004e6b2427beb1733e4d3f3d684104e8f0391f6013de4c71cca0") true
  j4s (fun _ h=>by cases h) j4l (fun _ h=>by cases h) fnExactBaseAt_row_tie rfl ⟨rfl,rfl⟩ j4m rfl
  (fun f fn hf hfn=>by
   obtain rfl:f=7:=Option.some.inj (j4o.symm.trans hf) |>.symm
   obtain rfl:fn=Tryz.f7:=(Option.some.inj (Tryz.func7.symm.trans hfn)).symm
   exact ⟨j4d,fun j t ht=>by
    rw[Tryz.params7] at ht;have hm:t∈ [26,3]:=by simpa using Array.mem_of_getElem? ht
    exact (show Tryz.pinned.checked.prog.wantsStandIn t=false by simpa using List.all_eq_true.1 j4t t hm)⟩)
  j4n
end Go.Proofs.YthdojieomhighaaGreatDoor
