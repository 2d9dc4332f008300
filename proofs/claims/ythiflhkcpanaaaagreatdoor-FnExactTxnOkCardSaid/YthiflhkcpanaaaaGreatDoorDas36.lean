/- Own texts, joined. -/
import Derived.Test.YthiflhkcpanaaaaGreatDoorDas35
set_option linter.unusedSimpArgs false
set_option linter.unusedVariables false
set_option maxHeartbeats 16000000
set_option maxRecDepth 100000
namespace Go.Proofs.YthiflhkcpanaaaaGreatDoor
open Go.RowKit
theorem js9 (B:GB) (v:Value) (w:World) {S:Nat->Prop} (hv:BaseR S w v B) (hb:0<=B.time/\B.time<=1000000/\B.hist.length<=1000) :
  Calls Tryz.prog 124 #[v] w fun e w'=>e=.returned (.int .i64 (B.time-B.hist.length))/\Ext w w':=by
 obtain⟨A1,c1,A2,c2,A3,c3,rfl⟩:=hv.form;obtain⟨h0,h1,h2⟩:=hb;have hwt:IntKind.i64.wrap (B.time-(B.hist.length:Int))=B.time-(B.hist.length:Int):=by rw[IntKind.wrap_i64];omega
 clear hv
 go_in;go_wp2;go_ret;exact⟨rfl,(Ext.refl _).alloc _⟩
def je1 (B:GB) (t:Int):Bool:=decide (B.time-B.hist.length<=t) && decide (t<=B.time)
theorem j0g (B:GB) (t:Int) (v:Value) (w:World) {S:Nat->Prop} (hv:BaseR S w v B) (hb:0<=B.time/\B.time<=1000000/\B.hist.length<=1000) :
  Calls Tryz.prog 57 #[v,.int .i64 t] w fun e w'=>e=.returned (.bool (je1 B t))/\Ext w w':=by
 obtain⟨A1,c1,A2,c2,A3,c3,rfl⟩:=hv.form;have hx0:=(Ext.refl w).alloc (.cells #[.slice A1 B.rules.length c1,.int .i64 B.time,.slice A2 B.given.length c2,.slice A3 B.hist.length c3] 27);have HB:=zh (Blk.new w 27 #[.slice A1 B.rules.length c1,.int .i64 B.time,.slice A2 B.given.length c2,.slice A3 B.hist.length c3]);have HF:=zh (js9 B _ _ (hv.ext hx0) hb);have HX:=zh hx0;clear hv hx0 hb;by_cases h1:B.time-(B.hist.length:Int)<=t
 . by_cases h2:t<=B.time
   . have HK:=zh (show je1 B t=true from by unfold je1;simp[h1,h2])
     go_in;go_wp2_with (go_at_call 124;refine HF.o.mono ?_;rintro e w1 ⟨rfl,hx1⟩;have hb1:=HB.o.ext hx1;have q1:=hb1.cell 1;have ql:=hb1.lt;clear hb1)
     go_ret;exact⟨by rw[HK.o];first|rfl|(show Ending.returned (Value.bool (decide (t<=B.time)))=_;rw[decide_eq_false (by omega)]),HX.o.t hx1⟩
   have HK:=zh (show je1 B t=false from by unfold je1;simp[h2])
   go_in;go_wp2_with (go_at_call 124;refine HF.o.mono ?_;rintro e w1 ⟨rfl,hx1⟩;have hb1:=HB.o.ext hx1;have q1:=hb1.cell 1;have ql:=hb1.lt;clear hb1)
   go_ret;exact⟨by rw[HK.o];first|rfl|(show Ending.returned (Value.bool (decide (t<=B.time)))=_;rw[decide_eq_false (by omega)]),HX.o.t hx1⟩
 have HK:=zh (show je1 B t=false from by unfold je1;simp[h1])
 go_in;go_wp2_with (go_at_call 124;refine HF.o.mono ?_;rintro e w1 ⟨rfl,hx1⟩;have hb1:=HB.o.ext hx1;have q1:=hb1.cell 1;have ql:=hb1.lt;clear hb1)
 go_ret;exact⟨by rw[HK.o];first|rfl|(show Ending.returned (Value.bool (decide (t<=B.time)))=_;rw[decide_eq_false (by omega)]),HX.o.t hx1⟩
theorem j2z (B:GB) (time:Int) (v:Value) (w:World) {S:Nat->Prop} (hv:BaseR S w v B) (hok:jbx B=true) (ht:B.time-B.hist.length<=time/\time<=B.time) :
  Calls Tryz.prog 59 #[v,.int .i64 time] w fun e w'=>(∃ r,e=.returned r/\jab Any w' r (agoL B (B.time-time).toNat))/\Ext w w':=by
 obtain⟨a,b,c,rfl,hr,hg,hh⟩:=hv;obtain⟨A1,c1,rfl,_,_⟩:=jaa.form hr;obtain⟨A2,c2,rfl,_,_⟩:=jaa.form hg;obtain⟨A3,c3,rfl,hf1,hf2⟩:=jaa.form hh;obtain⟨⟨b0,b1,b2,b3⟩,_,_⟩:=jhc hok;obtain⟨ht1,ht2⟩:=ht;obtain⟨W,hW⟩:=nm (w.alloc (.cells #[.slice A1 B.rules.length c1,.int .i64 B.time,.slice A2 B.given.length c2,.slice A3 B.hist.length c3] 27));have HB:=zh (show Blk W w.heap.size 27 #[.slice A1 B.rules.length c1,.int .i64 B.time,.slice A2 B.given.length c2,.slice A3 B.hist.length c3] from by rw[hW];exact Blk.new _ _ _);have HX:=zh (show Ext w W from by rw[hW];exact (Ext.refl _).alloc _);have HFI:=zh (fun (W':World) (hW':Ext W W')=>js9 B _ W' (show BaseR S W' (.agg #[.slice A1 B.rules.length c1,.int .i64 B.time,.slice A2 B.given.length c2,.slice A3 B.hist.length c3]) B from⟨_,_,_,rfl,hr.ext (HX.o.t hW'),hg.ext (HX.o.t hW'),jan.ext hh (HX.o.t hW')⟩) ⟨b0,by omega,by omega⟩);have HG:=zh (jab.sub (hg.ext HX.o) (fun _ _=>trivial:∀ b,S b->Any b));have HH:=zh (jan.ext hh HX.o);have HOK:=zh hok;obtain⟨N,hN⟩:=nm ((B.time-time).toNat);have hNi:B.time-time=(N:Int):=by omega
 have hNl:N<=B.hist.length:=by omega
 rw[<- hN];obtain⟨L,hL⟩:=nm (B.hist.length);have hw1:IntKind.i64.wrap ((B.hist.length:Int)-1)=(B.hist.length:Int)-1:=by rw[IntKind.wrap_i64];omega
 have hw2:IntKind.i64.wrap (time-(B.time-(B.hist.length:Int)))=(B.hist.length:Int)-(N:Int):=by rw[IntKind.wrap_i64];omega
 have hL30:B.hist.length<=30:=b2;have p0:=HB.o.cell 0;have p1:=HB.o.cell 1;have p2:=HB.o.cell 2;have p3:=HB.o.cell 3;have pl:=HB.o.lt;clear hr hg hh hN hok hL
 go_in
 go_upto_region 1 with fail
 rw[<- hW];clear hW;go_wp2_with fail
 go_loopw [5,6] (fun o i wr=>∃ (k:Nat) (z:Int),k<=N/\i=.int .i64 z/\z=(B.hist.length:Int)-1-(k:Int)/\J1 (jab Any wr o (agoL B k))/\Ext W wr) (fun _ i _=>(intOf i+1).toNat)
 case atStart=>exact⟨0,_,Nat.zero_le _,rfl,by simp,HG,Ext.refl _⟩
 case round =>
  obtain⟨k,z,hk,rfl,hz,ho,hx⟩:=hrel;have hb1:=HB.o.ext hx;clear p0 p1 p2 p3 pl;have p0:=hb1.cell 0;have p1:=hb1.cell 1;have p2:=hb1.cell 2;have p3:=hb1.cell 3;have pl:=hb1.lt;clear hb1;obtain⟨O,co,rfl,_,_⟩:=jaa.form ho.o;have HFI1:=zh (HFI.o wr hx);by_cases hlt:k<N
  . obtain ⟨m,hm⟩:∃ m,m=B.hist.length-1-k:=⟨_,rfl⟩
    obtain rfl:z=(m:Int):=by omega
    have hml:m<B.hist.length:=by omega
    have hm0:(0:Int)<=(m:Int):=by omega
    have hm1:(m:Int)<(B.hist.length:Int):=by omega
    have hge:(B.hist.length:Int)-(N:Int)<=(m:Int):=by omega
    have hw3:IntKind.i64.wrap ((m:Int)-1)=(m:Int)-1:=by rw[IntKind.wrap_i64];omega
    obtain⟨s1,s2⟩:=jv3 HOK.o (i:=k) (by omega);obtain⟨f1,f2,f3⟩:=jso HOK.o (i:=k) (by omega);have hs:=jv2 B k;rw[jll (by omega)] at s1 s2 hs;obtain⟨bb,off,g,va,vb,rfl,hbl,hgk,hva,hvb,hc0,hc1⟩:=jan.at_ (jan.ext HH.o hx) hml;obtain⟨X,cx,rfl,_,_⟩:=jaa.form hva;obtain⟨Y,cy,rfl,_,_⟩:=jaa.form hvb
    have hgm:B.hist[B.hist.length-1-k]'(by omega)=g:=by
     have h1:B.hist[B.hist.length-1-k]? = some g:=by rw[<- hm];exact hgk
     exact (List.getElem?_eq_some_iff.1 h1).2
    rw[hgm] at s1 s2 hs;have HTB:=zh (fun (W':World) (hW':Ext wr W')=>jix (agoL B k) g _ _ _ W' (ho.o.ext hW') (hva.ext hW') (hvb.ext hW') (by omega) f1 f2 s1);have HAG:=zh (show agoL B (k+1)=doL (agoL B k) ⟨g.goes,g.comes⟩ from by rw[hs,jsf s2]);have HM:=zh hm;clear hz hm hgk hva hvb hgm s1 s2 f1 f2 f3 hs
    go_wp2_with (first
     | (go_at_call 124;refine HFI1.o.mono ?_;rintro e w1 ⟨rfl,hx1⟩
        have HX1:=zh hx1;have q3:=(hx1.cells.1 w.heap.size 3 pl).trans p3;have e0:=(hx1.cells.1 bb (off+m*2) hbl).trans hc0;have e1:=(hx1.cells.1 bb (off+m*2+1) hbl).trans hc1;have ql:=Nat.lt_of_lt_of_le pl hx1.size;clear hx1)
     | (go_at_call 67;refine (HTB.o _ HX1.o).mono ?_;rintro e w2 ⟨⟨r2,rfl,hr2⟩,hx2⟩
        have HX2:=zh hx2;have HR2:=zh hr2;clear hr2 hx2)
     | fail)
    go_roundw
    case rel=>exact⟨k+1,_,by omega,rfl,by have hm:=HM.o;omega,by rw[HAG.o];exact HR2,hx.t (HX1.o.t HX2.o)⟩
    case measure=>simp[intOf]
  obtain rfl:k=N:=by omega
  have hge:¬ (B.hist.length:Int)-(k:Int)<=z:=by omega
  go_wp2_with (first
   | (go_at_call 124;refine HFI1.o.mono ?_;rintro e w1 ⟨rfl,hx1⟩
      have HX1:=zh hx1;clear hx1)
   | fail)
  go_ret;exact⟨⟨_,rfl,ho.o.ext HX1.o⟩,HX.o.t (hx.t HX1.o)⟩
def jdk (list:List GA) (c:GC):List GA × Bool:=if (doL list c).length<=300 then (doL list c,true) else ([],false)
theorem juv (list:List GA) (g:GC) (v a b:Value) (w:World) {S T U:Nat->Prop} (hv:jab S w v list) (ha:jab T w a g.comes) (hb:jab U w b g.goes) (hl:list.length<=40000) (h1:Facts list) (h2:Asc list) (hc:jas g=true) :
  Calls Tryz.prog 72 #[v,.agg #[a,b]] w fun e w'=>(∃ r,e=.returned (.tuple #[r,.bool (jdk list g).2])/\jab Any w' r (jdk list g).1)/\Ext w w':=by
 obtain⟨A,c,rfl,_,_⟩:=jaa.form hv;obtain⟨P,p,rfl,_,_⟩:=jaa.form ha;obtain⟨Q,q,rfl,_,_⟩:=jaa.form hb;obtain⟨k1,k2,_⟩:=jct hc;obtain⟨c1,c2,c3⟩:=jbw k1;obtain⟨d1,d2,d3⟩:=jbw k2;obtain⟨l1,l2,_⟩:=jj1 h1 h2 d1 d2;have hll:=jge list g.goes;obtain⟨W,hW⟩:=nm (w.alloc (.cells #[.slice P g.comes.length p,.slice Q g.goes.length q] 36));have HB:=zh (show Blk W w.heap.size 36 #[.slice P g.comes.length p,.slice Q g.goes.length q] from by rw[hW];exact Blk.new _ _ _);have HX:=zh (show Ext w W from by rw[hW];exact (Ext.refl _).alloc _);have HWO:=zh (fun (W':World) (hW':Ext W W')=>jm3 _ _ list g.goes W' (hv.ext (HX.o.t hW')) (hb.ext (HX.o.t hW')) (by omega) h1 h2 d1 d2);obtain⟨D,hD⟩:=nm (doL list g)
 have HUN:=zh (fun (W':World) (x:Value) (hW':Ext W W') (hx:jab Any W' x (lessA list g.goes))=>show Calls Tryz.prog 132 #[x,.slice P g.comes.length p] W' fun e w'=>(∃ r,e=.returned r/\jab Any w' r D)/\Ext W' w' from by
  rw[hD];exact jsu _ _ (lessA list g.goes) g.comes W' hx (ha.ext (HX.o.t hW')) (by omega) l1 l2 c1 c2)
 have HCH:=zh (show jdk list g=if D.length<=300 then (D,true) else ([],false) from by rw[hD];rfl);have p0:=HB.o.cell 0;have p1:=HB.o.cell 1;have pl:=HB.o.lt;clear hv ha hb h1 h2 hc k1 k2 c1 c2 d1 d2 l1 l2 hll hD
 go_in;go_wp2_with fail
 rw[<- hW];clear hW
 go_region_held3 (fun W'=>W'.cell? ⟨w.heap.size,0,none⟩=some (.slice P g.comes.length p)/\W'.cell? ⟨w.heap.size,1,none⟩=some (.slice Q g.goes.length q))
  (first|exact⟨((HB.o.ext HX3.o).cell 0).trans rfl,((HB.o.ext HX3.o).cell 1).trans rfl⟩|exact⟨((HB.o.ext HX2.o).cell 0).trans rfl,((HB.o.ext HX2.o).cell 1).trans rfl⟩|exact⟨((HB.o.ext (Ext.refl W).drew).cell 0).trans rfl,((HB.o.ext (Ext.refl W).drew).cell 1).trans rfl⟩)
  (first
   | (go_at_call 133;refine (HWO.o _ (Ext.refl W).drew).mono ?_;rintro e w2 ⟨⟨r2,rfl,hr2⟩,hx2⟩
      obtain⟨R2,e2,rfl,_,_⟩:=jaa.form hr2;have HX2:=zh ((Ext.refl W).drew.t hx2);have HR2:=zh hr2;clear hr2 hx2)
   | (go_at_call 132;refine (HUN.o _ _ HX2.o HR2.o).mono ?_;rintro e w3 ⟨⟨r3,rfl,hr3⟩,hx3⟩
      obtain⟨R3,e3,rfl,_,_⟩:=jaa.form hr3;have HX3:=zh (HX2.o.t hx3);have HR3:=zh hr3;clear hr3 hx3))
 all_goals
  by_cases hlen:D.length<=300
  . have hlen':¬ (300:Int)<(D.length:Int):=by omega
    have HF:=zh (show jdk list g=(D,true) from by rw[HCH.o,if_pos hlen]);go_wp2_with fail
    go_ret2;rw[HF.o];exact⟨⟨_,rfl,HR3.o⟩,HX.o.t HX3.o⟩
  have hlen':(300:Int)<(D.length:Int):=by omega
  have HF:=zh (show jdk list g=([],false) from by rw[HCH.o,if_neg hlen]);go_wp2_with fail
  go_ret2;rw[HF.o];exact⟨⟨_,rfl,jaa.nil_ 0 (Nat.zero_le _) _⟩,HX.o.t HX3.o⟩
theorem j1s {B:GB} {t:Int}:(atL B t).2=je1 B t:=by
 by_cases ht:B.time-B.hist.length<=t/\t<=B.time
 . rw[at_in ht];unfold je1;simp[ht.1,ht.2]
 rw[j2x ht];unfold je1
 symm
 rw[Bool.and_eq_false_iff,decide_eq_false_iff_not,decide_eq_false_iff_not];omega
theorem jln {B:GB} {t:Int} (h:je1 B t=true):B.time-B.hist.length<=t/\t<=B.time:=by
 unfold je1 at h;simpa using h
theorem juw (l m:List GA):(l.all fun a=> !hasA m a) = !jcd l m:=by
 unfold jcd
 induction l with
 | nil=>rfl
 | cons a l ih=>simp only[List.all_cons,List.any_cons,ih,Bool.not_or]
theorem jqm (B:GB) (t:GX):txnB B t=(je1 B t.from_ && (jas t.change && (!jcd t.change.comes (atL B t.from_).1 && (t.change.goes.all (hasA (atL B t.from_).1) && ((jdk (atL B t.from_).1 t.change).2 && fineB B.rules (doL (atL B t.from_).1 t.change)))))):=by
 have h:∀ l:List GA,((jdk l t.change).2 && fineB B.rules (doL l t.change))=fineB B.rules (doL l t.change):=fun l=>by
  unfold jdk;split
  . rfl
  cases hf:fineB B.rules (doL l t.change)
  . rfl
  have:=(jeg hf).2.2;omega
 unfold txnB;rw[j1s,juw,h,Bool.and_assoc,Bool.and_assoc,Bool.and_assoc]
noncomputable def viewL (B:GB) (t:GX):List GA × List GA × List GA:=if txnB B t then ((atL B t.from_).1,seesL B t,evalL B.rules (seesL B t)) else ([],[],[])
theorem jx1 (B:GB) (t:GX) (v u:Value) (w:World) {S T:Nat->Prop} (hv:BaseR S w v B) (hu:TxnR T w u t) (hok:jbx B=true) (he:ErrIs w) :
  Calls Tryz.prog 141 #[v,u] w fun e w'=>(∃ a b c,e=.returned (.tuple #[.agg #[a,b,c],.bool (txnB B t)])/\jab Any w' a (viewL B t).1/\jab Any w' b (viewL B t).2.1/\jab Any w' c (viewL B t).2.2)/\Ext w w':=by
 have hv':=hv;obtain⟨A1,c1,A2,c2,A3,c3,rfl⟩:=hv.form;obtain⟨X,x,Y,y,rfl⟩:=hu.form;obtain⟨_,_,_,h1,hr,_,_⟩:=hv';obtain⟨_,_,h2,ha,hb⟩:=id hu;simp only[Value.agg.injEq,Array.mk.injEq,List.cons.injEq,and_true,true_and] at h1 h2;rw[<- h1.1] at hr;rw[<- h2.1] at ha;rw[<- h2.2] at hb;obtain⟨W,hW⟩:=nm (((w.alloc (.cells #[.slice A1 B.rules.length c1,.int .i64 B.time,.slice A2 B.given.length c2,.slice A3 B.hist.length c3] 27)).alloc (.cells #[.int .i64 t.from_,.slice X t.change.comes.length x,.slice Y t.change.goes.length y] 52)).alloc (.cells #[.slice none 0 0,.slice none 0 0,.slice none 0 0] 111));have HX:=zh (show Ext w W from by rw[hW];exact (((Ext.refl _).alloc _).alloc _).alloc _);have HRL:=zh (hr.ext HX.o);have HBT:=zh (show BT _ _ _ _ _ _ _ _ W from by rw[hW];exact (BT.new w).alloc _);have HV:=zh (show Blk W (w.heap.size+1+1) 111 #[.slice none 0 0,.slice none 0 0,.slice none 0 0] from by rw[hW];exact Blk.at_new (by simp));obtain⟨b0,b1,b2,b3⟩:=(jhc hok).1;obtain⟨al,hal⟩:=nm ((atL B t.from_).1);obtain⟨k1,hk1⟩:∃ k,k=je1 B t.from_:=⟨_,rfl⟩
 obtain⟨k2,hk2⟩:∃ k,k=jas t.change:=⟨_,rfl⟩
 obtain⟨k3,hk3⟩:∃ k,k=jcd t.change.comes al:=⟨_,rfl⟩
 obtain⟨k4,hk4⟩:∃ k,k=t.change.goes.all (hasA al):=⟨_,rfl⟩
 obtain⟨k5,hk5⟩:∃ k,k=(jdk al t.change).2:=⟨_,rfl⟩
 obtain⟨k6,hk6⟩:∃ k,k=fineB B.rules (doL al t.change):=⟨_,rfl⟩
 have HT:=zh (jqm B t);rw[<- hal,<- hk1,<- hk2,<- hk3,<- hk4,<- hk5,<- hk6] at HT;have hin:k1=true->al=agoL B (B.time-t.from_).toNat:=fun h=>by rw[hal,at_in (jln (hk1▸h))]
 have hfa:k1=true->Facts al/\Asc al/\al.length<=40:=fun h=>by rw[hin h];have:=jln (hk1▸h);exact jso hok (by omega)
 have hfc:k2=true->(Facts t.change.comes/\Asc t.change.comes)/\(Facts t.change.goes/\Asc t.change.goes):=fun h=>by
  obtain⟨f1,f2,_⟩:=jct (hk2▸h);obtain⟨g1,g2,_⟩:=jbw f1;obtain⟨g3,g4,_⟩:=jbw f2;exact⟨⟨g1,g2⟩,g3,g4⟩
 have HKN:=zh (fun (n:Later W)=>later (j0g B t.from_ _ n.at_ (hv.ext (HX.o.t n.ext)) ⟨b0,by omega,by omega⟩));have HCO:=zh (fun (n:Later W)=>later (jk6 t.change _ _ n.at_ (ha.ext (HX.o.t n.ext)) (hb.ext (HX.o.t n.ext))));have HAT:=zh (fun (h:k1=true) (n:Later W)=>by have e:=later (j2z B t.from_ _ n.at_ (hv.ext (HX.o.t n.ext)) hok (jln (hk1▸h)));rw[<- hin h] at e;exact e);have HCM:=zh (fun (V:World) (n:Later V) (hV:Ext W V) (r:Value) (hr:jab Any V r al) (h1:k1=true) (h2:k2=true)=>later (jj9 _ r t.change.comes al n.at_ (ha.ext (HX.o.t (hV.t n.ext))) (hr.ext n.ext) (hfc h2).1.2 (hfa h1).2.1));have HIA:=zh (fun (V:World) (n:Later V) (hV:Ext W V) (r:Value) (hr:jab Any V r al) (h1:k1=true) (h2:k2=true)=>later (js7 _ r t.change.goes al n.at_ (hb.ext (HX.o.t (hV.t n.ext))) (hr.ext n.ext) (hfc h2).2.1 (hfc h2).2.2 (hfa h1).1 (hfa h1).2.1));have HCD:=zh (fun (V:World) (n:Later V) (hV:Ext W V) (r:Value) (hr:jab Any V r al) (h1:k1=true) (h2:k2=true)=>later (juv al t.change r _ _ n.at_ (hr.ext n.ext) (ha.ext (HX.o.t (hV.t n.ext))) (hb.ext (HX.o.t (hV.t n.ext))) (by have:=(hfa h1).2.2;omega) (hfa h1).1 (hfa h1).2.1 (hk2▸h2)));obtain⟨dl,hdl⟩:∃ d,d=(jdk al t.change).1:=⟨_,rfl⟩
 have hd5:k5=true->dl=doL al t.change:=fun h=>by
  rw[hk5] at h;rw[hdl];unfold jdk at h ⊢;split
  . rfl
  rename_i hn;rw[if_neg hn] at h;cases h
 have HVT:=zh (show k5=true->txnB B t=true->viewL B t=(al,dl,evalL B.rules dl) from fun h h2=>by
  unfold viewL seesL;rw[if_pos h2,<- hal,hd5 h])
 have HVF:=zh (show txnB B t=false->viewL B t=([],[],[]) from fun h=>by
  unfold viewL;rw[h];rfl)
 rw[<- hk1] at HKN;rw[<- hk2] at HCO;rw[<- hk3] at HCM;rw[<- hk4] at HIA;rw[<- hk5,<- hdl] at HCD
 have HEV:=zh (fun (V:World) (n:Later V) (hV:Ext W V) (r:Value) (hr:jab Any V r dl) (h5:k5=true)=>by
  have e:=later (js6 B.rules dl _ r n.at_ (HRL.o.ext (hV.t n.ext)) (hr.ext n.ext) (he.ext (HX.o.t (hV.t n.ext))));rw[show fineB B.rules dl=k6 from by rw[hk6,hd5 h5]] at e;exact e)
 obtain⟨p0,p1,p2,p3,q0,q1,q2,pl,ql⟩:=HBT.o.cells;obtain⟨v0,v1,v2,f0,f1,f2,vl⟩:=HV.o.three;clear hv hu hok he hr ha hb hal hk1 hk2 hk3 hk4 hk5 hk6 hin hfa hfc hdl hd5 h1 h2 b0 b1 b2 b3;by_cases h12:k1=false∨k2=false
 . have hf:txnB B t=false:=by rw[HT.o];rcases h12 with rfl|rfl<;>simp
   have HF:=zh hf;have HVL:=zh (HVF.o hf);rcases (show k1=false∨(k1=true/\k2=false) from by cases k1<;>simp_all) with rfl|⟨rfl,rfl⟩
   all_goals
    clear hf h12
    go_in
    go_upto_region 1 with fail
    rw[<- hW];clear hW;obtain⟨n0,h0⟩:=Later.self W;rw[h0];clear h0
    go_wp2_with (first
     | (go_at_call 57;refine (HKN.o _).mono ?_;rintro e _ ⟨n1,rfl,_,rfl⟩)
     | (go_at_call 64;refine (HCO.o _).mono ?_;rintro e _ ⟨n2,rfl,_,rfl⟩)
     | fail)
    refine bodyPost_ret (v:=.tuple #[.agg #[.slice none 0 0,.slice none 0 0,.slice none 0 0],.bool false]) (by simp[results,Tryz.results141,go_sem,v0,v1,v2,vl]) rfl ?_;rw[HF.o,HVL.o]
    exact ⟨⟨_,_,_,rfl,jaa.nil_ 0 (Nat.zero_le _) _,jaa.nil_ 0 (Nat.zero_le _) _,jaa.nil_ 0 (Nat.zero_le _) _⟩,by
     have hx:=HX.o.t (Later.ext ‹_›);exact ((hx.setNew (by simp;omega) _).setNew (by simp;omega) _).setNew (by simp;omega) _⟩
 obtain⟨rfl,rfl⟩:k1=true/\k2=true:=by cases k1<;>cases k2<;>simp_all
 clear h12
 go_in
 go_upto_region 1 with fail
 rw[<- hW];clear hW;obtain⟨n0,h0⟩:=Later.self W;rw[h0];clear h0
 go_upto_region 4 with (first
  | (go_at_call 57;refine (HKN.o _).mono ?_;rintro e _ ⟨n1,rfl,_,rfl⟩)
  | (go_at_call 64;refine (HCO.o _).mono ?_;rintro e _ ⟨n2,rfl,_,rfl⟩)
  | (go_at_call 59;refine (HAT.o (by simp) _).mono ?_;rintro e _ ⟨n3,rfl,_,r,rfl,hr⟩
     obtain⟨R,rc,rfl,_,_⟩:=jaa.form hr;have HR:=zh hr;clear hr)
  | fail)
 obtain⟨V,hV⟩:=nm (n3.at_.alloc (.cells #[.slice R al.length rc,.slice none 0 0,.slice none 0 0] 111));obtain⟨g,hg⟩:=nm (n3.at_.heap.size);have HWV:=zh (show Ext W V from by rw[hV];exact n3.ext.alloc _);have HRV:=zh (show jab Any V (.slice R al.length rc) al from by rw[hV];exact HR.o.ext ((Ext.refl _).alloc _));have HBV:=zh (show Blk V g 111 #[.slice R al.length rc,.slice none 0 0,.slice none 0 0] from by rw[hV,hg];exact Blk.new _ _ _);have hgW:W.heap.size<=g:=by rw[hg];exact n3.ext.size
 rw[<- hV,<- hg];clear hV hg HR p0 p1 p2 p3 q0 q1 q2 v0 v1 v2 f0 f1 f2;obtain⟨p0,p1,p2,p3,q0,q1,q2,pl',ql'⟩:=(HBT.o.ext HWV.o).cells;obtain⟨v0,v1,v2,f0,f1,f2,vl'⟩:=(HV.o.ext HWV.o).three;obtain⟨c0,c1',c2',d0,d1,d2,cl⟩:=HBV.o.three;obtain⟨n4,h4⟩:=Later.self V;rw[h4];clear h4;by_cases h34:k3=true∨k4=false
 . have hf:txnB B t=false:=by rw[HT.o];rcases h34 with rfl|rfl<;>simp
   have HF:=zh hf;have HVL:=zh (HVF.o hf);rcases (show k3=true∨(k3=false/\k4=false) from by cases k3<;>simp_all) with rfl|⟨rfl,rfl⟩
   all_goals
    clear hf h34
    go_wp2_with (first
     | (go_at_call 66;refine (HCM.o V _ HWV.o _ HRV.o (by simp) (by simp)).mono ?_;rintro e _ ⟨n5,rfl,_,rfl⟩)
     | (go_at_call 65;refine (HIA.o V _ HWV.o _ HRV.o (by simp) (by simp)).mono ?_;rintro e _ ⟨n6,rfl,_,rfl⟩)
     | fail)
    refine bodyPost_ret (v:=.tuple #[.agg #[.slice none 0 0,.slice none 0 0,.slice none 0 0],.bool false]) (by simp[results,Tryz.results141,go_sem,v0,v1,v2,vl']) rfl ?_;rw[HF.o,HVL.o]
    exact ⟨⟨_,_,_,rfl,jaa.nil_ 0 (Nat.zero_le _) _,jaa.nil_ 0 (Nat.zero_le _) _,jaa.nil_ 0 (Nat.zero_le _) _⟩,by
     have hx:=HX.o.t (HWV.o.t (Later.ext ‹Later V›));exact ((hx.setNew (by simp;omega) _).setNew (by simp;omega) _).setNew (by simp;omega) _⟩
 obtain⟨rfl,rfl⟩:k3=false/\k4=true:=by cases k3<;>cases k4<;>simp_all
 clear h34
 go_upto_region 8 with (first
  | (go_at_call 66;refine (HCM.o V _ HWV.o _ HRV.o (by simp) (by simp)).mono ?_;rintro e _ ⟨n5,rfl,_,rfl⟩)
  | (go_at_call 65;refine (HIA.o V _ HWV.o _ HRV.o (by simp) (by simp)).mono ?_;rintro e _ ⟨n6,rfl,_,rfl⟩)
  | (go_at_call 72;refine (HCD.o V _ HWV.o _ HRV.o (by simp) (by simp)).mono ?_;rintro e _ ⟨n7,rfl,_,r7,rfl,hr7⟩
     obtain⟨R7,e7,rfl,_,_⟩:=jaa.form hr7;have HR7:=zh hr7;clear hr7)
  | fail)
 obtain⟨V2,hV2⟩:=nm (n7.at_.setCell ⟨g,1,none⟩ (.slice R7 dl.length e7));have HB2:=zh (show Blk V2 g 111 #[.slice R al.length rc,.slice R7 dl.length e7,.slice none 0 0] from by rw[hV2];simpa using (HBV.o.ext n7.ext).set_ 1 (.slice R7 dl.length e7));have HW2:=zh (show Ext W V2 from by rw[hV2];exact (HWV.o.t n7.ext).setNew hgW _)
 have HA2:=zh (show jab Any V2 (.slice R al.length rc) al/\jab Any V2 (.slice R7 dl.length e7) dl from by
  rw[hV2];have hm:=jg7 (HBV.o.ext n7.ext);exact⟨(HRV.o.ext n7.ext).store hm _ _,HR7.o.store hm _ _⟩)
 rw[<- hV2];clear hV2 HR7 HRV HBV p0 p1 p2 p3 q0 q1 q2 v0 v1 v2 f0 f1 f2 c0 c1' c2' d0 d1 d2 pl' ql' vl' cl;obtain⟨p0,p1,p2,p3,q0,q1,q2,pl',ql'⟩:=(HBT.o.ext HW2.o).cells;obtain⟨v0,v1,v2,f0,f1,f2,vl'⟩:=(HV.o.ext HW2.o).three;obtain⟨c0,c1',c2',d0,d1,d2,cl⟩:=HB2.o.three;cases k5
 . have HF:=zh (show txnB B t=false from by rw[HT.o];simp)
   have HVL:=zh (HVF.o HF.o);go_wp2_with fail
   refine bodyPost_ret (v:=.tuple #[.agg #[.slice none 0 0,.slice none 0 0,.slice none 0 0],.bool false]) (by simp[results,Tryz.results141,go_sem,v0,v1,v2,vl']) rfl ?_;rw[HF.o,HVL.o]
   exact ⟨⟨_,_,_,rfl,jaa.nil_ 0 (Nat.zero_le _) _,jaa.nil_ 0 (Nat.zero_le _) _,jaa.nil_ 0 (Nat.zero_le _) _⟩,
    (((HX.o.t HW2.o).setNew (by simp;omega) _).setNew (by simp;omega) _).setNew (by simp;omega) _⟩
 obtain⟨n8,h8⟩:=Later.self V2;rw[h8];clear h8
 go_upto_region 11 with (first
  | (go_at_call 202;refine (HEV.o V2 _ HW2.o _ HA2.o.2 (by simp)).mono ?_;rintro e _ ⟨n9,rfl,_,r9,rfl,hr9⟩
     obtain⟨R9,e9,rfl,_,_⟩:=jaa.form hr9;have HR9:=zh hr9;clear hr9)
  | fail)
 obtain⟨V3,hV3⟩:=nm (n9.at_.setCell ⟨g,2,none⟩ (.slice R9 (evalL B.rules dl).length e9));have HB3:=zh (show Blk V3 g 111 #[.slice R al.length rc,.slice R7 dl.length e7,.slice R9 (evalL B.rules dl).length e9] from by rw[hV3];simpa using (HB2.o.ext n9.ext).set_ 2 (.slice R9 (evalL B.rules dl).length e9));have HW3:=zh (show Ext W V3 from by rw[hV3];exact (HW2.o.t n9.ext).setNew hgW _)
 have HA3:=zh (show jab Any V3 (.slice R al.length rc) al/\jab Any V3 (.slice R7 dl.length e7) dl/\jab Any V3 (.slice R9 (evalL B.rules dl).length e9) (evalL B.rules dl) from by
  rw[hV3];have hm:=jg7 (HB2.o.ext n9.ext);exact⟨(HA2.o.1.ext n9.ext).store hm _ _,(HA2.o.2.ext n9.ext).store hm _ _,HR9.o.store hm _ _⟩)
 rw[<- hV3];clear hV3 HR9 HA2 HB2 p0 p1 p2 p3 q0 q1 q2 v0 v1 v2 f0 f1 f2 c0 c1' c2' d0 d1 d2 pl' ql' vl' cl;obtain⟨v0,v1,v2,f0,f1,f2,vl'⟩:=(HV.o.ext HW3.o).three;obtain⟨c0,c1',c2',d0,d1,d2,cl⟩:=HB3.o.three;cases k6
 . have HF:=zh (show txnB B t=false from by rw[HT.o];simp)
   have HVL:=zh (HVF.o HF.o);go_wp2_with fail
   refine bodyPost_ret (v:=.tuple #[.agg #[.slice none 0 0,.slice none 0 0,.slice none 0 0],.bool false]) (by simp[results,Tryz.results141,go_sem,v0,v1,v2,vl']) rfl ?_;rw[HF.o,HVL.o]
   exact ⟨⟨_,_,_,rfl,jaa.nil_ 0 (Nat.zero_le _) _,jaa.nil_ 0 (Nat.zero_le _) _,jaa.nil_ 0 (Nat.zero_le _) _⟩,
    (((HX.o.t HW3.o).setNew (by simp;omega) _).setNew (by simp;omega) _).setNew (by simp;omega) _⟩
 have HF:=zh (show txnB B t=true from by rw[HT.o];simp);have HVL:=zh (HVT.o (by simp) HF.o);have hm:=zh (jg7 (HV.o.ext HW3.o));go_wp2_with fail
 refine bodyPost_ret (v:=.tuple #[.agg #[.slice R al.length rc,.slice R7 dl.length e7,.slice R9 (evalL B.rules dl).length e9],.bool true]) (by simp[results,Tryz.results141,go_sem,v0,v1,v2,vl']) rfl ?_;rw[HF.o,HVL.o]
 exact ⟨⟨_,_,_,rfl,HA3.o.1.store3 hm.o _ _ _,HA3.o.2.1.store3 hm.o _ _ _,HA3.o.2.2.store3 hm.o _ _ _⟩,
  (((HX.o.t HW3.o).setNew (by simp;omega) _).setNew (by simp;omega) _).setNew (by simp;omega) _⟩
noncomputable def okB (B:GB) (t:GX):Bool:=jbx B && txnB B t
noncomputable def okL (B:GB) (t:GX):List GA × List GA × List GA:=if jbx B then viewL B t else ([],[],[])
theorem jo5 (B:GB) (t:GX) (v u:Value) (w:World) {S T:Nat->Prop} (hv:BaseR S w v B) (hu:TxnR T w u t) (he:ErrIs w) :
  Calls Tryz.prog 82 #[v,u] w fun e w'=>(∃ a b c,e=.returned (.tuple #[.agg #[a,b,c],.bool (okB B t)])/\jab Any w' a (okL B t).1/\jab Any w' b (okL B t).2.1/\jab Any w' c (okL B t).2.2)/\Ext w w':=by
 obtain⟨A1,c1,A2,c2,A3,c3,rfl⟩:=hv.form;obtain⟨X,x,Y,y,rfl⟩:=hu.form;obtain⟨W,hW⟩:=nm (((w.alloc (.cells #[.slice A1 B.rules.length c1,.int .i64 B.time,.slice A2 B.given.length c2,.slice A3 B.hist.length c3] 27)).alloc (.cells #[.int .i64 t.from_,.slice X t.change.comes.length x,.slice Y t.change.goes.length y] 52)).alloc (.cells #[.slice none 0 0,.slice none 0 0,.slice none 0 0] 111));have HX:=zh (show Ext w W from by rw[hW];exact (((Ext.refl _).alloc _).alloc _).alloc _);have HBT:=zh (show BT _ _ _ _ _ _ _ _ W from by rw[hW];exact (BT.new w).alloc _);have HV:=zh (show Blk W (w.heap.size+1+1) 111 #[.slice none 0 0,.slice none 0 0,.slice none 0 0] from by rw[hW];exact Blk.at_new (by simp));have HOK:=zh (fun (n:Later W)=>later (jnq B _ n.at_ (hv.ext (HX.o.t n.ext)) (he.ext (HX.o.t n.ext))));have HVO:=zh (fun (h:jbx B=true) (n:Later W)=>later (jx1 B t _ _ n.at_ (hv.ext (HX.o.t n.ext)) (hu.ext (HX.o.t n.ext)) h (he.ext (HX.o.t n.ext))));obtain⟨p0,p1,p2,p3,q0,q1,q2,pl,ql⟩:=HBT.o.cells;obtain⟨v0,v1,v2,f0,f1,f2,vl⟩:=HV.o.three;obtain⟨l1,hl1⟩:∃ l,l=(viewL B t).1:=⟨_,rfl⟩
 obtain⟨l2,hl2⟩:∃ l,l=(viewL B t).2.1:=⟨_,rfl⟩
 obtain⟨l3,hl3⟩:∃ l,l=(viewL B t).2.2:=⟨_,rfl⟩
 obtain⟨k,hk⟩:=nm (jbx B);obtain⟨tb,htb⟩:∃ k,k=txnB B t:=⟨_,rfl⟩
 rw[<- hk] at HOK;rw[<- hl1,<- hl2,<- hl3,<- hk,<- htb] at HVO;unfold okB okL;rw[<- hk,<- htb];have HL:=zh (And.intro hl1 (And.intro hl2 hl3));clear hv hu he htb hl1 hl2 hl3;cases k
 all_goals
  clear hk
  go_in
  go_upto_region 1 with fail
  rw[<- hW];clear hW;obtain⟨n0,h0⟩:=Later.self W;rw[h0];clear h0
  go_wp2_with (first
   | (go_at_call 14;refine (HOK.o _).mono ?_;rintro e _ ⟨n1,rfl,_,rfl⟩)
   | (go_at_call 141;refine (HVO.o (by simp) _).mono ?_;rintro e _ ⟨n2,rfl,_,a,b,c,rfl,ha,hb,hc⟩
      obtain⟨a1,a2,rfl,_,_⟩:=jaa.form ha;obtain⟨b1,b2,rfl,_,_⟩:=jaa.form hb;obtain⟨d1,d2,rfl,_,_⟩:=jaa.form hc;have HA:=zh (And.intro ha (And.intro hb hc));clear ha hb hc)
   | fail)
 . refine bodyPost_ret (v:=.tuple #[.agg #[.slice none 0 0,.slice none 0 0,.slice none 0 0],.bool false]) (by simp[results,Tryz.results82,go_sem,v0,v1,v2,vl]) rfl ?_
   exact⟨⟨_,_,_,rfl,jaa.nil_ 0 (Nat.zero_le _) _,jaa.nil_ 0 (Nat.zero_le _) _,jaa.nil_ 0 (Nat.zero_le _) _⟩,(((HX.o.t (Later.ext _)).setNew (by simp;omega) _).setNew (by simp;omega) _).setNew (by simp;omega) _⟩
 refine bodyPost_ret (v:=.tuple #[.agg #[.slice a1 l1.length a2,.slice b1 l2.length b2,.slice d1 l3.length d2],.bool tb]) (by simp[results,Tryz.results82,go_sem,v0,v1,v2,vl]) rfl ?_;have hm:=jg7 (HV.o.ext n2.ext);try rw[if_pos rfl]
 rw[<- HL.o.1,<- HL.o.2.1,<- HL.o.2.2];exact⟨⟨_,_,_,rfl,HA.o.1.store3 hm _ _ _,HA.o.2.1.store3 hm _ _ _,HA.o.2.2.store3 hm _ _ _⟩,(((HX.o.t n2.ext).setNew (by simp;omega) _).setNew (by simp;omega) _).setNew (by simp;omega) _⟩
theorem ji2 (B:GB) (t:GX) (v u:Value) (w:World) {S T:Nat->Prop} (hv:BaseR S w v B) (hu:TxnR T w u t) :
  Calls Tryz.prog 19 #[v,u] w fun e w'=>e=.returned (.bool (okB B t))/\Ext w w':=by
 obtain⟨A1,c1,A2,c2,A3,c3,rfl⟩:=hv.form;obtain⟨X,x,Y,y,rfl⟩:=hu.form;obtain⟨W,hW⟩:=nm ((w.alloc (.cells #[.slice A1 B.rules.length c1,.int .i64 B.time,.slice A2 B.given.length c2,.slice A3 B.hist.length c3] 27)).alloc (.cells #[.int .i64 t.from_,.slice X t.change.comes.length x,.slice Y t.change.goes.length y] 52));have HX:=zh (show Ext w W from by rw[hW];exact ((Ext.refl _).alloc _).alloc _);have HBT:=zh (show BT _ _ _ _ _ _ _ _ W from by rw[hW];exact BT.new w);have HOK:=zh (fun (n:Later W)=>later (jnr B _ n.at_ (hv.ext (HX.o.t n.ext))));have HTX:=zh (fun (h:jbx B=true) (n:Later W)=>later (jy6 B t _ _ n.at_ (hv.ext (HX.o.t n.ext)) (hu.ext (HX.o.t n.ext)) (jz4 h)));obtain⟨p0,p1,p2,p3,q0,q1,q2,pl,ql⟩:=HBT.o.cells;unfold okB;obtain⟨k,hk⟩:=nm (jbx B);obtain⟨tb,htb⟩:∃ k,k=txnB B t:=⟨_,rfl⟩
 rw[<- hk] at HOK;rw[<- hk,<- htb] at HTX;rw[<- hk,<- htb];clear hv hu hk htb;cases k
 all_goals
  go_in
  go_upto_region 1 with fail
  rw[<- hW];clear hW;obtain⟨n0,h0⟩:=Later.self W;rw[h0];clear h0
  go_wp2_with (first
   | (go_at_call 15;refine (HOK.o _).mono ?_;rintro e _ ⟨n1,rfl,_,rfl⟩)
   | (go_at_call 77;refine (HTX.o (by simp) _).mono ?_;rintro e _ ⟨n2,rfl,_,rfl⟩)
   | fail)
  go_ret;exact⟨rfl,HX.o.t (Later.ext _)⟩
end Go.Proofs.YthiflhkcpanaaaaGreatDoor
