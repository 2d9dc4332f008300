/- Proved here, for all inputs and without conditions: the given statement of the law FnExactBaseOk. -/
import Derived.Test.YthdojieomhighaaGreatDoorRows
import Derived.Test.YthdojieomhighaaGreatDoorCas01
import Derived.ProofKit
import Derived.Deep.Slices
import Derived.Deep.Fields
import Derived.ChangeSame
import Derived.Test.YthdojieomhighaaGreatDoorCas32
import Derived.Test.YthdojieomhighaaGreatDoorCas34
import Derived.Deep.RegionHeld3
import Derived.WideKeyArgs
import Derived.Test.YthdojieomhighaaGreatDoorCards
import Derived.Test.YthdojieomhighaaGreatDoorCas03
import Derived.Test.YthdojieomhighaaGreatDoorCas22
import Derived.Lib.SmallJoins
import Derived.Test.YthdojieomhighaaGreatDoorTie
import Derived.ChangeVars
import Derived.JoinedOf
import Derived.LaidLaws
import Derived.LaidHandle
import Derived.LaidMore
import Derived.OpenShut
import Derived.MakeChecks
import Derived.Stop.Joined
set_option linter.unusedSimpArgs false
set_option linter.unusedVariables false
set_option maxHeartbeats 8000000
set_option maxRecDepth 100000
namespace Go.Proofs.YthdojieomhighaaGreatDoor
open Go.RowKit Go.ChangeShapes Go.WideShapes Go.Deep
section
variable {H:Type} {enc:TypeId × Value→H} {P:Program} {w:World} {base:Nat} {spare:Nat→Bool} {held:Bool}
theorem drop_cons' {α:Type} {l:List α} {k:Nat} {x:α} (h:l[k]? = some x):l.drop k=x :: l.drop (k+1):=by
 obtain⟨hk,rfl⟩:=List.getElem?_eq_some_iff.1 h;exact List.drop_eq_getElem_cons hk
theorem cell_addr {w:World} {a:Addr} {u:Value} (h:w.cell? a=some u):a=⟨a.block,a.off,none⟩:=by
 obtain⟨b,o,s⟩:=a
 cases s with
 | none=>rfl
 | some s=>simp only[World.cell?] at h;split at h<;>simp at h
theorem open_rows {t e:TypeId} {fs:Array Field} {fuel:Nat} {v:Value} {x:DataW H × List MemPlace} (ht:P.underlying t=some (.slice e)) (he:P.underlying e=some (.struct fs))
  (hone:oneCellFields P fs=true) (hC:P.cellsOf e=fs.size) (hfs:0<fs.size) (h:DataW.trod enc P w base spare held fuel t [v]=some x) :
  ∃ (A : Option Addr) (n c:Nat),v=.slice A n c∧n≤c∧c≤maxLen ∧
    (0 < n→∃ b off,A=some ⟨b,off,none⟩∧b<w.heap.size∧∀ i,i<n→∃ (k:Nat) (cs:List Value),cs.length=fs.size∧(∀ (j:Nat) (u:Value),cs[j]? = some u→w.cell? ⟨b,off+(i*fs.size+j),none⟩=some u) ∧
     ∀ (j:Nat) (f:Field) (u:Value),fs[j]? = some f→cs[j]? = some u→∃ y,DataW.trod enc P w base spare held k f.type [u]=some y):=by
 rcases open_slice ht h with ⟨hcs,_⟩|⟨a,len,cap,m,n,D,Pl,hcs,hb,hl,hm,hmm,hx,hi⟩
 · injection hcs with hv _
   subst hv;exact⟨none,0,0,rfl,Nat.le_refl _,Nat.zero_le _,fun h=>absurd h (by omega)⟩
 injection hcs with hv _
 subst hv;refine⟨some a,len,cap,rfl,hl,hm,fun h0=>?_⟩;have hml:len≤m:=by rw[hmm];split<;>omega
 have key:∀ i,i<len→∃ (k:Nat) (cs:List Value),cs.length=fs.size∧(∀ (j:Nat) (u:Value),cs[j]? = some u→w.cell? (a.add (i*fs.size+j))=some u) ∧
   ∀ (j:Nat) (f:Field) (u:Value),fs[j]? = some f→cs[j]? = some u→∃ y,DataW.trod enc P w base spare held k f.type [u]=some y:=by
  intro i hilt;obtain⟨cs',hc,ht'⟩:=hi i (by omega);rw[hC] at hc;obtain⟨ys,n',hn',hy,hlen,hyl,hf⟩:=DataW.trod_struct he ht';obtain⟨_,hcl,hat⟩:=World.cells?_some hc;refine⟨n',cs',hcl,fun j u hu=>?_,fun j f u hj hu=>?_⟩
  · have hjl:j<fs.size:=by rw[← hcl];exact (List.getElem?_eq_some_iff.1 hu).1
    rw[← Go.Deep.add_add,hat j hjl,hu]
  obtain⟨ho,hk⟩:=hone_of hone j f hj;have hjl:j<fs.size:=(Array.getElem?_eq_some_iff.1 hj).1;have h1:=hf j f hj;rw[ho,hk] at h1
  have hone':(cs'.drop j).take 1=[u]:=by
   rw[drop_cons' hu]
   rfl
  rw[hone'] at h1;have hys:ys[j]? = some (ys[j]'(by omega)):=List.getElem?_eq_getElem (by omega);exact⟨_,h1.trans hys⟩
 obtain⟨k0,cs0,hl0,hc0,_⟩:=key 0 h0;have h00:=hc0 0 (cs0[0]'(by omega)) (List.getElem?_eq_getElem (by omega));rw[Nat.zero_mul,Nat.add_zero] at h00;have ha0:a.add 0=a:=by simp[Addr.add]
 rw[ha0] at h00;have haa:=cell_addr h00
 have hadd:∀ n,a.add n=⟨a.block,a.off+n,none⟩:=by
  intro n;unfold Addr.add;split
  · rename_i h;subst h;rw[Nat.add_zero];exact haa
  rfl
 refine⟨a.block,a.off,by rw[← haa],?_,fun i hilt=>?_⟩
 · rw[haa] at h00;exact jcm h00
 obtain⟨k,cs,hl1,hc1,hf1⟩:=key i hilt;exact⟨k,cs,hl1,fun j u hu=>by rw[← hadd];exact hc1 j u hu,hf1⟩
end
section
variable {H:Type} {enc:TypeId × Value→H} {w:World} {base:Nat} {spare:Nat→Bool} {held:Bool} {fuel:Nat} {v:Value} {x:DataW H × List MemPlace}
theorem read_terms (h:DataW.trod enc Tryz.prog w base spare held fuel 130 [v]=some x):∃ xs:List GT,jae Any w v xs:=by
 obtain⟨A,n,c,rfl,h1,h2,h3⟩:=open_rows Tryz.underlying130 Tryz.underlying247 (by kernel_rfl) (by kernel_rfl) (by decide) h;by_cases h0:0<n
 · obtain ⟨b,off,hA,hb,hrow⟩:=h3 h0
   obtain ⟨xs,hl,hr⟩:=ja7 (fun i (t:GT)=>w.cell? ⟨b,off+(i*2+0),none⟩=some (.bool t.v)∧w.cell? ⟨b,off+(i*2+1),none⟩=some (.string t.n)∧t.n.size≤maxLen) n 0 (fun i hi=>by
    rw[Nat.zero_add];obtain⟨k,cs,hcl,hc,hf⟩:=hrow i hi
    match cs,hcl with
    | [c0,c1],_ =>
      obtain⟨y0,hy0⟩:=hf 0 _ c0 rfl rfl;obtain⟨y1,hy1⟩:=hf 1 _ c1 rfl rfl;obtain⟨bv,e0,_⟩:=DataW.trod_bool Tryz.underlying4 hy0;obtain⟨s,e1,_,hs⟩:=DataW.trod_string Tryz.underlying9 hy1;injection e0 with e0 _
      injection e1 with e1 _
      subst e0;subst e1;exact⟨⟨bv,s⟩,hc 0 _ rfl,hc 1 _ rfl,hs⟩)
   refine⟨xs,A,c,by rw[hl],by rw[hl];exact h1,h2,fun _=>⟨b,off,hA,hb,trivial,fun i x hx=>?_⟩⟩;obtain⟨r0,r1,r2⟩:=hr i x hx;rw[Nat.zero_add] at r0 r1;refine⟨[.bool x.v,.string x.n],rfl,fun j u hu=>?_,rfl,r2⟩
   match j,hu with
   | 0,hu=>simp at hu;subst hu;exact r0
   | 1,hu=>simp at hu;subst hu;exact r1
 obtain rfl:n=0:=by omega
 exact⟨[],jaa.nil_ c h2 A⟩
theorem read_atoms (h:DataW.trod enc Tryz.prog w base spare held fuel 23 [v]=some x):∃ xs:List GA,jac Any w v xs:=by
 obtain⟨A,n,c,rfl,h1,h2,h3⟩:=open_rows Tryz.underlying23 Tryz.underlying132 (by kernel_rfl) (by kernel_rfl) (by decide) h;by_cases h0:0<n
 · obtain ⟨b,off,hA,hb,hrow⟩:=h3 h0
   obtain ⟨xs,hl,hr⟩:=ja7 (fun i (a:GA)=>∃ u,w.cell? ⟨b,off+(i*2+0),none⟩=some (.string a.n)∧w.cell? ⟨b,off+(i*2+1),none⟩=some u∧a.n.size≤maxLen∧jae Any w u a.args) n 0 (fun i hi=>by
    rw[Nat.zero_add];obtain⟨k,cs,hcl,hc,hf⟩:=hrow i hi
    match cs,hcl with
    | [c0,c1],_ =>
      obtain⟨y0,hy0⟩:=hf 0 _ c0 rfl rfl;obtain⟨y1,hy1⟩:=hf 1 _ c1 rfl rfl;obtain⟨s,e1,_,hs⟩:=DataW.trod_string Tryz.underlying9 hy0;obtain⟨ts,ht⟩:=read_terms hy1;injection e1 with e1 _
      subst e1;exact⟨⟨s,ts⟩,c1,hc 0 _ rfl,hc 1 _ rfl,hs,ht⟩)
   refine⟨xs,A,c,by rw[hl],by rw[hl];exact h1,h2,fun _=>⟨b,off,hA,hb,trivial,fun i x hx=>?_⟩⟩;obtain⟨u,r0,r1,r2,r3⟩:=hr i x hx;rw[Nat.zero_add] at r0 r1;refine⟨[.string x.n,u],rfl,fun j y hy=>?_,u,rfl,r2,r3⟩
   match j,hy with
   | 0,hy=>simp at hy;subst hy;exact r0
   | 1,hy=>simp at hy;subst hy;exact r1
 obtain rfl:n=0:=by omega
 exact⟨[],jaa.nil_ c h2 A⟩
end
end Go.Proofs.YthdojieomhighaaGreatDoor
namespace Go.Proofs.YthdojieomhighaaGreatDoor
open Go.RowKit
theorem exactBaseOk_any (B:GB) (v:Value) (w:World) {S:Nat→Prop} (hv:BaseR S w v B) (he:ErrIs w) :
  Calls Tryz.prog 3 #[v] w fun e w'=>e=.returned (.bool true)∧Ext w w':=by
 obtain⟨A1,c1,A2,c2,A3,c3,rfl⟩:=hv.form;have hx0:=(Ext.refl w).alloc (.cells #[.slice A1 B.rules.length c1,.int .i64 B.time,.slice A2 B.given.length c2,.slice A3 B.hist.length c3] 26);have HB:=zh (Blk.new w 26 #[.slice A1 B.rules.length c1,.int .i64 B.time,.slice A2 B.given.length c2,.slice A3 B.hist.length c3]);have HV:=zh (hv.ext hx0);have HE:=zh (he.ext hx0);have HX0:=zh hx0;have hw:=jbw (jj0 B _ 1048576 _ ⟨by omega,by omega⟩ HV.out);clear hv he hx0;by_cases hsz:(1048576:Int)<wBase B
 · have HW:=zh (hw.1 hsz)
   clear hw hsz
   go_enter Tryz.func3,Tryz.ntmps3;go_wp2_with (go_at_call 8;refine HW.out.mono ?_;rintro e w1 ⟨rfl,hx1⟩)
   go_ret;exact⟨rfl,((Ext.refl _).alloc _).trans' hx1⟩
 have hle:wBase B≤1048576:=by omega
 have HW:=zh (hw.2 (by omega));have HL:=zh hle;have hr0:(0:Int)≤1048576-(wBase B:Int):=by omega
 clear hw hsz hle;obtain⟨bb,hbb⟩:∃ bb:Bool,bb=jbn B:=⟨_,rfl⟩
 have HS:=zh (fun (u:Value) (W:World) (T:Nat→Prop) (hu:BaseR T W u B)=>show Calls Tryz.prog 9 #[u] W fun e w'=>e=.returned (.bool bb)∧Ext W w' from by rw[hbb];exact je3 B u W hu);have HI:=zh (fun (u:Value) (W:World) (T:Nat→Prop) (hu:BaseR T W u B) (hE:ErrIs W)=>show Calls Tryz.prog 11 #[u] W fun e w'=>e=.returned (.bool bb)∧Ext W w' from by rw[hbb];exact je2 B u W hu hE);clear hbb;have HT:=zh (fun (W:World) (hW:Ext (w.alloc (.cells #[.slice A1 B.rules.length c1,.int .i64 B.time,.slice A2 B.given.length c2,.slice A3 B.hist.length c3] 26)) W)=>show Calls Tryz.prog 10 #[.agg #[.slice A1 B.rules.length c1,.int .i64 B.time,.slice A2 B.given.length c2,.slice A3 B.hist.length c3]] W fun e w'=>(∃ u,e=.returned u∧BaseR (From W.heap.size) w' u B)∧Ext W w' from (jj1 B _ W (HV.out.ext hW) HL.out).mono fun e w' h=>⟨Exists.elim h.1 fun u hu=>⟨u,hu.1,BaseO.read hu.2⟩,h.2⟩);have tok:True:=trivial;have tok2:True:=trivial;have hbq:(bb == bb)=true:=beq_self_eq_true _
 go_enter Tryz.func3,Tryz.ntmps3
 go_wp2_with (first
  | (go_at_call 8;refine HW.out.mono ?_;clear HW;rintro e w1 ⟨rfl,hx1⟩
     have hb1:=HB.out.ext hx1;have q0:=hb1.cell 0;have q1:=hb1.cell 1;have q2:=hb1.cell 2;have q3:=hb1.cell 3;have HX1:=zh hx1;clear hx1 hb1)
  | (go_at_call 10;have _t:=tok;refine (HT.out _ HX1.out).mono ?_;clear tok _t;rintro e w2 ⟨⟨u2,rfl,hu2⟩,hx2⟩
     clear q0 q1 q2 q3;have HU2:=zh hu2;have HX2:=zh (HX1.out.trans' hx2);clear hu2 hx2)
  | (go_at_call 9;refine (HS.out _ _ _ HU2.out).mono ?_;rintro e w3 ⟨rfl,hx3⟩
     have HX3:=zh (HX2.out.trans' hx3);have hb3:=HB.out.ext HX3.out;have q0:=hb3.cell 0;have q1:=hb3.cell 1;have q2:=hb3.cell 2;have q3:=hb3.cell 3;clear hx3 hb3)
  | (go_at_call 10;have _t:=tok2;refine (HT.out _ HX3.out).mono ?_;clear tok2 _t;rintro e w4 ⟨⟨u4,rfl,hu4⟩,hx4⟩
     clear q0 q1 q2 q3;obtain⟨D1,d1,D2,d2,D3,d3,rfl⟩:=hu4.form;have HU4:=zh hu4;have HX4:=zh (HX3.out.trans' hx4);clear hu4 hx4)
  | (go_at_call 11;refine (HI.out _ _ _ (HU4.out.ext ((Ext.refl _).alloc _)) (HE.out.ext (HX4.out.alloc _))).mono ?_;rintro e w5 ⟨rfl,hx5⟩
     have HX5:=zh ((HX4.out.alloc _).trans' hx5);have HY5:=zh hx5;have hb5:=HB.out.ext HX5.out;have q0:=hb5.cell 0;have q1:=hb5.cell 1;have q2:=hb5.cell 2;have q3:=hb5.cell 3;have hb6:=(Blk.new w4 33 #[.slice D1 B.rules.length d1,.int .i64 B.time,.slice D2 B.given.length d2,.slice D3 B.hist.length d3]).ext hx5;have r0:=hb6.cell 0;have r1:=hb6.cell 1;have r2:=hb6.cell 2;have r3:=hb6.cell 3;have hz5:=hx5.size;clear hx5 hb5 hb6))
 have hl1:w.heap.size<w5.heap.size:=jcm q0;have hl2:w4.heap.size<w5.heap.size:=jcm r0
 go_region_held3 (fun w'=>w'.cell? ⟨w.heap.size,0,none⟩=some (.slice A1 B.rules.length c1)∧w'.cell? ⟨w.heap.size,1,none⟩=some (.int .i64 B.time)∧w'.cell? ⟨w.heap.size,2,none⟩=some (.slice A2 B.given.length c2)∧w'.cell? ⟨w.heap.size,3,none⟩=some (.slice A3 B.hist.length c3) ∧
   w'.cell? ⟨w4.heap.size,0,none⟩=some (.slice D1 B.rules.length d1)∧w'.cell? ⟨w4.heap.size,1,none⟩=some (.int .i64 B.time)∧w'.cell? ⟨w4.heap.size,2,none⟩=some (.slice D2 B.given.length d2)∧w'.cell? ⟨w4.heap.size,3,none⟩=some (.slice D3 B.hist.length d3))
  (first|exact⟨q0,q1,q2,q3,r0,r1,r2,r3⟩|exact⟨s0,s1,s2,s3,s4,s5,s6,s7⟩|exact⟨t0,t1,t2,t3,t4,t5,t6,t7⟩)
  (first
   | (go_at_call 10;refine (HT.out _ HX5.out.drew).mono ?_;rintro e w6 ⟨⟨u6,rfl,hu6⟩,hx6⟩
      have HU6:=zh hu6;have HX6:=zh hx6;have s0:=(KeepR.of_ext (R:=Any) hx6).cell trivial q0;have s1:=(KeepR.of_ext (R:=Any) hx6).cell trivial q1;have s2:=(KeepR.of_ext (R:=Any) hx6).cell trivial q2;have s3:=(KeepR.of_ext (R:=Any) hx6).cell trivial q3;have s4:=(KeepR.of_ext (R:=Any) hx6).cell trivial r0;have s5:=(KeepR.of_ext (R:=Any) hx6).cell trivial r1;have s6:=(KeepR.of_ext (R:=Any) hx6).cell trivial r2;have s7:=(KeepR.of_ext (R:=Any) hx6).cell trivial r3;clear hu6 hx6)
   | (go_at_call 12;refine (jhw B _ _ _ (HU4.out.ext ((((Ext.refl _).alloc _).trans' HY5.out).drew.trans' HX6.out)) HU6.out).mono ?_;rintro e w7 ⟨rfl,hx7⟩
      have t0:=(KeepR.of_ext (R:=Any) hx7).cell trivial s0;have t1:=(KeepR.of_ext (R:=Any) hx7).cell trivial s1;have t2:=(KeepR.of_ext (R:=Any) hx7).cell trivial s2;have t3:=(KeepR.of_ext (R:=Any) hx7).cell trivial s3;have t4:=(KeepR.of_ext (R:=Any) hx7).cell trivial s4;have t5:=(KeepR.of_ext (R:=Any) hx7).cell trivial s5;have t6:=(KeepR.of_ext (R:=Any) hx7).cell trivial s6;have t7:=(KeepR.of_ext (R:=Any) hx7).cell trivial s7))
 go_wp2;go_ret;exact⟨rfl,(HX0.out.trans' HX5.out.drew).trans' (HX6.out.trans' hx7)⟩
end Go.Proofs.YthdojieomhighaaGreatDoor
namespace Go.Proofs.YthdojieomhighaaGreatDoor
open Go.RowKit Go.ChangeShapes Go.WideShapes
theorem law_own:ownKnob Tryz.prog.godebug=none:=by kernel_rfl
theorem law_laidOut:laidOutB Tryz.prog=true:=by kernel_rfl
section
variable {H:Type} {enc:TypeId × Value→H} {P:Program}
theorem trodAll_stays (hl:laidOutB P=true) {W W':World} (hb:Below W.heap.size W W'):∀ (ts:List TypeId) (vs:List Value) (ds:List (DataW H)) (ps:List MemPlace),(∀ t∈ts,P.readableRec t=true∧t<P.types.size) →
  DataW.TrodAll enc P W 0 (fun _=>true) true ts vs ds ps→(∀ x∈ps,x.block<W.heap.size)→∀ sp:Nat→Bool,(∀ x∈ps,sp x.block=true)→DataW.TrodAll enc P W' 0 sp true ts vs ds ps
 | [],[],[],ps,_,h,_,_,_=>h
 | t :: ts,v :: vs,d :: ds,ps,ht,h,hlt,sp,hsp=>by
   obtain⟨p,q,h1,h2,rfl⟩:=h;refine⟨p,q,?_,trodAll_stays hl hb ts vs ds q (fun t ht'=>ht t (List.mem_cons_of_mem _ ht')) h2 (fun x hx=>hlt x (List.mem_append.2 (.inr hx))) sp (fun x hx=>hsp x (List.mem_append.2 (.inr hx))),rfl⟩;exact WideElems.Trod_stays hl (ht t (by simp)).1 (ht t (by simp)).2 h1 (fun x hx=>hb.same (hlt x (List.mem_append.2 (.inl hx)))) (fun x hx=>hsp x (List.mem_append.2 (.inl hx)))
 | [],_ :: _,_,_,_,h,_,_,_=>by simp[DataW.TrodAll] at h
 | [],[],_ :: _,_,_,h,_,_,_=>by simp[DataW.TrodAll] at h
 | _ :: _,[],_,_,_,h,_,_,_=>by simp[DataW.TrodAll] at h
 | _ :: _,_ :: _,[],_,_,h,_,_,_=>by simp[DataW.TrodAll] at h
theorem law_post {f:Func} {s:ChangeSpec} {apart fresh handsOn again:Bool} {W W':World} {args:Array Value} {ds:List (DataW H)} {before:List MemPlace} {t:TypeId}
  (hvars:s.vars=[]) (hres:f.resultTypes = #[t]) (hbool:P.underlying t=some .bool) (hspec:s.fn H (ds++[]) = { results:=[.lit (.bool true)],args:=ds })
  (hl:laidOutB P=true) (hts:∀ t∈f.params.toList,P.readableRec t=true∧t<P.types.size)
  (hW:DataW.Whole enc P f.params.toList s.vars apart W args.toList ds [] before) (hb:Below W.heap.size W W') :
  s.post enc P f apart fresh handsOn again W args (.bool true) W':=by
 obtain⟨p,q,hA,hV,hpq,hz,hn⟩:=id hW
 have hq:q=[]:=by
  rw[hvars] at hV;obtain⟨_,h2⟩:=trodVars_none hV;exact h2
 subst hq;rw[List.append_nil] at hpq;subst hpq;have hlt:∀ x∈before,x.block<W.heap.size:=fun x hx=>hW.lt x hx
 have hstay:=trodAll_stays hl hb _ _ _ _ hts hA hlt;have hold:∀ x∈before,(fun b=>decide (b<W.heap.size)) x.block=true:=fun x hx=>by simpa using hlt x hx
 have hr:∀ (b:Nat) (sp:Nat→Bool) (hd:Bool),DataW.TrodAll enc P W' b sp hd f.resultTypes.toList ((Value.bool true).resultList f.resultTypes.size) (s.fn H (ds++[])).results []:=by
  intro b sp hd;rw[hres,hspec];exact trodAll_mk1 (shut_bool hbool true)
 have hvr:∀ sp:Nat→Bool,DataW.TrodVars enc P W' sp s.vars (s.fn H (ds++[])).vars []:=by
  intro sp;rw[hvars,hspec]
  rfl
 have hargs:∀ sp:Nat→Bool,(∀ x∈before,sp x.block=true)→DataW.TrodAll enc P W' 0 sp true f.params.toList args.toList (s.fn H (ds++[])).args before:=by
  intro sp hsp;rw[hspec];exact hstay sp hsp
 refine⟨ds,[],before,[],before,[],hW,hr _ _ _,hargs _ hold,hvr _,World.keptBut_mono (fun x hx=>⟨hx,.inr (by simpa using hx)⟩) (hb.frame (· ∈before)),fun _=>?_⟩;refine⟨ok_one hres rfl (okWide_bool_mk hbool true),_,_,([]++before)++[],⟨[]++before,[],trodAll_append (hargs _ (fun _ _=>rfl)) (hr _ _ _),hvr _,rfl,?_,?_⟩,?_⟩
 · intro b off hp
   have hin:MemPlace.cell b off∈before:=by simpa using hp
   rw[hb.frozen (hlt _ hin)];exact hz b off hin
 · intro ha
   have:=hn ha;simpa using this
 intro x hx _;simpa using hx
end
end Go.Proofs.YthdojieomhighaaGreatDoor
namespace Go.Proofs.YthdojieomhighaaGreatDoor
open Go Go.RowKit Go.ChangeShapes Go.WideShapes Go.ChangeAt
theorem bok_wf:(Rows.fnExactBaseOkRow.wf (OpenSpec.ofChange Rows.fnExactBaseOkSpec) && laidOutB Tryz.pinned.checked.prog && mapsRowed Tryz.pinned.checked.prog)=true:=by kernel_rfl
theorem bok_inPlace:(Rows.fnExactBaseOkRow.inPlace == Tryz.pinned.checked.prog.inPlace 3)=true:=by kernel_rfl
theorem bok_unfollowed:(Rows.fnExactBaseOkRow.unfollowed == Tryz.pinned.checked.prog.unfollowed 3)=true:=by kernel_rfl
theorem bok_recurses:(Rows.fnExactBaseOkRow.recurses == Tryz.pinned.checked.prog.recurses 3)=true:=by kernel_rfl
theorem bok_named:(Rows.fnExactBaseOkRow.named == Tryz.pinned.checked.prog.varsNamed 3)=true:=by kernel_rfl
theorem bok_closed:joinedFacts Tryz.pinned.checked.prog 3 Tryz.f3 Rows.fnExactBaseOkSpec Rows.fnExactBaseOkRow=true:=by
 unfold joinedFacts;rw[bok_wf,bok_inPlace,bok_unfollowed,bok_recurses,bok_named]
 kernel_rfl
theorem bok_word:Rows.fnExactBaseOkRow.wfByText (OpenSpec.ofChange Rows.fnExactBaseOkSpec)=true:=by kernel_rfl
theorem bok_main:Tryz.pinned.checked.prog.mainIs=some (true, "716a1bbada85004e6b2427beb1733e4d3f3d684104e8f0391f6013de4c71cca0".toList):=by kernel_rfl
theorem bok_looks:true=Tryz.pinned.checked.prog.looks []:=by kernel_rfl
theorem bok_goes:false=Rows.fnExactBaseOkRow.goesBy Tryz.pinned.checked.prog:=by kernel_rfl
theorem bok_func:Tryz.pinned.checked.prog.funcNamed Rows.fnExactBaseOkRow.func=some 3:=by kernel_rfl
end Go.Proofs.YthdojieomhighaaGreatDoor
namespace Go.Proofs.YthdojieomhighaaGreatDoor
open Go.RowKit Go.ChangeShapes Go.WideShapes Go.Deep
section
variable {H:Type} {enc:TypeId × Value→H} {P:Program} {w:World} {base:Nat} {spare:Nat→Bool} {held:Bool}
theorem open_elems {t e:TypeId} {fuel m:Nat} {v:Value} {x:DataW H × List MemPlace} (ht:P.underlying t=some (.slice e)) (hC:P.cellsOf e=m) (hm0:0<m) (h:DataW.trod enc P w base spare held fuel t [v]=some x) :
  ∃ (A : Option Addr) (n c:Nat),v=.slice A n c∧n≤c∧c≤maxLen ∧
    (0 < n→∃ b off,A=some ⟨b,off,none⟩∧b<w.heap.size∧∀ i,i<n→∃ (k:Nat) (cs:List Value),cs.length=m∧(∀ (j:Nat) (u:Value),cs[j]? = some u→w.cell? ⟨b,off+(i*m+j),none⟩=some u) ∧
     ∃ y,DataW.trod enc P w base spare held k e cs=some y):=by
 rcases open_slice ht h with ⟨hcs,_⟩|⟨a,len,cap,q,n,D,Pl,hcs,hb,hl,hm,hmm,hx,hi⟩
 · injection hcs with hv _
   subst hv;exact⟨none,0,0,rfl,Nat.le_refl _,Nat.zero_le _,fun h=>absurd h (by omega)⟩
 injection hcs with hv _
 subst hv;refine⟨some a,len,cap,rfl,hl,hm,fun h0=>?_⟩;have hml:len≤q:=by rw[hmm];split<;>omega
 have key:∀ i,i<len→∃ (k:Nat) (cs:List Value),cs.length=m∧(∀ (j:Nat) (u:Value),cs[j]? = some u→w.cell? (a.add (i*m+j))=some u)∧∃ y,DataW.trod enc P w base spare held k e cs=some y:=by
  intro i hilt;obtain⟨cs',hc,ht'⟩:=hi i (by omega);rw[hC] at hc;obtain⟨_,hcl,hat⟩:=World.cells?_some hc;refine⟨n,cs',hcl,fun j u hu=>?_,_,ht'⟩;have hjl:j<m:=by rw[← hcl];exact (List.getElem?_eq_some_iff.1 hu).1
  rw[← Go.Deep.add_add,hat j hjl,hu]
 obtain⟨k0,cs0,hl0,hc0,_⟩:=key 0 h0;have h00:=hc0 0 (cs0[0]'(by omega)) (List.getElem?_eq_getElem (by omega));rw[Nat.zero_mul,Nat.add_zero] at h00;have ha0:a.add 0=a:=by simp[Addr.add]
 rw[ha0] at h00;have haa:=cell_addr h00
 have hadd:∀ n,a.add n=⟨a.block,a.off+n,none⟩:=by
  intro n;unfold Addr.add;split
  · rename_i h;subst h;rw[Nat.add_zero];exact haa
  rfl
 refine⟨a.block,a.off,by rw[← haa],?_,fun i hilt=>?_⟩
 · rw[haa] at h00;exact jcm h00
 obtain⟨k,cs,hl1,hc1,hf1⟩:=key i hilt;exact⟨k,cs,hl1,fun j u hu=>by rw[← hadd];exact hc1 j u hu,hf1⟩
theorem field_of {e:TypeId} {fs:Array Field} {k m:Nat} {cs l:List Value} {y:DataW H × List MemPlace} (he:P.underlying e=some (.struct fs)) (h:DataW.trod enc P w base spare held k e cs=some y) (j:Nat) (f:Field) (hj:fs[j]? = some f)
  (hm:P.cellsOf f.type=m) (hl:(cs.drop f.offset).take m=l):∃ (k':Nat) (y':DataW H × List MemPlace),DataW.trod enc P w base spare held k' f.type l=some y':=by
 obtain⟨ys,n',hn',hy,hlen,hyl,hf⟩:=DataW.trod_struct he h;have h1:=hf j f hj;rw[hm,hl] at h1;have hjl:j<fs.size:=(Array.getElem?_eq_some_iff.1 hj).1;have hys:ys[j]? = some (ys[j]'(by omega)):=List.getElem?_eq_getElem (by omega);exact⟨_,_,h1.trans hys⟩
end
section
variable {H:Type} {enc:TypeId × Value→H} {w:World} {base:Nat} {spare:Nat→Bool} {held:Bool} {fuel:Nat} {v:Value} {x:DataW H × List MemPlace}
theorem read_atom {c0 c1:Value} (h:DataW.trod enc Tryz.prog w base spare held fuel 132 [c0,c1]=some x):∃ (s:ByteArray) (ts:List GT),c0=.string s∧s.size≤maxLen∧jae Any w c1 ts:=by
 obtain⟨k0,y0,h0⟩:=field_of Tryz.underlying132 h 0 _ rfl (m:=1) (l:=[c0]) (by kernel_rfl) rfl;obtain⟨k1,y1,h1⟩:=field_of Tryz.underlying132 h 1 _ rfl (m:=1) (l:=[c1]) (by kernel_rfl) rfl;obtain⟨s,e1,_,hs⟩:=DataW.trod_string Tryz.underlying9 h0;obtain⟨ts,ht⟩:=read_terms h1;injection e1 with e1 _
 exact⟨s,ts,e1,hs,ht⟩
theorem read_parts (h:DataW.trod enc Tryz.prog w base spare held fuel 133 [v]=some x):∃ xs:List GP,jao Any w v xs:=by
 obtain⟨A,n,c,rfl,h1,h2,h3⟩:=open_elems (m:=3) Tryz.underlying133 (by kernel_rfl) (by decide) h;by_cases h0:0<n
 · obtain ⟨b,off,hA,hb,hrow⟩:=h3 h0
   obtain ⟨xs,hl,hr⟩:=ja7 (fun i (a:GP)=>∃ u,w.cell? ⟨b,off+(i*3+0),none⟩=some (.bool a.no)∧w.cell? ⟨b,off+(i*3+1),none⟩=some (.string a.atom.n)∧w.cell? ⟨b,off+(i*3+2),none⟩=some u∧a.atom.n.size≤maxLen∧jae Any w u a.atom.args) n 0 (fun i hi=>by
    rw[Nat.zero_add];obtain⟨k,cs,hcl,hc,y,hy⟩:=hrow i hi
    match cs,hcl with
    | [c0,c1,c2],_ =>
      obtain⟨k0,y0,hy0⟩:=field_of Tryz.underlying245 hy 0 _ rfl (m:=1) (l:=[c0]) (by kernel_rfl) rfl;obtain⟨k1,y1,hy1⟩:=field_of Tryz.underlying245 hy 1 _ rfl (m:=2) (l:=[c1,c2]) (by kernel_rfl) rfl;obtain⟨bv,e0,_⟩:=DataW.trod_bool Tryz.underlying4 hy0;injection e0 with e0 _
      obtain⟨s,ts,rfl,hs,ht⟩:=read_atom hy1;subst e0;exact⟨⟨bv,⟨s,ts⟩⟩,c2,hc 0 _ rfl,hc 1 _ rfl,hc 2 _ rfl,hs,ht⟩)
   refine⟨xs,A,c,by rw[hl],by rw[hl];exact h1,h2,fun _=>⟨b,off,hA,hb,trivial,fun i x hx=>?_⟩⟩;obtain⟨u,r0,r1,r2,r3,r4⟩:=hr i x hx;rw[Nat.zero_add] at r0 r1 r2;refine⟨[.bool x.no,.string x.atom.n,u],rfl,fun j y hy=>?_,u,rfl,r3,r4⟩
   match j,hy with
   | 0,hy=>simp at hy;subst hy;exact r0
   | 1,hy=>simp at hy;subst hy;exact r1
   | 2,hy=>simp at hy;subst hy;exact r2
 obtain rfl:n=0:=by omega
 exact⟨[],jaa.nil_ c h2 A⟩
theorem read_rules (h:DataW.trod enc Tryz.prog w base spare held fuel 22 [v]=some x):∃ xs:List GR,jal Any w v xs:=by
 obtain⟨A,n,c,rfl,h1,h2,h3⟩:=open_elems (m:=3) Tryz.underlying22 (by kernel_rfl) (by decide) h;by_cases h0:0<n
 · obtain ⟨b,off,hA,hb,hrow⟩:=h3 h0
   obtain ⟨xs,hl,hr⟩:=ja7 (fun i (a:GR)=>∃ u z,w.cell? ⟨b,off+(i*3+0),none⟩=some (.string a.head.n)∧w.cell? ⟨b,off+(i*3+1),none⟩=some u∧w.cell? ⟨b,off+(i*3+2),none⟩=some z∧a.head.n.size≤maxLen∧jae Any w u a.head.args∧jao Any w z a.body) n 0 (fun i hi=>by
    rw[Nat.zero_add];obtain⟨k,cs,hcl,hc,y,hy⟩:=hrow i hi
    match cs,hcl with
    | [c0,c1,c2],_ =>
      obtain⟨k0,y0,hy0⟩:=field_of Tryz.underlying135 hy 0 _ rfl (m:=2) (l:=[c0,c1]) (by kernel_rfl) rfl;obtain⟨k1,y1,hy1⟩:=field_of Tryz.underlying135 hy 1 _ rfl (m:=1) (l:=[c2]) (by kernel_rfl) rfl;obtain⟨s,ts,rfl,hs,ht⟩:=read_atom hy0;obtain⟨ps,hp⟩:=read_parts hy1;exact⟨⟨⟨s,ts⟩,ps⟩,c1,c2,hc 0 _ rfl,hc 1 _ rfl,hc 2 _ rfl,hs,ht,hp⟩)
   refine⟨xs,A,c,by rw[hl],by rw[hl];exact h1,h2,fun _=>⟨b,off,hA,hb,trivial,fun i x hx=>?_⟩⟩;obtain⟨u,z,r0,r1,r2,r3,r4,r5⟩:=hr i x hx;rw[Nat.zero_add] at r0 r1 r2;refine⟨[.string x.head.n,u,z],rfl,fun j y hy=>?_,u,z,rfl,r3,r4,r5⟩
   match j,hy with
   | 0,hy=>simp at hy;subst hy;exact r0
   | 1,hy=>simp at hy;subst hy;exact r1
   | 2,hy=>simp at hy;subst hy;exact r2
 obtain rfl:n=0:=by omega
 exact⟨[],jaa.nil_ c h2 A⟩
end
end Go.Proofs.YthdojieomhighaaGreatDoor
namespace Go.Proofs.YthdojieomhighaaGreatDoor
open Go.RowKit Go.ChangeShapes Go.WideShapes Go.Joins
section
variable {H:Type} {enc:TypeId × Value→H} {w:World} {base:Nat} {spare:Nat→Bool} {held:Bool} {fuel:Nat} {v:Value} {x:DataW H × List MemPlace}
theorem read_changes (h:DataW.trod enc Tryz.prog w base spare held fuel 24 [v]=some x):∃ xs:List GC,jan Any w v xs:=by
 obtain⟨A,n,c,rfl,h1,h2,h3⟩:=open_rows Tryz.underlying24 Tryz.underlying139 (by kernel_rfl) (by kernel_rfl) (by decide) h;by_cases h0:0<n
 · obtain ⟨b,off,hA,hb,hrow⟩:=h3 h0
   obtain ⟨xs,hl,hr⟩:=ja7 (fun i (a:GC)=>∃ u z,w.cell? ⟨b,off+(i*2+0),none⟩=some u∧w.cell? ⟨b,off+(i*2+1),none⟩=some z∧jac Any w u a.comes∧jac Any w z a.goes) n 0 (fun i hi=>by
    rw[Nat.zero_add];obtain⟨k,cs,hcl,hc,hf⟩:=hrow i hi
    match cs,hcl with
    | [c0,c1],_ =>
      obtain⟨y0,hy0⟩:=hf 0 _ c0 rfl rfl;obtain⟨y1,hy1⟩:=hf 1 _ c1 rfl rfl;obtain⟨xs,hxs⟩:=read_atoms hy0;obtain⟨ys,hys⟩:=read_atoms hy1;exact⟨⟨xs,ys⟩,c0,c1,hc 0 _ rfl,hc 1 _ rfl,hxs,hys⟩)
   refine⟨xs,A,c,by rw[hl],by rw[hl];exact h1,h2,fun _=>⟨b,off,hA,hb,trivial,fun i x hx=>?_⟩⟩;obtain⟨u,z,r0,r1,r2,r3⟩:=hr i x hx;rw[Nat.zero_add] at r0 r1;refine⟨[u,z],rfl,fun j y hy=>?_,u,z,rfl,r2,r3⟩
   match j,hy with
   | 0,hy=>simp at hy;subst hy;exact r0
   | 1,hy=>simp at hy;subst hy;exact r1
 obtain rfl:n=0:=by omega
 exact⟨[],jaa.nil_ c h2 A⟩
theorem law_base_cells:Tryz.prog.cellsOf 26=4:=by kernel_rfl
theorem read_base {r:Reach} {b0:Nat} {d:DataW H} {p:List MemPlace} (hv:Value.okWide Tryz.prog w r b0 26 v) (h:DataW.Trod enc Tryz.prog w base spare held 26 v d p):∃ B:GB,BaseR Any w v B:=by
 obtain⟨c0,c1,c2,c3,y0,y1,y2,y3,m,rfl,rfl,rfl,hy0,hy1,hy2,hy3⟩:=open_agg4 Tryz.underlying26 (by kernel_rfl) law_base_cells hv h;obtain⟨rs,hrs⟩:=read_rules hy0;obtain⟨n,e1,_⟩:=DataW.trod_int Tryz.underlying3 hy1;obtain⟨xs,hxs⟩:=read_atoms hy2;obtain⟨cs,hcs⟩:=read_changes hy3;injection e1 with e1 _
 subst e1;exact⟨⟨rs,n,xs,cs⟩,c0,c2,c3,rfl,hrs,hxs,hcs⟩
end
end Go.Proofs.YthdojieomhighaaGreatDoor
namespace Go.Proofs.YthdojieomhighaaGreatDoor
open Go.RowKit Go.ChangeShapes Go.WideShapes Go.ChangeAt
theorem bok_et:Tryz.prog.globalNamed "errors.errorType" = some 0:=by kernel_rfl
theorem bok_rt:(Tryz.prog.cutTypes.find? (·.1 == "internal/reflectlite.rtype")).map (·.2)=some 346:=by kernel_rfl
theorem bok_oneRow:((List.range Tryz.prog.types.size).filter fun t=>Tryz.prog.rowNamed t [101,114,114,111,114])=[199]:=by kernel_rfl
theorem bok_handle:typeHandle Tryz.prog 199=.pointer (some ⟨2,199,none⟩):=by kernel_rfl
theorem bok_err {W:World} (h:laidMetH Tryz.prog Rows.fnExactBaseOkRow.laid W):ErrIs W:=by
 have h':laidMet Tryz.prog [] W∧handlesMet Tryz.prog Rows.fnExactBaseOkRow.laid W:=h;obtain⟨name,u,ty,e1,e2,e3,e4,e5⟩:=h'.2 _ (List.mem_singleton.2 rfl);have en:name=[101,114,114,111,114]:=(Option.some.inj e1).symm;subst en;obtain rfl:=Option.some.inj (bok_rt.symm.trans e2);have hm:ty∈(List.range Tryz.prog.types.size).filter fun t=>Tryz.prog.rowNamed t [101,114,114,111,114]:=List.mem_filter.2 ⟨List.mem_range.2 e3,e4⟩
 rw[bok_oneRow] at hm;obtain rfl:=List.mem_singleton.1 hm;rw[bok_handle] at e5;simpa [ErrIs] using World.var?_cell bok_et e5 0
noncomputable def bok_world (os:Os):World :=
 let w0:=World.holding Tryz.prog os ⟨#[],#[],[]⟩
 { w0 with heap:=w0.heap.modify 0 fun
  | .cells _ t frozen=>.cells #[.iface 346 (.agg #[.pointer (some ⟨2,199,none⟩)])] t frozen
  | o=>o }
theorem bok_met (os:Os) (args:Array Value):laidMetH Tryz.prog Rows.fnExactBaseOkRow.laid ((bok_world os).forCall (fun _ _=>0) ⟨#[],args,[]⟩).memory :=
 laidMetH_of_parts (laidMet_nil _ _) (by kernel_rfl)
theorem bok_lifted (os:Os) (started:os.Started) (H:Type) (enc:TypeId × Value→H) :
  ReturnsInHanded {} Tryz.checked os 3 .any (fun w args=>(Rows.fnExactBaseOkSpec.pre enc Tryz.prog Tryz.f3 [] false w args∧laidMetH Tryz.prog Rows.fnExactBaseOkRow.laid w)∧sizedMet enc Tryz.prog Tryz.f3 (OpenSpec.ofChange Rows.fnExactBaseOkSpec) false w args)
   (Rows.fnExactBaseOkSpec.post enc Tryz.prog Tryz.f3 false true false false):=by
 refine returnsInHanded_of_change_and (C:=Tryz.checked) (X:=fun w _=>laidMetH Tryz.prog Rows.fnExactBaseOkRow.laid w) (fun _ _ _ hh h=>h.of_heap hh) law_own started (by kernel_rfl) Tryz.func3
  (ChangeSpec.witness_at (enc:=enc) (C:=Tryz.checked) (os:=os) (X:=fun w _=>laidMetH Tryz.prog Rows.fnExactBaseOkRow.laid w) false (bok_world os) #[.agg #[.slice none 0 0,.int .i64 0,.slice none 0 0,.slice none 0 0]] 8 rfl (by kernel_rfl) (by kernel_rfl) (by kernel_rfl) (by kernel_rfl) (by kernel_rfl) (bok_met os _)) ?_
 intro W base args ds gs before hval0 hW _ _ hL _;have hval:∀ (j:Nat) t v,Tryz.f3.params[j]? = some t→args[j]? = some v→Value.okWide Tryz.prog W .any base t v:=hval0;have hW':=hW;obtain⟨p,q,hA0,hV,rfl,hfz,hnd⟩:=hW;have hA:DataW.TrodAll enc Tryz.prog W 0 (fun _=>true) true Tryz.f3.params.toList args.toList ds p:=hA0;rw[Tryz.params3] at hA hval;obtain⟨v0,d0,rfl,rfl,h0⟩:=trodAll_one hA;obtain⟨rfl,rfl⟩:=trodVars_none hV;clear hA0 hval0;simp only[List.append_nil] at hW';obtain⟨B,hB⟩:=read_base (hval 0 26 v0 rfl rfl) h0;refine (exactBaseOk_any B _ W hB (bok_err hL)).mono fun e W' ⟨he,hw⟩=>?_
 subst he;exact⟨_,rfl,law_post (t:=4) rfl rfl Tryz.underlying4 rfl law_laidOut (by rw[Tryz.params3];intro t ht;simp at ht;rcases ht with rfl<;>exact⟨by kernel_rfl,of_decide_eq_true (by kernel_rfl)⟩) hW' hw⟩
theorem bok_inst:Tryz.f3.isInstance Tryz.pinned.checked.prog Rows.fnExactBaseOkRow.origin Rows.fnExactBaseOkRow.targs:=of_decide_eq_true (by kernel_rfl)
theorem bok_wrap:Tryz.f3.isWrapper Tryz.pinned.checked.prog Rows.fnExactBaseOkRow.wrapper Rows.fnExactBaseOkRow.mainSum:=by
 unfold Func.isWrapper;rw[if_neg (of_decide_eq_false (by kernel_rfl))];exact⟨rfl,rfl⟩
theorem bok_row (os:Os) (started:os.Started) (H:Type) (enc:TypeId × Value→H) (_:∀ a b,enc a=enc b→a=b) :
  ReturnsInHanded Rows.fnExactBaseOkRow.assume Tryz.pinned.checked os 3 .any (Rows.fnExactBaseOkRow.pre enc Tryz.pinned.checked.prog Tryz.f3 (OpenSpec.ofChange Rows.fnExactBaseOkSpec)) (Rows.fnExactBaseOkSpec.post enc Tryz.pinned.checked.prog Tryz.f3 Rows.fnExactBaseOkRow.apart Rows.fnExactBaseOkRow.fresh Rows.fnExactBaseOkRow.handsOn Rows.fnExactBaseOkRow.again) :=
 bok_lifted os started H enc
theorem bok_open:Rows.fnExactBaseOkRow.holds Tryz.pinned (OpenSpec.ofChange Rows.fnExactBaseOkSpec) :=
 OpenClaim.holds_of_wide 3 Tryz.f3 rfl rfl rfl rfl rfl rfl rfl ⟨rfl,rfl,rfl,rfl,rfl⟩ rfl rfl rfl rfl rfl (by kernel_rfl) Tryz.func3 bok_closed bok_inst bok_wrap bok_row
theorem bok_said:Rows.FnExactBaseOkSaid:=bok_open
theorem bok_args:([26].all fun u=> !Tryz.pinned.checked.prog.wantsStandIn u)=true:=by kernel_rfl
theorem fnExactBaseOk_holds:Rows.FnExactBaseOkCardSaid :=
 Claim7.holds_tied_plain_at .later [] [.handle] true (true, "716a1bbada85004e6b2427beb1733e4d3f3d684104e8f0391f6013de4c71cca0") true
  bok_said (fun _ h=>by cases h) bok_word (fun _ h=>by cases h) fnExactBaseOk_row_tie rfl ⟨rfl,rfl⟩ bok_main rfl
  (fun f fn hf hfn=>by
   obtain rfl:f=3:=Option.some.inj (bok_func.symm.trans hf) |>.symm
   obtain rfl:fn=Tryz.f3:=(Option.some.inj (Tryz.func3.symm.trans hfn)).symm
   exact ⟨bok_looks,fun j t ht=>by
    rw[Tryz.params3] at ht;have hm:t∈ [26]:=by simpa using Array.mem_of_getElem? ht
    exact (show Tryz.pinned.checked.prog.wantsStandIn t=false by simpa using List.all_eq_true.1 bok_args t hm)⟩)
  bok_goes
end Go.Proofs.YthdojieomhighaaGreatDoor
