/- Own texts, joined. -/
import Derived.Test.YthdojieomhighaaGreatDoorRows
import Derived.Test.YthdojieomhighaaGreatDoorCas01
import Derived.ProofKit
import Derived.Deep.Slices
import Derived.Deep.Fields
import Derived.ChangeSame
import Derived.Test.YthdojieomhighaaGreatDoorCas04
import Derived.Test.YthdojieomhighaaGreatDoorCas21
import Derived.Test.YthdojieomhighaaGreatDoorCas22
import Derived.Test.YthdojieomhighaaGreatDoorCas07
import Derived.Lib.ItoaNum
import Derived.Test.YthdojieomhighaaGreatDoorCas33
import Derived.Laws.CopyOwn
import Derived.Deep.RegionHeld3
import Derived.Test.YthdojieomhighaaGreatDoorCas06
import Derived.Test.YthdojieomhighaaGreatDoorCas20
import Derived.Deep.LoopGhost
import Derived.Deep.RegionLaw
import Derived.Laws.IdiomStrings
import Derived.Deep.RegionWith
import Derived.IntWalk
import Derived.Test.YthdojieomhighaaGreatDoorCas02
set_option linter.unusedSimpArgs false
set_option linter.unusedVariables false
set_option maxHeartbeats 4000000
set_option maxRecDepth 100000
namespace Go.Proofs.YthdojieomhighaaGreatDoor
open Go.RowKit Go.ChangeShapes Go.WideShapes Go.Deep
section
variable {H:Type} {enc:TypeId × Value→H} {P:Program} {w:World} {base:Nat} {spare:Nat→Bool} {held:Bool}
theorem j3s {α:Type} {l:List α} {k:Nat} {x:α} (h:l[k]? = some x):l.drop k=x :: l.drop (k+1):=by
 obtain⟨hk,rfl⟩:=List.getElem?_eq_some_iff.1 h;exact List.drop_eq_getElem_cons hk
theorem j24 {w:World} {a:Addr} {u:Value} (h:w.cell? a=some u):a=⟨a.block,a.off,none⟩:=by
 obtain⟨b,o,s⟩:=a
 cases s with
 | none=>rfl
 | some s=>simp only[World.cell?] at h;split at h<;>simp at h
theorem j2g {t e:TypeId} {fs:Array Field} {fuel:Nat} {v:Value} {x:DataW H × List MemPlace} (ht:P.underlying t=some (.slice e)) (he:P.underlying e=some (.struct fs))
  (hone:oneCellFields P fs=true) (hC:P.cellsOf e=fs.size) (hfs:0<fs.size) (h:DataW.trod enc P w base spare held fuel t [v]=some x) :
  ∃ (A : Option Addr) (n c:Nat),v=.slice A n c∧n≤c∧c≤maxLen ∧
    (0 < n→∃ b off,A=some ⟨b,off,none⟩∧b<w.heap.size∧∀ i,i<n→∃ (k:Nat) (cs:List Value),cs.length=fs.size∧(∀ (j:Nat) (u:Value),cs[j]? = some u→w.cell? ⟨b,off+(i*fs.size+j),none⟩=some u) ∧
     ∀ (j:Nat) (f:Field) (u:Value),fs[j]? = some f→cs[j]? = some u→∃ y,DataW.trod enc P w base spare held k f.type [u]=some y):=by
 rcases open_slice ht h with ⟨hcs,_⟩|⟨a,len,cap,m,n,D,Pl,hcs,hb,hl,hm,hmm,hx,hi⟩
 · injection hcs with hv _
   subst hv;exact⟨none,0,0,rfl,Nat.le_refl _,Nat.zero_le _,fun h=>absurd h (by omega)⟩
 injection hcs with hv _
 subst hv;refine⟨some a,len,cap,rfl,hl,hm,fun h0=>?_⟩;have hml:len≤m:=by rw[hmm];split<;>omega
 have key:∀ i,i<len→∃ (k:Nat) (cs:List Value),cs.length=fs.size∧(∀ (j:Nat) (u:Value),cs[j]? = some u→w.cell? (a.add (i*fs.size+j))=some u) ∧
   ∀ (j:Nat) (f:Field) (u:Value),fs[j]? = some f→cs[j]? = some u→∃ y,DataW.trod enc P w base spare held k f.type [u]=some y:=by
  intro i hilt;obtain⟨cs',hc,ht'⟩:=hi i (by omega);rw[hC] at hc;obtain⟨ys,n',hn',hy,hlen,hyl,hf⟩:=DataW.trod_struct he ht';obtain⟨_,hcl,hat⟩:=World.cells?_some hc;refine⟨n',cs',hcl,fun j u hu=>?_,fun j f u hj hu=>?_⟩
  · have hjl:j<fs.size:=by rw[← hcl];exact (List.getElem?_eq_some_iff.1 hu).1
    rw[← Go.Deep.add_add,hat j hjl,hu]
  obtain⟨ho,hk⟩:=hone_of hone j f hj;have hjl:j<fs.size:=(Array.getElem?_eq_some_iff.1 hj).1;have h1:=hf j f hj;rw[ho,hk] at h1
  have hone':(cs'.drop j).take 1=[u]:=by
   rw[j3s hu]
   rfl
  rw[hone'] at h1;have hys:ys[j]? = some (ys[j]'(by omega)):=List.getElem?_eq_getElem (by omega);exact⟨_,h1.trans hys⟩
 obtain⟨k0,cs0,hl0,hc0,_⟩:=key 0 h0;have h00:=hc0 0 (cs0[0]'(by omega)) (List.getElem?_eq_getElem (by omega));rw[Nat.zero_mul,Nat.add_zero] at h00;have ha0:a.add 0=a:=by simp[Addr.add]
 rw[ha0] at h00;have haa:=j24 h00
 have hadd:∀ n,a.add n=⟨a.block,a.off+n,none⟩:=by
  intro n;unfold Addr.add;split
  · rename_i h;subst h;rw[Nat.add_zero];exact haa
  rfl
 refine⟨a.block,a.off,by rw[← haa],?_,fun i hilt=>?_⟩
 · rw[haa] at h00;exact jcm h00
 obtain⟨k,cs,hl1,hc1,hf1⟩:=key i hilt;exact⟨k,cs,hl1,fun j u hu=>by rw[← hadd];exact hc1 j u hu,hf1⟩
end
section
variable {H:Type} {enc:TypeId × Value→H} {w:World} {base:Nat} {spare:Nat→Bool} {held:Bool} {fuel:Nat} {v:Value} {x:DataW H × List MemPlace}
theorem j2s (h:DataW.trod enc Tryz.prog w base spare held fuel 130 [v]=some x):∃ xs:List GT,jae Any w v xs:=by
 obtain⟨A,n,c,rfl,h1,h2,h3⟩:=j2g Tryz.underlying130 Tryz.underlying247 (by kernel_rfl) (by kernel_rfl) (by decide) h;by_cases h0:0<n
 · obtain ⟨b,off,hA,hb,hrow⟩:=h3 h0
   obtain ⟨xs,hl,hr⟩:=ja7 (fun i (t:GT)=>w.cell? ⟨b,off+(i*2+0),none⟩=some (.bool t.v)∧w.cell? ⟨b,off+(i*2+1),none⟩=some (.string t.n)∧t.n.size≤maxLen) n 0 (fun i hi=>by
    rw[Nat.zero_add];obtain⟨k,cs,hcl,hc,hf⟩:=hrow i hi
    match cs,hcl with
    | [c0,c1],_ =>
      obtain⟨y0,hy0⟩:=hf 0 _ c0 rfl rfl;obtain⟨y1,hy1⟩:=hf 1 _ c1 rfl rfl;obtain⟨bv,e0,_⟩:=DataW.trod_bool Tryz.underlying4 hy0;obtain⟨s,e1,_,hs⟩:=DataW.trod_string Tryz.underlying9 hy1;injection e0 with e0 _
      injection e1 with e1 _
      subst e0;subst e1;exact⟨⟨bv,s⟩,hc 0 _ rfl,hc 1 _ rfl,hs⟩)
   refine⟨xs,A,c,by rw[hl],by rw[hl];exact h1,h2,fun _=>⟨b,off,hA,hb,trivial,fun i x hx=>?_⟩⟩;obtain⟨r0,r1,r2⟩:=hr i x hx;rw[Nat.zero_add] at r0 r1;refine⟨[.bool x.v,.string x.n],rfl,fun j u hu=>?_,rfl,r2⟩
   match j,hu with
   | 0,hu=>simp at hu;subst hu;exact r0
   | 1,hu=>simp at hu;subst hu;exact r1
 obtain rfl:n=0:=by omega
 exact⟨[],jaa.nil_ c h2 A⟩
theorem j18 (h:DataW.trod enc Tryz.prog w base spare held fuel 23 [v]=some x):∃ xs:List GA,jac Any w v xs:=by
 obtain⟨A,n,c,rfl,h1,h2,h3⟩:=j2g Tryz.underlying23 Tryz.underlying132 (by kernel_rfl) (by kernel_rfl) (by decide) h;by_cases h0:0<n
 · obtain ⟨b,off,hA,hb,hrow⟩:=h3 h0
   obtain ⟨xs,hl,hr⟩:=ja7 (fun i (a:GA)=>∃ u,w.cell? ⟨b,off+(i*2+0),none⟩=some (.string a.n)∧w.cell? ⟨b,off+(i*2+1),none⟩=some u∧a.n.size≤maxLen∧jae Any w u a.args) n 0 (fun i hi=>by
    rw[Nat.zero_add];obtain⟨k,cs,hcl,hc,hf⟩:=hrow i hi
    match cs,hcl with
    | [c0,c1],_ =>
      obtain⟨y0,hy0⟩:=hf 0 _ c0 rfl rfl;obtain⟨y1,hy1⟩:=hf 1 _ c1 rfl rfl;obtain⟨s,e1,_,hs⟩:=DataW.trod_string Tryz.underlying9 hy0;obtain⟨ts,ht⟩:=j2s hy1;injection e1 with e1 _
      subst e1;exact⟨⟨s,ts⟩,c1,hc 0 _ rfl,hc 1 _ rfl,hs,ht⟩)
   refine⟨xs,A,c,by rw[hl],by rw[hl];exact h1,h2,fun _=>⟨b,off,hA,hb,trivial,fun i x hx=>?_⟩⟩;obtain⟨u,r0,r1,r2,r3⟩:=hr i x hx;rw[Nat.zero_add] at r0 r1;refine⟨[.string x.n,u],rfl,fun j y hy=>?_,u,rfl,r2,r3⟩
   match j,hy with
   | 0,hy=>simp at hy;subst hy;exact r0
   | 1,hy=>simp at hy;subst hy;exact r1
 obtain rfl:n=0:=by omega
 exact⟨[],jaa.nil_ c h2 A⟩
end
end Go.Proofs.YthdojieomhighaaGreatDoor
namespace Go.Proofs.YthdojieomhighaaGreatDoor
open Go.RowKit
section
variable {α:Type} {k:Kind α} {S S':Nat→Prop} {w w':World} {v:Value} {xs:List α}
theorem jad.nil (c:Nat) (hc:c≤maxLen) (A:Option Addr):jad k S w (.slice A 0 c) ([]:List α):=⟨A,c,rfl,Nat.zero_le _,hc,fun h=>absurd h (by simp)⟩
theorem jad.update {A:Option Addr} {n c:Nat} (h:jad k S w (.slice A n c) xs) {i:Nat} (hi:i<n) :
  ∃ (b off:Nat) (F:Nat→Prop) (x:α) (cs:List Value),A=some ⟨b,off,none⟩∧b<w.heap.size∧S b∧xs[i]? = some x∧(∀ j,j<k.size→w.frozen? ⟨b,off+(i*k.size+j),none⟩=false)∧(∀ m,F m→S m∧m≠b∧m<w.heap.size) ∧
    cs.length=k.size∧(∀ (j:Nat) (u:Value),cs[j]? = some u→w.cell? ⟨b,off+(i*k.size+j),none⟩=some u)∧k.E F w cs x ∧
    ∀ (w':World) (cs':List Value) (y:α),w.heap.size≤w'.heap.size→(∀ m,m≠b→¬ F m→m<w.heap.size→w'.heap[m]? = w.heap[m]?) →
      (∀ o,(o<off+i*k.size∨off+(i+1)*k.size≤o)→w'.cell? ⟨b,o,none⟩=w.cell? ⟨b,o,none⟩)→(∀ o,w'.frozen? ⟨b,o,none⟩=w.frozen? ⟨b,o,none⟩) →
      cs'.length=k.size→(∀ (j:Nat) (u:Value),cs'[j]? = some u→w'.cell? ⟨b,off+(i*k.size+j),none⟩=some u)→k.E F w' cs' y→jad k S w' (.slice A n c) (xs.set i y):=by
 obtain⟨A',c',hv,h1,h2,h3⟩:=h;injection hv with hA hn hc
 subst hA;subst hn;subst hc;obtain⟨b,off,F,ha,hb,hs,hfr,hF,hdis,hcell⟩:=h3 (by omega);obtain⟨cs,hl,hcs,hEx⟩:=hcell i xs[i] (List.getElem?_eq_getElem hi)
 have hrow:∀ i' j,j<k.size→i'<i→off+(i'*k.size+j)<off+i*k.size:=fun i' j hj hlt=>by
  have:(i'+1)*k.size≤i*k.size:=Nat.mul_le_mul_right _ hlt;rw[Nat.add_mul] at this;omega
 have hrow2:∀ i' j,i<i'→off+(i+1)*k.size≤off+(i'*k.size+j):=fun i' j hlt=>by
  have:(i+1)*k.size≤i'*k.size:=Nat.mul_le_mul_right _ hlt;omega
 refine⟨b,off,F i,xs[i],cs,ha,hb,hs,List.getElem?_eq_getElem hi,fun j hj=>hfr _ ?_,fun m hm=>hF i m hm,hl,hcs,hEx,fun w' cs' y hsz hoth hout hfrz hl' hcs' hE'=>?_⟩
 · calc i*k.size+j<i*k.size+k.size:=by omega
     _=(i+1)*k.size:=by rw[Nat.add_mul,Nat.one_mul]
     _≤xs.length*k.size:=Nat.mul_le_mul_right _ hi
 have hlen:(xs.set i y).length=xs.length:=List.length_set;refine⟨A,c,by rw[hlen],by rw[hlen];exact h1,h2,fun _=>⟨b,off,F,ha,Nat.lt_of_lt_of_le hb hsz,hs,fun j hj=>(hfrz _).trans (hfr j (by rw[hlen] at hj;exact hj)),fun i' m hm=>⟨(hF i' m hm).1,(hF i' m hm).2.1,Nat.lt_of_lt_of_le (hF i' m hm).2.2 hsz⟩,hdis,fun i' z hz=>?_⟩⟩;by_cases hii:i'=i
 · subst hii
   rw[List.getElem?_set_self hi] at hz;injection hz with hz
   subst hz;exact⟨cs',hl',hcs',hE'⟩
 rw[List.getElem?_set_ne (Ne.symm hii)] at hz;obtain⟨cs2,hl2,hcs2,hE2⟩:=hcell i' z hz;refine⟨cs2,hl2,fun j u hu=>?_,k.imp hE2 (fun _ h _=>h) (fun m hm hlt=>hoth m (hF i' m hm).2.1 (fun e=>hii (hdis _ _ _ hm e)) hlt) hsz⟩;have hj:j<k.size:=by rw[← hl2];exact (List.getElem?_eq_some_iff.1 hu).1
 rw [hout _ (by
  rcases Nat.lt_or_gt_of_ne hii with hlt|hlt
  · exact .inl (hrow i' j hj hlt)
  exact .inr (hrow2 i' j hlt))]
 exact hcs2 j u hu
end
section
variable {α:Type} {k:Kind α} {S S' T:Nat→Prop} {w w':World} {v:Value} {xs ys:List α} {base:Nat} {e:TypeId}
end
end Go.Proofs.YthdojieomhighaaGreatDoor
namespace Go.Proofs.YthdojieomhighaaGreatDoor
open Go.RowKit
theorem j2e (l m:List UInt8):strOf l++strOf m=strOf (l++m):=by
 apply ByteArray.ext
 show (strOf l++strOf m).data=_;rw[ByteArray.data_append];simp[strOf]
structure LiteB (B:GB):Prop where
 given:B.given.length≤5000∧∀ x∈B.given,wAtom x≤80
 hist:B.hist.length≤100∧∀ c∈B.hist,(c.comes.length≤300∧∀ x∈c.comes,wAtom x≤80)∧(c.goes.length≤300∧∀ x∈c.goes,wAtom x≤80)
 time: -1000000≤B.time∧B.time≤1000000
 rules:B.rules.length≤8∧∀ r∈B.rules,r.body.length≤4∧r.head.args.length≤1000∧∀ p∈r.body,p.atom.args.length≤1000
def agoL (B:GB):Nat→List GA
 | 0=>B.given
 | i+1=>(backL (agoL B i) (B.hist.getD (B.hist.length-1-i) ⟨[],[]⟩)).1
def atL (B:GB) (time:Int):List GA × Bool:=if inB time (B.time-B.hist.length) B.time then (agoL B (B.time-time).toNat,true) else ([],false)
theorem j33 (list:List GA) (c:GC):(backL list c).1.length≤list.length+c.goes.length:=by
 unfold backL;split
 · exact jyg list ⟨c.goes,c.comes⟩
 show list.length≤_;omega
theorem j34 {list:List GA} {c:GC} {x:GA} (h:x∈(backL list c).1):x∈list∨x∈c.goes:=by
 unfold backL at h;split at h
 · exact jyf h
 exact .inl h
theorem j4v {B:GB} (h:LiteB B) (i:Nat):((B.hist.getD i ⟨[],[]⟩).comes.length≤300∧∀ x∈(B.hist.getD i ⟨[],[]⟩).comes,wAtom x≤80)∧((B.hist.getD i ⟨[],[]⟩).goes.length≤300∧∀ x∈(B.hist.getD i ⟨[],[]⟩).goes,wAtom x≤80):=by
 rw[List.getD_eq_getElem?_getD]
 cases hi:B.hist[i]? with
 | none=>simp
 | some c=>exact h.hist.2 c (List.mem_of_getElem? hi)
theorem j3p {B:GB} (h:LiteB B):∀ i,(agoL B i).length≤5000+300*i∧∀ x∈agoL B i,wAtom x≤80
 | 0=>⟨h.given.1,h.given.2⟩
 | i + 1=>by
   obtain⟨h1,h2⟩:=j3p h i;obtain⟨_,h3,h4⟩:=j4v h (B.hist.length-1-i);refine⟨Nat.le_trans (j33 _ _) (by omega),fun x hx=>?_⟩;rcases j34 hx with hx|hx
   · exact h2 x hx
   exact h4 x hx
theorem j4f (B:GB) (time:Int) (v:Value) (w:World) {S:Nat→Prop} (hv:BaseR S w v B) (hB:LiteB B) :
  Calls Tryz.prog 85 #[v,.int .i64 time] w fun e w'=>(∃ v',e=.returned (.tuple #[v',.bool (atL B time).2])∧jac (From w.heap.size) w' v' (atL B time).1)∧Ext w w':=by
 obtain⟨a,b,c,rfl,hr,hg,hh⟩:=hv;obtain⟨A,p,rfl,_,_⟩:=jaa.form hr;obtain⟨D,q,rfl,_,_⟩:=jaa.form hg;obtain⟨H,f,rfl,hf1,hf2⟩:=jaa.form hh;have HL:=zh hB;have hB2:=hB.hist;have hB3:=hB.time;obtain⟨W,hW⟩:=nm (w.alloc (.cells #[.slice A B.rules.length p,.int .i64 B.time,.slice D B.given.length q,.slice H B.hist.length f] 33))
 have HB:=zh (show Blk W w.heap.size 33 #[.slice A B.rules.length p,.int .i64 B.time,.slice D B.given.length q,.slice H B.hist.length f] from by rw[hW];exact Blk.new _ _ _);have HX:=zh (show Ext w W from by rw[hW];exact (Ext.refl _).alloc _);have HG:=zh (hg.ext HX.out);have HHI:=zh (show jan S W (.slice H B.hist.length f) B.hist from ListK.ext (k:=jha) hh HX.out);have HIN:=zh (jt0 time (B.time-(B.hist.length:Int)) B.time W);obtain⟨ib,hib⟩:=nm (inB time (B.time-(B.hist.length:Int)) B.time)
 rw[← hib] at HIN;have HAT:=zh (show atL B time=if ib then (agoL B (B.time-time).toNat,true) else ([],false) from by rw[hib];rfl)
 have HTI:=zh (show ib=true→B.time-(B.hist.length:Int)≤time∧time≤B.time from fun h=>by
  rw[h] at hib;have h2:=hib.symm;unfold inB at h2;simpa using h2)
 have hwt:IntKind.i64.wrap (B.time-(B.hist.length:Int))=B.time-(B.hist.length:Int):=by rw[IntKind.wrap_i64];omega
 have p0:=HB.out.cell 0;have p1:=HB.out.cell 1;have p2:=HB.out.cell 2;have p3:=HB.out.cell 3;have pl:=HB.out.lt;clear hr hg hh hib hB;cases ib
 · go_enter Tryz.func85,Tryz.ntmps85
   go_upto_region 1 with fail
   rw[← hW];clear hW
   go_wp2_with (first
    | (go_at_call 123;refine HIN.out.mono ?_;rintro e w1 ⟨rfl,rfl⟩)
    | fail)
   go_ret2;rw[HAT.out];exact⟨⟨_,rfl,jaa.nil_ 0 (Nat.zero_le _) _⟩,HX.out.alloc _⟩
 obtain⟨ht1,ht2⟩:=HTI.out rfl;obtain⟨N,hN⟩:=nm ((B.time-time).toNat)
 have hNi:B.time-time=(N:Int):=by omega
 have hNl:N≤B.hist.length:=by omega
 have hwn:IntKind.i64.wrap (B.time-time)=(N:Int):=by rw[IntKind.wrap_i64];omega
 rw[← hN] at HAT;have HCP:=zh (jjs _ _ W HG.out (by have:=HL.out.given.1;omega) (fun x hx=>by have:=ji8 x;have:=HL.out.given.2 x hx;omega));clear hN hNi
 go_enter Tryz.func85,Tryz.ntmps85
 go_upto_region 1 with fail
 rw[← hW];clear hW
 go_wp2_with (first
  | (go_at_call 123;refine HIN.out.mono ?_;rintro e w1 ⟨rfl,rfl⟩)
  | (go_at_call 146;refine HCP.out.mono ?_;rintro e w2 ⟨⟨v2,rfl,hv2⟩,hx2⟩
     obtain⟨O2,o2,rfl,_,_⟩:=jaa.form hv2;have HV2:=zh (jac.sub hv2 (jdi HX.out.size));have HX2:=zh hx2;have HB2:=zh (HB.out.ext hx2);have HH2:=zh (show jan S w2 (.slice H B.hist.length f) B.hist from ListK.ext (k:=jha) HHI.out hx2);clear hv2 hx2 p0 p1 p2 p3 pl)
  | fail)
 go_loopw [6,7] (fun o i wr=>∃ k:Nat,k≤N∧i=.int .i64 k∧Hid (jac (From w.heap.size) wr o (agoL B k))∧Ext w2 wr) (fun _ i _=>N-(intOf i).toNat)
 case atStart=>exact⟨0,Nat.zero_le _,rfl,HV2,Ext.refl _⟩
 case round =>
  obtain⟨k,hk,rfl,ho,hx⟩:=hrel;have hk0:(0:Int)≤(k:Int):=by omega
  have hb1:=HB2.out.ext hx;have p0:=hb1.cell 0;have p1:=hb1.cell 1;have p2:=hb1.cell 2;have p3:=hb1.cell 3;have pl:=hb1.lt;clear hb1;by_cases hlt:k<N
  · have hlt':(k:Int)<(N:Int):=by omega
    obtain⟨m,hm⟩:=nm (B.hist.length-1-k)
    have hml:m<B.hist.length:=by omega
    have hm0:(0:Int)≤(m:Int):=by omega
    have hm1:(m:Int)<(B.hist.length:Int):=by omega
    have hw1:IntKind.i64.wrap ((B.hist.length:Int)-1)=(B.hist.length:Int)-1:=by rw[IntKind.wrap_i64];omega
    have hw2:IntKind.i64.wrap ((B.hist.length:Int)-1-(k:Int))=(m:Int):=by rw[IntKind.wrap_i64];omega
    obtain⟨bb,off,g,va,vb,rfl,hbl,hgk,hva,hvb,hc0,hc1⟩:=jan.at_ (show jan S wr (.slice H B.hist.length f) B.hist from ListK.ext (k:=jha) HH2.out hx) hml;obtain⟨X,cx,rfl,_,_⟩:=jaa.form hva;obtain⟨Y,cy,rfl,_,_⟩:=jaa.form hvb
    have HAG:=zh (show agoL B (k+1)=(backL (agoL B k) g).1 from by
     show (backL (agoL B k) (B.hist.getD (B.hist.length-1-k) ⟨[],[]⟩)).1=_;rw[← hm,List.getD_eq_getElem?_getD,hgk];rfl)
    have hgm:=HL.out.hist.2 g (List.mem_of_getElem? hgk);have hal:=j3p HL.out k;have HBA:=zh (jn1 (agoL B k) g _ _ _ wr ho.out hva hvb ⟨by omega,hal.2⟩ ⟨by omega,hgm.2.2⟩);obtain⟨O,co,rfl,_,_⟩:=jaa.form ho.out;clear hgk hva hvb hgm hal hm
    go_wp2_with (first
     | (go_at_call 42;refine HBA.out.mono ?_;rintro e w3 ⟨⟨v3,rfl,hv3⟩,hx3⟩
        have HV3:=zh hv3;have HX3:=zh (hx.trans' hx3);have hwr:=(HX.out.trans' (HX2.out.trans' hx)).size;clear hv3 hx3)
     | fail)
    go_roundw
    case rel=>exact⟨k+1,by omega,by go_num,(by rw[HAG.out];exact zh (jac.sub HV3.out (fun i h=>by rcases h with h|h;exact Nat.le_trans hwr h;exact h))),HX3.out⟩
    case measure=>simp[intOf];omega
  have hlt':¬ (k:Int)<(N:Int):=by omega
  obtain rfl:k=N:=by omega
  go_wp2;go_ret2;rw[HAT.out];exact⟨⟨_,rfl,ho.out⟩,HX.out.trans' (HX2.out.trans' hx)⟩
end Go.Proofs.YthdojieomhighaaGreatDoor
namespace Go.Proofs.YthdojieomhighaaGreatDoor
open Go.RowKit
section
variable {S T:Nat→Prop} {a b c:World}
end
theorem j1r (w:World) (p a:Addr) (u:Value):(w.setCell p u).frozen? a=w.frozen? a:=by
 by_cases h:a.block=p.block
 · unfold World.frozen? World.setCell
   simp only[Array.getElem?_modify];by_cases hb:p.block=a.block
   · simp only [hb,if_true]
     cases w.heap[a.block]? with
     | none=>rfl
     | some o=>cases o<;>(try rfl)<;>(simp only[Option.map_some];split<;>rfl)
   exact absurd h.symm hb
 exact World.frozen?_of_block (Below.heap_setCell w p u a.block h)
def mtext (k:Nat):ByteArray:=strOf (109 :: Lib.decDigits k)
def mTerm (k:Nat):GT:=⟨((k:Int) % 3 == 0),mtext (k+1)⟩
def j1t (k n:Nat):List GT:=(List.range n).map fun i=>mTerm (k+2*i)
theorem j2t (k n:Nat):(j1t k n).length=n:=by simp[j1t]
theorem j35 (k n i:Nat) (h:i<n):(j1t k n)[i]? = some (mTerm (k+2*i)):=by simp[j1t,h]
theorem j3i (k i:Nat):j1t k (i+1)=j1t k i++[mTerm (k+2*i)]:=by simp[j1t,List.range_succ]
theorem j3j {xs:List GT} {k i:Nat} (h:i<xs.length):(j1t k i++xs.drop i).set i (mTerm (k+2*i))=j1t k (i+1)++xs.drop (i+1):=by
 have hl:=j2t k i;rw[List.set_append_right _ _ (by omega),hl,Nat.sub_self,List.drop_eq_getElem_cons h,List.set_cons_zero,j3i,List.append_assoc]
 rfl
def costA (a:GA):Nat:=1+2*a.args.length
def j1n (l:List GA):Nat:=(l.map costA).sum
def mAtom (k:Nat) (a:GA):GA:=⟨mtext k,j1t (k+1) a.args.length⟩
def j1o:Nat→List GA→List GA
 | _,[]=>[]
 | k,a :: l=>mAtom k a :: j1o (k+costA a) l
theorem j1w:∀ (k:Nat) (l:List GA),(j1o k l).length=l.length
 | _,[]=>rfl
 | k,a :: l=>by simp[j1o,j1w (k+costA a) l]
theorem j2h:∀ (k:Nat) (l:List GA) (a:GA),j1o k (l++[a])=j1o k l++[mAtom (k+j1n l) a]
 | k,[],a=>by simp[j1o,j1n]
 | k,b :: l,a=>by
   have ih:=j2h (k+costA b) l a;simp only[List.cons_append,j1o,ih,j1n,List.map_cons,List.sum_cons];rw[Nat.add_assoc]
theorem j3k (l:List GA) (a:GA):j1n (l++[a])=j1n l+costA a:=by simp[j1n]
theorem j3l {xs:List GA} {k i:Nat} {x:GA} (h:xs[i]? = some x):(j1o k (xs.take i)++xs.drop i).set i (mAtom (k+j1n (xs.take i)) x)=j1o k (xs.take (i+1))++xs.drop (i+1):=by
 obtain⟨hi,rfl⟩:=List.getElem?_eq_some_iff.1 h;have hl:(j1o k (xs.take i)).length=i:=by rw[j1w,List.length_take];omega
 rw[List.set_append_right _ _ (by omega),hl,Nat.sub_self,List.drop_eq_getElem_cons hi,List.set_cons_zero,List.take_succ_eq_append_getElem hi,j2h,List.append_assoc]
 rfl
theorem j25:∀ (k:Nat) (l:List GA) (i:Nat) (x:GA),l[i]? = some x→(j1o k l)[i]? = some (mAtom (k+j1n (l.take i)) x)
 | _,[],i,x,h=>by simp at h
 | k,a :: l,0,x,h=>by simp at h;subst h;simp[j1o,j1n]
 | k,a :: l,i+1,x,h=>by
   have ih:=j25 (k+costA a) l i x (by simpa using h);simp only[j1o,List.getElem?_cons_succ,ih,List.take_succ_cons,j1n,List.map_cons,List.sum_cons];rw[Nat.add_assoc]
theorem j2i {xs:List GA} {i:Nat} {x:GA} (h:xs[i]? = some x):j1n (xs.take (i+1))=j1n (xs.take i)+costA x:=by
 obtain⟨hi,rfl⟩:=List.getElem?_eq_some_iff.1 h;rw[List.take_succ_eq_append_getElem hi,j3k]
theorem j13 (xs:List GA) (i:Nat):j1n (xs.take i)≤j1n xs:=by
 have h:j1n xs=j1n (xs.take i)+j1n (xs.drop i):=by
  unfold j1n;rw[← List.sum_append,← List.map_append,List.take_append_drop]
 omega
theorem ja8.upd {S:Nat→Prop} {w:World} {A:Option Addr} {n c:Nat} {xs:List GT} (h:ja8 S w (.slice A n c) xs) {i:Nat} (hi:i<n) :
  ∃ (b off:Nat) (x:GT),A=some ⟨b,off,none⟩∧b<w.heap.size∧S b∧xs[i]? = some x ∧
    w.frozen? ⟨b,off+i*2,none⟩=false∧w.frozen? ⟨b,off+i*2+1,none⟩=false∧w.cell? ⟨b,off+i*2,none⟩=some (.bool x.v)∧w.cell? ⟨b,off+i*2+1,none⟩=some (.string x.n) ∧
    ∀ (w1:World) (y:GT),Ext (w.setCell ⟨b,off+i*2,none⟩ (.bool y.v)) w1→y.n.size≤maxLen→ja8 S (w1.setCell ⟨b,off+i*2+1,none⟩ (.string y.n)) (.slice A n c) (xs.set i y):=by
 obtain⟨b,off,F,x,cs,rfl,hb,hs,hx,hfr,hF,hl,hcs,hE,hup⟩:=jad.update h hi;obtain⟨rfl,hxs⟩:=hE;have c0:=hcs 0 _ rfl;have c1:=hcs 1 _ rfl;have f0:=hfr 0 (by decide);have f1:=hfr 1 (by decide);refine⟨b,off,x,rfl,hb,hs,hx,f0,f1,c0,c1,fun w1 y he hy=>?_⟩;have hsz:=he.size;have hb1:b<w1.heap.size:=by simp[World.setCell] at hsz;omega
 have d1:w1.cell? ⟨b,off+i*2+1,none⟩=some (.string x.n):=by
  have h1:=he.cells.1 b (off+i*2+1) (by simp[World.setCell];exact hb);rw[h1,World.cell?_setCell_other _ _ _ _ (by simp)];exact c1
 have d0:w1.cell? ⟨b,off+i*2,none⟩=some (.bool y.v):=by
  have h1:=he.cells.1 b (off+i*2) (by simp[World.setCell];exact hb);rw[h1];exact World.cell?_setCell_same _ _ _ c0
 refine hup _ [.bool y.v,.string y.n] y (by simp[World.setCell] at hsz ⊢;omega) (fun m hm _ hlt=>?_) (fun o ho=>?_) (fun o=>?_) rfl (fun j u hu=>?_) ⟨rfl,hy⟩
 · rw[Below.heap_setCell _ _ _ _ hm,he.block m (by simp[World.setCell];exact hlt),Below.heap_setCell _ _ _ _ hm]
 · have e1:o≠off+i*2:=by
     rcases ho with ho|ho
     · have:o<off+i*2:=ho
       omega
     have:off+(i+1)*2≤o:=ho;omega
   have e2:o≠off+i*2+1:=by
    rcases ho with ho|ho
    · have:o<off+i*2:=ho
      omega
    have:off+(i+1)*2≤o:=ho;omega
   rw[World.cell?_setCell_other _ _ _ _ (fun e=>e2 (congrArg Addr.off e).symm),he.cells.1 b o (by simp[World.setCell];exact hb),World.cell?_setCell_other _ _ _ _ (fun e=>e1 (congrArg Addr.off e).symm)]
 · rw[j1r,he.cells.2 b o (by simp[World.setCell];exact hb),j1r]
 match j,hu with
 | 0,hu =>
   simp at hu;subst hu;show (w1.setCell _ _).cell? ⟨b,off+(i*2+0),none⟩=_;rw[Nat.add_zero,World.cell?_setCell_other _ _ _ _ (by simp)];exact d0
 | 1,hu =>
   simp at hu;subst hu;exact World.cell?_setCell_same _ _ _ d1
theorem jba.upd {S:Nat→Prop} {w:World} {A:Option Addr} {n c:Nat} {xs:List GA} (h:jba S w (.slice A n c) xs) {i:Nat} (hi:i<n) :
  ∃ (b off:Nat) (F:Nat→Prop) (x:GA) (u:Value),A=some ⟨b,off,none⟩∧b<w.heap.size∧S b∧xs[i]? = some x∧(∀ m,F m→S m∧m≠b∧m<w.heap.size) ∧
    w.frozen? ⟨b,off+i*2,none⟩=false∧w.cell? ⟨b,off+i*2,none⟩=some (.string x.n)∧w.cell? ⟨b,off+i*2+1,none⟩=some u∧ja8 F w u x.args ∧
    ∀ (w1 w2:World) (y:GA),Ext w w1→jab F (w1.setCell ⟨b,off+i*2,none⟩ (.string y.n)) w2→y.n.size≤maxLen→ja8 F w2 u y.args→jba S w2 (.slice A n c) (xs.set i y):=by
 obtain⟨b,off,F,x,cs,rfl,hb,hs,hx,hfr,hF,hl,hcs,hE,hup⟩:=jad.update h hi;obtain⟨u,rfl,hxs,ht⟩:=hE;have c0:=hcs 0 _ rfl;have c1:=hcs 1 _ rfl;have f0:=hfr 0 (by decide);refine⟨b,off,F,x,u,rfl,hb,hs,hx,hF,f0,c0,c1,ht,fun w1 w2 y he hin hy ht2=>?_⟩;have hsz:=he.size;have hsz2:=hin.size;have hnF:¬ F b:=fun h=>(hF b h).2.1 rfl
 have hb1:b<w1.heap.size:=by omega
 have e0:w1.cell? ⟨b,off+i*2,none⟩=some (.string x.n):=(he.cells.1 b _ hb).trans c0;have hblk:w2.heap[b]? = (w1.setCell ⟨b,off+i*2,none⟩ (.string y.n)).heap[b]? :=hin.block b (by simp[World.setCell];exact hb1) hnF;have hcell:∀ o,w2.cell? ⟨b,o,none⟩=(w1.setCell ⟨b,off+i*2,none⟩ (.string y.n)).cell? ⟨b,o,none⟩:=fun o=>World.cell?_of_block hblk
 have hfroz:∀ o,w2.frozen? ⟨b,o,none⟩=(w1.setCell ⟨b,off+i*2,none⟩ (.string y.n)).frozen? ⟨b,o,none⟩:=fun o=>World.frozen?_of_block hblk
 refine hup _ [.string y.n,u] y (by simp[World.setCell] at hsz2;omega) (fun m hm hn hlt=>?_) (fun o ho=>?_) (fun o=>?_) rfl (fun j v hv=>?_) ⟨u,rfl,hy,ht2⟩
 · rw[hin.block m (by simp[World.setCell];omega) hn,Below.heap_setCell _ _ _ _ hm,he.block m hlt]
 · have e1:o≠off+i*2:=by
     rcases ho with ho|ho
     · have:o<off+i*2:=ho
       omega
     have:off+(i+1)*2≤o:=ho;omega
   rw[hcell,World.cell?_setCell_other _ _ _ _ (fun e=>e1 (congrArg Addr.off e).symm),he.cells.1 b o hb]
 · rw[hfroz,j1r,he.cells.2 b o hb]
 match j,hv with
 | 0,hv =>
   simp at hv;subst hv;show w2.cell? ⟨b,off+(i*2+0),none⟩=_;rw[Nat.add_zero,hcell];exact World.cell?_setCell_same _ _ _ e0
 | 1,hv =>
   simp at hv;subst hv;show w2.cell? ⟨b,off+(i*2+1),none⟩=_;rw[hcell,World.cell?_setCell_other _ _ _ _ (by simp),he.cells.1 b _ hb];exact c1
end Go.Proofs.YthdojieomhighaaGreatDoor
namespace Go.Proofs.YthdojieomhighaaGreatDoor
open Go.RowKit
theorem j2n {P:Program} (w:World) (dT sT ty elem:TypeId) (k g n c:Nat) (a:Addr) (sCap:Nat) (cur:Array Value) (t:TypeId) (cs:List Value)
  (hu:P.underlying dT=some (.slice elem)) (hs:(P.info? elem).map (·.size)=some k)
  (hg:w.heap[g]? = some (.cells cur t (0,0))) (hn:cs.length=n*k)
  (hsrc:∀ j v,cs[j]? = some v→w.cell? (a.add j)=some v) (hfit:cur.size=cs.length) (h1:∀ v∈cs,v.oneCell'=true) :
  (Builtin.copy_ #[dT,sT] ty #[.slice (some ⟨g,0,none⟩) n c,.slice (some a) n sCap]).run P w=.ok (goInt n) (w.setRow g cs.toArray):=by
 have hl:=run_loadCells_list (P:=P) w a cs hsrc;have hst:=run_storeCells_at P g 0 t cs 0 cur w hg (by omega) h1;have hd:cur.toList.drop (0+0+cs.length)=[]:=List.drop_eq_nil_of_le (by simp[hfit]);rw[hd] at hst;simp only[Nat.add_zero,List.take_zero,List.nil_append,List.append_nil] at hst
 cases hq:P.info? elem with
 | none=>simp[hq] at hs
 | some i =>
   have hi:i.size=k:=by simpa [hq] using hs
   simp[Builtin.copy_,run_underlying hu,Builtin.lenOf,Builtin.firstCells,sizeOf,typeInfo,hq,hi,← hn,hl,hst]
def j1v (xs:List GT):List Value:=xs.flatMap fun t=>[.bool t.v,.string t.n]
theorem j19 (xs:List GT):(j1v xs).length=xs.length*2:=by
 unfold j1v
 induction xs with
 | nil=>rfl
 | cons x xs ih=>rw[List.flatMap_cons,List.length_append,ih];simp;omega
theorem j2j:∀ (xs:List GT) (i:Nat) (x:GT),xs[i]? = some x→(j1v xs)[i*2]? = some (.bool x.v)∧(j1v xs)[i*2+1]? = some (.string x.n)
 | [],_,_,h=>by simp at h
 | y :: ys,0,x,h=>by simp at h;subst h;simp[j1v]
 | y :: ys,i+1,x,h=>by
   have ih:=j2j ys i x (by simpa using h);have e:j1v (y :: ys)=.bool y.v :: .string y.n :: j1v ys:=by simp[j1v]
   rw[e,show (i+1)*2=(i*2+1)+1 from by omega];simpa using ih
theorem j3t {xs:List GT}:∀ v∈j1v xs,v.oneCell'=true:=by
 intro v hv;unfold j1v at hv;rw[List.mem_flatMap] at hv;obtain⟨x,_,hx⟩:=hv;simp at hx;rcases hx with rfl|rfl<;>rfl
theorem j3u {S:Nat→Prop} {w:World} {b off n c:Nat} {xs:List GT} (h:jae S w (.slice (some ⟨b,off,none⟩) n c) xs) (j:Nat) (v:Value) (hj:(j1v xs)[j]? = some v):w.cell? ((⟨b,off,none⟩:Addr).add j)=some v:=by
 have hn:n=xs.length:=by obtain⟨_,_,hv,_⟩:=h;injection hv
 have hlt:j<xs.length*2:=by rw[← j19];exact (List.getElem?_eq_some_iff.1 hj).1
 obtain⟨b',off',x,hA,_,hx,_,c0,c1⟩:=jae.at_ h (k:=j / 2) (by omega);injection hA with hA
 injection hA with hb ho
 subst hb;subst ho;have h2:=j2j _ _ _ hx;rw[jog];rcases Nat.mod_two_eq_zero_or_one j with hm|hm
 · have e:j / 2*2=j:=by omega
   rw[e] at h2 c0;rw[h2.1] at hj;injection hj with hj;subst hj
   exact c0
 have e:j / 2*2+1=j:=by omega
 rw[Nat.add_assoc,e] at c1;rw[e] at h2;rw[h2.2] at hj;injection hj with hj;subst hj
 exact c1
theorem j2x {S:Nat→Prop} {w0 w:World} {v:Value} {xs:List GT} (h:jae S w0 v xs):jfy 2 TermE w (j1v xs).toArray xs xs.length:=by
 intro i x hi hx;obtain⟨A,c,rfl,_⟩:=jaa.form h;obtain⟨b,off,y,_,_,hy,hs,_⟩:=jae.at_ h hi;rw[hx] at hy;injection hy with hy;subst hy
 have h2:=j2j _ _ _ hx;refine⟨[.bool x.v,.string x.n],rfl,fun j u hu=>?_,rfl,hs⟩
 match j,hu with
 | 0,hu=>simp at hu;subst hu;simpa using h2.1
 | 1,hu=>simp at hu;subst hu;simpa using h2.2
theorem j36:(Tryz.prog.info? 60).map (·.size)=some 2:=by kernel_rfl
theorem j26 (a:GA) (v:Value) (w:World) {S:Nat→Prop} (hv:jae S w v a.args) (hn:a.args.length≤1048576) :
  Calls Tryz.prog 120 #[.agg #[.string a.n,v]] w fun e w'=>(∃ u,e=.returned (.agg #[.string a.n,u])∧ja8 (From w.heap.size) w' u a.args)∧Ext w w':=by
 obtain⟨A,c,rfl,hc1,hc2⟩:=jaa.form hv;obtain⟨i0,hi0,hz0,hz1,hz2⟩:=info_parts jgb;obtain⟨cs0,hcs0,hmk⟩:=made 41 60 i0 _ Tryz.underlying41 hi0 hz0 a.args.length (by rw[hz2];omega) (by omega);rw[hz1] at hcs0;have HC:=zh hcs0;have HV:=zh (hv.ext (((Ext.refl w).alloc (.cells #[.string a.n,.slice A a.args.length c] 43)).alloc (.cells #[.string ⟨#[]⟩,.slice none 0 0] 43)));have HB:=zh (Blk.new w 43 #[.string a.n,.slice A a.args.length c]);have HB2:=zh (Blk.new (w.alloc (.cells #[.string a.n,.slice A a.args.length c] 43)) 43 #[.string ⟨#[]⟩,.slice none 0 0]);simp only[World.size_alloc] at HB2;by_cases h0:a.args.length=0
 · have hnil:a.args=[]:=List.eq_nil_of_length_eq_zero h0
   clear hcs0 hi0 hz0 hz1 hz2 hv hmk;rw[h0] at HB HV HB2;rw[h0] at hc1;rw[h0]
   go_enter Tryz.func120,Tryz.ntmps120;go_wp2;refine bodyPost_ret (v:=.agg #[.string a.n,.slice none 0 0]) (by simp[results,Tryz.results120,go_sem]) rfl ⟨⟨_,rfl,?_⟩,?_⟩
   · rw[hnil];exact jad.nil 0 (Nat.zero_le _) none
   exact ((Ext.refl _).alloc _).alloc _
 obtain⟨b,off,x0,rfl,_⟩:=jae.at_ hv (k:=0) (by omega);have hpos:0<a.args.length:=by omega
 clear hcs0 hi0 hz0 hz1 hz2 hv
 obtain ⟨w1,hrun,hb1,hx1⟩:∃ w1,(Builtin.copy_ #[41,41] 3 #[.slice (some ⟨w.heap.size+1+1,0,none⟩) a.args.length a.args.length,.slice (some ⟨b,off,none⟩) a.args.length c]).run Tryz.prog
   (((w.alloc (.cells #[.string a.n,.slice (some ⟨b,off,none⟩) a.args.length c] 43)).alloc (.cells #[.string ⟨#[]⟩,.slice none 0 0] 43)).alloc (.cells cs0 60))=.ok (.int .i64 a.args.length) w1 ∧
   Blk w1 (w.heap.size+1+1) 60 (j1v a.args).toArray∧Below (w.heap.size+1+1) (((w.alloc (.cells #[.string a.n,.slice (some ⟨b,off,none⟩) a.args.length c] 43)).alloc (.cells #[.string ⟨#[]⟩,.slice none 0 0] 43)).alloc (.cells cs0 60)) w1 :=
  ⟨_,j2n _ 41 41 3 60 2 (w.heap.size+1+1) a.args.length a.args.length ⟨b,off,none⟩ c cs0 60 (j1v a.args) Tryz.underlying41 j36 (Blk.at_new (by simp)) (j19 _) (j3u (HV.out.ext ((Ext.refl _).alloc _))) (by rw[HC.out,j19]) j3t,
   setRow_heap _ _ _ _ _ _ (Blk.at_new (by simp)),below_setRow (Below.refl _ _) (Nat.le_refl _) _⟩
 have hB1:=((HB.out.alloc _).alloc _).below hx1 (by omega);have hB2:=(HB2.out.alloc _).below hx1 (by omega);have q0:=hB1.cell 0;have q1:=hB1.cell 1;have p0:=hB2.cell 0;have p1:=hB2.cell 1;have f0:=hB2.frozen 0;have f1:=hB2.frozen 1;have hl2:=hb1.lt;have HX1:=zh hx1;have HB1:=zh hb1;clear hB1 hB2 hx1 hb1
 go_enter Tryz.func120,Tryz.ntmps120;go_wp2;refine bodyPost_ret (v:=.agg #[.string a.n,.slice (some ⟨w.heap.size+1+1,0,none⟩) a.args.length a.args.length]) (by simp[results,Tryz.results120,go_sem,p0,p1]) rfl ⟨⟨_,rfl,?_⟩,?_⟩
 · have h1:=jfy.terms (S:=From (w.heap.size+1+1)) (j2x (w:=w1) HV.out) HB1.out rfl (Nat.le_refl _) (maxOf (by omega)) (Nat.le_refl _)
   refine ja8.imp h1 ?_ ?_ ?_
   · exact fun b hb _=>jdi (by omega) b hb
   · exact ((Agree.refl _ _).set (by go_size) _).set (by go_size) _
   go_size
 exact Ext.setNew (a:=w) (Ext.setNew ((((Ext.refl w).alloc _).alloc _).alloc _ |>.trans (HX1.out.mono (by omega))) (by simp) _) (by simp) _
section
open Go.RowKit
end
end Go.Proofs.YthdojieomhighaaGreatDoor
namespace Go.Proofs.YthdojieomhighaaGreatDoor
open Go.RowKit
def mid (a:GA):Prop:=a.n.size≤9∧a.args.length≤6∧∀ t∈a.args,t.n.size≤9
theorem j3m {w:World} {g:Nat} {t:TypeId} (c:Nat) (hc:c<256) (hb:Blk w g t #[.int .u8 (c:Int)]) :
  (convert 37 9 (.slice (some ⟨g,0,none⟩) 1 1)).run Tryz.prog w=.ok (.string ⟨#[UInt8.ofNat c]⟩) w:=by
 have h:=run_convert_bytes_back (P:=Tryz.prog) w 37 9 5 ⟨g,0,none⟩ 1 [UInt8.ofNat c] Tryz.underlying37 Tryz.underlying5 Tryz.underlying9 (fun j hj=>by
  simp at hj;subst hj;have hadd:(⟨g,0,none⟩:Addr).add 0=⟨g,0,none⟩:=by simp[Addr.add]
  rw[hadd,hb.cell];simp;omega)
 exact h
theorem j37 (z:Nat) (h:z≤1000000000):(Lib.decDigits z).length≤10:=by
 rw[Lib.decDigits_length]
 have key:∀ k u,u<10 ^ k→1≤k→Lib.nDigits u≤k:=by
  intro k
  induction k with
  | zero=>intro u _ h;omega
  | succ k ih =>
    intro u hu _;by_cases h1:u<10
    · rw[Lib.nDigits_small h1];omega
    rw[Lib.nDigits_big h1];have:u / 10<10 ^ k:=by rw[Nat.pow_succ] at hu;omega
    have hk:1≤k:=by
     rcases Nat.eq_zero_or_pos k with h2|h2
     · subst h2;simp at hu;omega
     exact h2
    have:=ih (u / 10) this hk;omega
 exact key 10 z (by omega) (by omega)
theorem j4w {z:Int} (h0:0≤z) (h:z<256):IntKind.u8.wrap z=z:=by
 unfold IntKind.wrap;simp[IntKind.bits,IntKind.signed];omega
def decOf (n:Nat):List UInt8:=if n=0 then [] else Lib.decDigits n
theorem j38 {n:Nat} (h:0<n):decOf n=decOf (n / 10)++[UInt8.ofNat (48+n % 10)]:=by
 unfold decOf;rw[if_neg (by omega)];by_cases h1:n<10
 · rw[if_pos (by omega),Lib.decDigits_one h1,Nat.mod_eq_of_lt h1];rfl
 rw[if_neg (by omega),Lib.decDigits,dif_neg h1]
theorem j1s (k:Nat) (w:World) (h1:1≤k) (h2:k≤1000000000) :
  Calls Tryz.prog 93 #[.int .i64 k] w fun e w'=>e=.returned (.string (mtext k))∧Ext w w':=by
 have g0:decide ((k:Int)≤0)=false:=decide_eq_false (by omega)
 go_enter Tryz.func93,Tryz.ntmps93;go_wp2;go_loopw [0,3] (fun i s wr=>∃ (n:Nat) (l:List UInt8),i=.int .i64 n∧s=.string (strOf l)∧n≤k∧Hid (decOf n++l=Lib.decDigits k)∧Ext w wr) (fun i _ _=>(intOf i).toNat)
 case atStart=>exact⟨k,[],rfl,rfl,Nat.le_refl _,by show _=_;unfold decOf;rw[if_neg (by omega),List.append_nil],Ext.refl _⟩
 case round =>
  obtain⟨n,l,rfl,rfl,hn,hp,hx⟩:=hrel
  have hl:l.length≤10:=by
   have:=congrArg List.length hp.out;rw[List.length_append] at this;have:=j37 k h2;omega
  have hls:(strOf l).size≤10:=by rw[jdq];exact hl
  by_cases h0:0<n
  · have hb:=j3m (w:=wr.alloc (.cells #[.int .u8 ((48+n % 10:Nat):Int)] 5)) (48+n % 10) (by omega) (Blk.new _ _ _)
    rw[show ((48+n % 10:Nat):Int)=48+(n:Int) % 10 from by omega] at hb;obtain⟨c,hc⟩:∃ c:ByteArray,c=⟨#[UInt8.ofNat (48+n % 10)]⟩:=⟨_,rfl⟩
    have hcs:c.size≤10:=by rw[hc];simp[ByteArray.size]
    have HC:=zh (show c++strOf l=strOf (UInt8.ofNat (48+n % 10) :: l) from by rw[hc,show (⟨#[UInt8.ofNat (48+n % 10)]⟩:ByteArray)=strOf [UInt8.ofNat (48+n % 10)] from rfl,j2e];rfl);have HP:=zh (show decOf (n / 10)++(UInt8.ofNat (48+n % 10) :: l)=Lib.decDigits k from by rw[← hp.out,j38 h0,List.append_assoc];rfl);rw[← hc] at hb;have hm0:0≤(n:Int) % 10:=by omega
    have hm1:(n:Int) % 10<10:=by omega
    have hw:IntKind.u8.wrap (48+(n:Int) % 10)=48+(n:Int) % 10:=j4w (by omega) (by omega);clear hc hp hl;go_wp2;go_roundw
    case rel=>exact⟨n / 10,_,by simp,by rw[HC.out],by omega,HP,hx.alloc _⟩
    case measure=>simp[intOf];omega
  have HF:=zh (show strOf (109 :: l)=mtext k from by
    have:=hp.out;rw[show n=0 from by omega] at this;unfold mtext;rw[← this];rfl)
  clear hp;go_wp2;go_ret;refine⟨?_,hx⟩;refine Eq.trans ?_ (jsb (a:=⟨#[109]⟩++strOf l) ?_)
  · rfl
  rw[← HF.out,show (⟨#[109]⟩:ByteArray)=strOf [109] from rfl,j2e];rfl
theorem j14 (k:Nat) (h:k≤1000000000):(mtext k).size≤maxLen:=by
 unfold mtext;rw[jdq];have:=j37 k h;exact maxOf (by simp;omega)
theorem j1x (v:Value) (xs:List GT) (k:Nat) (w:World) {S:Nat→Prop} (hv:ja8 S w v xs) (h1:1≤k) (h2:k+2*xs.length≤100000000) :
  Calls Tryz.prog 94 #[v,.int .i64 k] w fun e w'=>(∃ q:Nat,q=k+2*xs.length∧e=.returned (.int .i64 q))∧ja8 S w' v (j1t k xs.length)∧jab S w w':=by
 obtain⟨A,c,rfl,hc1,hc2⟩:=jad.form hv;have HV:=zh hv;clear hv
 go_enter Tryz.func94,Tryz.ntmps94;go_wp2;go_loopw [1,5] (fun kk i wr=>∃ (j q:Nat),j≤xs.length∧i=.int .i64 j∧kk=.int .i64 q∧q≤100000000∧1≤q∧Hid (q=k+2*j)∧Hid (ja8 S wr (.slice A xs.length c) (j1t k j++xs.drop j))∧Hid (jab S w wr)) (fun _ i _=>xs.length-(intOf i).toNat)
 case atStart=>exact⟨0,k,Nat.zero_le _,rfl,rfl,by omega,h1,by show _=_;omega,HV,jab.refl _ _⟩
 case round =>
  obtain⟨j,q,hj,rfl,rfl,hq1,hq2,hq,ht,hin⟩:=hrel;by_cases hlt:j<xs.length
  · obtain ⟨b,off,x,rfl,hb,hs,hx,f0,f1,c0,c1,hup⟩:=ja8.upd ht.out (i:=j) hlt
    have HU:=zh hup;have HS:=zh hs;have hq3:q+2≤100000000:=by have:=hq.out;omega
    have HN:=zh (j3j (k:=k) hlt);have HM:=zh (fun (W:World)=>j1s (q+1) W (by omega) (by omega));clear hup hs hx;go_wp2_with (go_at_call 93;refine (HM.out _).mono ?_;rintro e w1 ⟨rfl,hx1⟩;have hz1:=hx1.size;have d1:=(hx1.cells.1 b (off+j*2+1) (by go_size)).trans ((World.cell?_setCell_other _ _ _ _ (by simp)).trans c1);have e1:=(hx1.cells.2 b (off+j*2+1) (by go_size)).trans ((j1r _ _ _ _).trans f1);have HX1:=zh hx1;clear hx1)
    go_roundw
    case rel =>
     have hT:=HU.out w1 (mTerm (k+2*j)) (by rw[← hq.out];exact HX1.out) (j14 _ (by have:=hq.out;omega));rw[HN.out,← hq.out] at hT;refine⟨j+1,q+1+1,by omega,by go_num,by go_num,by omega,by omega,by have:=hq.out;show _=_;omega,hT,?_⟩;exact (hin.out.trans' ((jab.set _ _ _ HS.out).trans' (jab.of_ext HX1.out))).trans' (jab.set _ _ _ HS.out)
    case measure=>simp[intOf];omega
  have hjj:j=xs.length:=by omega
  have HF:=zh (show j1t k j++xs.drop j=j1t k xs.length from by rw[hjj,List.drop_length,List.append_nil]);have HQ:=zh (show q=k+2*xs.length from by rw[hq.out,hjj]);clear hjj;go_wp2;go_ret;exact⟨⟨q,HQ.out,rfl⟩,by rw[← HF.out];exact ht.out,hin.out⟩
theorem j1u (v:Value) (xs:List GA) (k:Nat) (w:World) {S:Nat→Prop} (hv:jba S w v xs) (h1:1≤k) (h2:k+j1n xs≤100000000) :
  Calls Tryz.prog 35 #[v,.int .i64 k] w fun e w'=>(∃ q:Nat,q=k+j1n xs∧e=.returned (.int .i64 q))∧jba S w' v (j1o k xs)∧jab S w w':=by
 obtain⟨A,c,rfl,hc1,hc2⟩:=jad.form hv;have HV:=zh hv;clear hv
 go_enter Tryz.func35,Tryz.ntmps35;go_wp2;go_loopw [1,5] (fun kk i wr=>∃ (j q:Nat),j≤xs.length∧i=.int .i64 j∧kk=.int .i64 q∧q≤100000000∧1≤q∧Hid (q=k+j1n (xs.take j))∧Hid (jba S wr (.slice A xs.length c) (j1o k (xs.take j)++xs.drop j))∧Hid (jab S w wr)) (fun _ i _=>xs.length-(intOf i).toNat)
 case atStart=>exact⟨0,k,Nat.zero_le _,rfl,rfl,by omega,h1,by show _=_;simp[j1n],HV,jab.refl _ _⟩
 case round =>
  obtain⟨j,q,hj,rfl,rfl,hq1,hq2,hq,ht,hin⟩:=hrel;by_cases hlt:j<xs.length
  · obtain ⟨b,off,F,x,u,rfl,hb,hs,hx,hF,f0,c0,c1,htm,hup⟩:=jba.upd ht.out (i:=j) hlt
    have hxj:xs[j]? = some x:=by
     rw[List.getElem?_append_right (by rw[j1w,List.length_take];omega),j1w,List.length_take,Nat.min_eq_left hj,Nat.sub_self,List.getElem?_drop,Nat.add_zero] at hx;exact hx
    obtain⟨B,d,rfl,hd1,hd2⟩:=jad.form htm;have HU:=zh hup;have HS:=zh hs;have HF:=zh hF;have HT:=zh htm;have HK:=zh (j2i hxj)
    have hq3:q+1+2*x.args.length≤100000000:=by
     have h3:=hq.out;have h4:=HK.out;have h5:=j13 xs (j+1);unfold costA at h4;omega
    have HN:=zh (j3l (k:=k) hxj);have HM:=zh (fun (W:World)=>j1s q W hq2 (by omega));clear hup hs hx hF htm hxj
    go_wp2_with (first
     | (go_at_call 93;refine (HM.out _).mono ?_;rintro e w1 ⟨rfl,hx1⟩;have hz1:=hx1.size;have d0:=(hx1.cells.1 b (off+j*2) hb).trans c0;have d1:=(hx1.cells.1 b (off+j*2+1) hb).trans c1;have e0:=(hx1.cells.2 b (off+j*2) hb).trans f0;have HX1:=zh hx1;clear hx1)
     | (go_at_call 94;refine (j1x (S:=F) _ x.args (q+1) _ (jad.imp (HT.out.imp (fun _ h _=>h) (.of_ext HX1.out) HX1.out.size) (fun _ h _=>h) ((Agree.refl _ _).setCell (fun hb=>(HF.out b hb).2.1 rfl) _) (by go_size)) (by omega) (by omega)).mono ?_;rintro e w2 ⟨⟨q2,hq2',rfl⟩,ht2,hin2⟩;have HQ2:=zh hq2';have HT2:=zh ht2;have HI2:=zh hin2;have hq4:q2≤100000000:=(by omega);have hq5:1≤q2:=(by omega);clear hq2' ht2 hin2))
    go_roundw
    case rel =>
     have hT:=HU.out w1 w2 (mAtom q x) HX1.out HI2.out (j14 _ (by omega)) HT2.out;rw[hq.out,HN.out] at hT;refine⟨j+1,q2,by omega,by go_num,rfl,hq4,hq5,by have h3:=HQ2.out;have h4:=HK.out;have h5:=hq.out;unfold costA at h4;show _=_;omega,hT,?_⟩;exact (hin.out.trans' (jab.of_ext HX1.out)).trans' ((jab.set _ _ _ HS.out).trans' (HI2.out.sub (fun i hi _=>(HF.out i hi).1)))
    case measure=>simp[intOf];omega
  have hjj:j=xs.length:=by omega
  have HF:=zh (show j1o k (xs.take j)++xs.drop j=j1o k xs from by rw[hjj,List.drop_length,List.append_nil,List.take_length]);have HQ:=zh (show q=k+j1n xs from by rw[hq.out,hjj,List.take_length]);clear hjj;go_wp2;go_ret;exact⟨⟨q,HQ.out,rfl⟩,by rw[← HF.out];exact ht.out,hin.out⟩
/-! ### held -/
theorem j2y (v:Value) (n k:Nat) (w:World) {S:Nat→Prop} (hv:jae S w v (j1t k n)) (h1:1≤k) (h2:k+2*n≤100000000) :
  Calls Tryz.prog 95 #[v,.int .i64 k] w fun e w'=>(∃ q:Nat,q=k+2*n∧e=.returned (.int .i64 q))∧Ext w w':=by
 obtain⟨A,c,rfl,hc1,hc2⟩:=jaa.form hv;rw[j2t] at hc1 hv ⊢;have HV:=zh hv;clear hv
 go_enter Tryz.func95,Tryz.ntmps95;go_wp2;go_loopw [1,5] (fun kk i wr=>∃ (j q:Nat),j≤n∧i=.int .i64 j∧kk=.int .i64 q∧q≤100000000∧1≤q∧Hid (q=k+2*j)∧Ext w wr) (fun _ i _=>n-(intOf i).toNat)
 case atStart=>exact⟨0,k,Nat.zero_le _,rfl,rfl,by omega,h1,by show _=_;omega,Ext.refl _⟩
 case round =>
  obtain⟨j,q,hj,rfl,rfl,hq1,hq2,hq,hx⟩:=hrel;have hk0:(0:Int)≤(j:Int):=by omega
  by_cases hlt:j<n
  · obtain ⟨b,off,x,rfl,hb,hxj,hxs,c0,c1⟩:=jae.at_ (HV.out.ext hx) hlt
    rw[j35 _ _ _ hlt] at hxj;injection hxj with hxj
    rw[← hxj,← hq.out] at c0 c1;have hk1:(j:Int)<(n:Int):=by omega
    have hq3:q+2≤100000000:=by have:=hq.out;omega
    have hc0:wr.cell? ⟨b,off+j*2,none⟩=some (.bool ((q:Int) % 3 == 0)):=c0;obtain⟨bb,hbb⟩:∃ bb:Bool,bb=((q:Int) % 3 == 0):=⟨_,rfl⟩
    have hc1':wr.cell? ⟨b,off+j*2+1,none⟩=some (.string (mtext (q+1))):=c1;obtain⟨s,hs⟩:=nm (mtext (q+1))
    rw[← hs] at hc1';have HM:=zh (fun (W:World) (_:Ext wr W)=>show Calls Tryz.prog 93 #[.int .i64 ((q:Int)+1)] W fun e w'=>e=.returned (.string s)∧Ext W w' from hs▸j1s (q+1) W (by omega) (by omega));clear c0 c1 hxj hxs hs hbb;go_wp2_with (fail)
    refine jar (by kernel_rfl) (by kernel_rfl) ?_;repeat (go_big_quiet_step ((go_at_call 93;exact jbg (HM.out _ (Later.ext _)))))
    refine wpQuiet_nil ?_;rintro w3 ⟨⟨_,hx3⟩,rfl⟩;go_wp2;go_roundw
    case rel=>exact⟨j+1,q+1+1,by omega,by go_num,by go_num,by omega,by omega,by have:=hq.out;show _=_;omega,hx.trans' hx3⟩
    case measure=>simp[intOf];omega
  have HQ:=zh (show q=k+2*n from by rw[hq.out,show j=n from by omega]);go_wp2;go_ret;exact⟨⟨q,HQ.out,rfl⟩,hx⟩
theorem j2z (v:Value) (xs:List GA) (k:Nat) (w:World) {S:Nat→Prop} (hv:jac S w v (j1o k xs)) (h1:1≤k) (h2:k+j1n xs≤100000000) :
  Calls Tryz.prog 36 #[v,.int .i64 k] w fun e w'=>(∃ q:Nat,q=k+j1n xs∧e=.returned (.int .i64 q))∧Ext w w':=by
 obtain⟨A,c,rfl,hc1,hc2⟩:=jaa.form hv;rw[j1w] at hc1 hv ⊢;have HV:=zh hv;clear hv
 go_enter Tryz.func36,Tryz.ntmps36;go_wp2;go_loopw [1,5] (fun kk i wr=>∃ (j q:Nat),j≤xs.length∧i=.int .i64 j∧kk=.int .i64 q∧q≤100000000∧1≤q∧Hid (q=k+j1n (xs.take j))∧Ext w wr) (fun _ i _=>xs.length-(intOf i).toNat)
 case atStart=>exact⟨0,k,Nat.zero_le _,rfl,rfl,by omega,h1,by show _=_;simp[j1n],Ext.refl _⟩
 case round =>
  obtain⟨j,q,hj,rfl,rfl,hq1,hq2,hq,hx⟩:=hrel;have hk0:(0:Int)≤(j:Int):=by omega
  by_cases hlt:j<xs.length
  · obtain ⟨b,off,y,u,rfl,hb,hyj,hys,ht,c0,c1⟩:=jac.at_ (HV.out.ext hx) hlt
    obtain⟨x,hxj⟩:∃ x,xs[j]? = some x:=⟨_,List.getElem?_eq_getElem hlt⟩
    rw[j25 _ _ _ _ hxj] at hyj;injection hyj with hyj
    rw[← hq.out] at hyj;subst hyj;have HK:=zh (j2i hxj);have hk1:(j:Int)<(xs.length:Int):=by omega
    have hq3:q+1+2*x.args.length≤100000000:=by
     have h3:=hq.out;have h4:=HK.out;have h5:=j13 xs (j+1);unfold costA at h4;omega
    have ht':jae S wr u (j1t (q+1) x.args.length):=ht;obtain⟨B,d,rfl,hd1,hd2⟩:=jaa.form ht';obtain⟨nn,hnn⟩:=nm ((j1t (q+1) x.args.length).length)
    rw[← hnn] at ht' c1 hd1;have HT:=zh ht';have hc0:wr.cell? ⟨b,off+j*2,none⟩=some (.string (mtext q)):=c0;have hc1':wr.cell? ⟨b,off+j*2+1,none⟩=some (.slice B nn d):=c1;obtain⟨s,hs⟩:=nm (mtext q)
    rw[← hs] at hc0;have HM:=zh (fun (W:World) (_:Ext wr W)=>show Calls Tryz.prog 93 #[.int .i64 q] W fun e w'=>e=.returned (.string s)∧Ext W w' from hs▸j1s q W hq2 (by omega));clear c0 c1 hs hys ht ht' hxj hnn;go_wp2_with (fail)
    refine jar (by kernel_rfl) (by kernel_rfl) ?_;repeat (go_big_quiet_step ((go_at_call 93;exact jbg (HM.out _ (Later.ext _)))))
    refine wpQuiet_nil ?_;rintro w3 ⟨⟨_,hx3⟩,rfl⟩;have d1:=(hx3.cells.1 b (off+j*2+1) hb).trans hc1';go_wp2_with (go_at_call 95;refine (j2y _ x.args.length (q+1) _ (HT.out.ext hx3) (by omega) (by omega)).mono ?_;rintro e w4 ⟨⟨q2,hq2',rfl⟩,hx4⟩;have HQ2:=zh hq2';have hq4:q2≤100000000:=(by omega);have hq5:1≤q2:=(by omega);clear hq2')
    go_roundw
    case rel=>exact⟨j+1,q2,by omega,by go_num,rfl,hq4,hq5,by have h3:=HQ2.out;have h4:=HK.out;have h5:=hq.out;unfold costA at h4;show _=_;omega,(hx.trans' hx3).trans' hx4⟩
    case measure=>simp[intOf];omega
  have HQ:=zh (show q=k+j1n xs from by rw[hq.out,List.take_of_length_le (by omega)]);go_wp2;go_ret;exact⟨⟨q,HQ.out,rfl⟩,hx⟩
end Go.Proofs.YthdojieomhighaaGreatDoor
