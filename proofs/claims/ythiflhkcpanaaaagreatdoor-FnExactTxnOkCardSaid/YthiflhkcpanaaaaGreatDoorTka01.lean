/- Proved here, for all inputs and without conditions: the given statement of the law FnExactTxnOk. -/
import Derived.Lib.SmallJoins
import Derived.Test.YthiflhkcpanaaaaGreatDoorDas36
import Derived.WideKeyArgs
import Derived.Test.YthiflhkcpanaaaaGreatDoorCards
import Derived.Test.YthiflhkcpanaaaaGreatDoorTie
import Derived.ChangeVars
import Derived.JoinedOf
import Derived.LaidLaws
import Derived.LaidHandle
import Derived.LaidMore
import Derived.OpenShut
import Derived.MakeChecks
import Derived.Stop.Joined
set_option linter.unusedSimpArgs false
set_option linter.unusedVariables false
set_option maxHeartbeats 16000000
set_option maxRecDepth 100000
namespace Go.Proofs.YthiflhkcpanaaaaGreatDoor
open Go.RowKit Go.ChangeShapes Go.WideShapes Go.Deep
section
variable {H:Type} {enc:TypeId × Value->H} {P:Program} {w:World} {base:Nat} {spare:Nat->Bool} {held:Bool}
theorem drop_cons' {α:Type} {l:List α} {k:Nat} {x:α} (h:l[k]? = some x):l.drop k=x :: l.drop (k+1):=by
 obtain⟨hk,rfl⟩:=List.getElem?_eq_some_iff.1 h;exact List.drop_eq_getElem_cons hk
theorem cell_addr {w:World} {a:Addr} {u:Value} (h:w.cell? a=some u):a=⟨a.block,a.off,none⟩:=by
 obtain⟨b,o,s⟩:=a
 cases s with
 | none=>rfl
 | some s=>simp only[World.cell?] at h;split at h<;>simp at h
theorem open_rows {t e:TypeId} {fs:Array Field} {fuel:Nat} {v:Value} {x:DataW H × List MemPlace} (ht:P.underlying t=some (.slice e)) (he:P.underlying e=some (.struct fs))
  (hone:oneCellFields P fs=true) (hC:P.cellsOf e=fs.size) (hfs:0<fs.size) (h:DataW.trod enc P w base spare held fuel t [v]=some x) :
  ∃ (A : Option Addr) (n c:Nat),v=.slice A n c/\n<=c/\c<=maxLen /\
    (0 < n->∃ b off,A=some ⟨b,off,none⟩/\b<w.heap.size/\∀ i,i<n->∃ (k:Nat) (cs:List Value),cs.length=fs.size/\(∀ (j:Nat) (u:Value),cs[j]? = some u->w.cell? ⟨b,off+(i*fs.size+j),none⟩=some u) /\
     ∀ (j:Nat) (f:Field) (u:Value),fs[j]? = some f->cs[j]? = some u->∃ y,DataW.trod enc P w base spare held k f.type [u]=some y):=by
 rcases open_slice ht h with ⟨hcs,_⟩|⟨a,len,cap,m,n,D,Pl,hcs,hb,hl,hm,hmm,hx,hi⟩
 . injection hcs with hv _
   subst hv;exact⟨none,0,0,rfl,Nat.le_refl _,Nat.zero_le _,fun h=>absurd h (by omega)⟩
 injection hcs with hv _
 subst hv;refine⟨some a,len,cap,rfl,hl,hm,fun h0=>?_⟩;have hml:len<=m:=by rw[hmm];split<;>omega
 have key:∀ i,i<len->∃ (k:Nat) (cs:List Value),cs.length=fs.size/\(∀ (j:Nat) (u:Value),cs[j]? = some u->w.cell? (a.add (i*fs.size+j))=some u) /\
   ∀ (j:Nat) (f:Field) (u:Value),fs[j]? = some f->cs[j]? = some u->∃ y,DataW.trod enc P w base spare held k f.type [u]=some y:=by
  intro i hilt;obtain⟨cs',hc,ht'⟩:=hi i (by omega);rw[hC] at hc;obtain⟨ys,n',hn',hy,hlen,hyl,hf⟩:=DataW.trod_struct he ht';obtain⟨_,hcl,hat⟩:=World.cells?_some hc;refine⟨n',cs',hcl,fun j u hu=>?_,fun j f u hj hu=>?_⟩
  . have hjl:j<fs.size:=by rw[<- hcl];exact (List.getElem?_eq_some_iff.1 hu).1
    rw[<- Go.Deep.add_add,hat j hjl,hu]
  obtain⟨ho,hk⟩:=hone_of hone j f hj;have hjl:j<fs.size:=(Array.getElem?_eq_some_iff.1 hj).1;have h1:=hf j f hj;rw[ho,hk] at h1
  have hone':(cs'.drop j).take 1=[u]:=by
   rw[drop_cons' hu]
   rfl
  rw[hone'] at h1;have hys:ys[j]? = some (ys[j]'(by omega)):=List.getElem?_eq_getElem (by omega);exact⟨_,h1.trans hys⟩
 obtain⟨k0,cs0,hl0,hc0,_⟩:=key 0 h0;have h00:=hc0 0 (cs0[0]'(by omega)) (List.getElem?_eq_getElem (by omega));rw[Nat.zero_mul,Nat.add_zero] at h00;have ha0:a.add 0=a:=by simp[Addr.add]
 rw[ha0] at h00;have haa:=cell_addr h00
 have hadd:∀ n,a.add n=⟨a.block,a.off+n,none⟩:=by
  intro n;unfold Addr.add;split
  . rename_i h;subst h;rw[Nat.add_zero];exact haa
  rfl
 refine⟨a.block,a.off,by rw[<- haa],?_,fun i hilt=>?_⟩
 . rw[haa] at h00;exact jcc h00
 obtain⟨k,cs,hl1,hc1,hf1⟩:=key i hilt;exact⟨k,cs,hl1,fun j u hu=>by rw[<- hadd];exact hc1 j u hu,hf1⟩
end
section
variable {H:Type} {enc:TypeId × Value->H} {w:World} {base:Nat} {spare:Nat->Bool} {held:Bool} {fuel:Nat} {v:Value} {x:DataW H × List MemPlace}
theorem read_terms (h:DataW.trod enc Tryz.prog w base spare held fuel 61 [v]=some x):∃ xs:List GT,jad Any w v xs:=by
 obtain⟨A,n,c,rfl,h1,h2,h3⟩:=open_rows Tryz.underlying61 Tryz.underlying182 (by kernel_rfl) (by kernel_rfl) (by decide) h;by_cases h0:0<n
 . obtain ⟨b,off,hA,hb,hrow⟩:=h3 h0
   obtain ⟨xs,hl,hr⟩:=jbv (fun i (t:GT)=>w.cell? ⟨b,off+(i*2+0),none⟩=some (.bool t.v)/\w.cell? ⟨b,off+(i*2+1),none⟩=some (.string t.n)/\t.n.size<=maxLen) n 0 (fun i hi=>by
    rw[Nat.zero_add];obtain⟨k,cs,hcl,hc,hf⟩:=hrow i hi
    match cs,hcl with
    | [c0,c1],_ =>
      obtain⟨y0,hy0⟩:=hf 0 _ c0 rfl rfl;obtain⟨y1,hy1⟩:=hf 1 _ c1 rfl rfl;obtain⟨bv,e0,_⟩:=DataW.trod_bool Tryz.underlying4 hy0;obtain⟨s,e1,_,hs⟩:=DataW.trod_string Tryz.underlying9 hy1;injection e0 with e0 _
      injection e1 with e1 _
      subst e0;subst e1;exact⟨⟨bv,s⟩,hc 0 _ rfl,hc 1 _ rfl,hs⟩)
   refine⟨xs,A,c,by rw[hl],by rw[hl];exact h1,h2,fun _=>⟨b,off,hA,hb,trivial,fun i x hx=>?_⟩⟩;obtain⟨r0,r1,r2⟩:=hr i x hx;rw[Nat.zero_add] at r0 r1;refine⟨[.bool x.v,.string x.n],rfl,fun j u hu=>?_,rfl,r2⟩
   match j,hu with
   | 0,hu=>simp at hu;subst hu;exact r0
   | 1,hu=>simp at hu;subst hu;exact r1
 obtain rfl:n=0:=by omega
 exact⟨[],jaa.nil_ c h2 A⟩
theorem read_atoms (h:DataW.trod enc Tryz.prog w base spare held fuel 39 [v]=some x):∃ xs:List GA,jab Any w v xs:=by
 obtain⟨A,n,c,rfl,h1,h2,h3⟩:=open_rows Tryz.underlying39 Tryz.underlying63 (by kernel_rfl) (by kernel_rfl) (by decide) h;by_cases h0:0<n
 . obtain ⟨b,off,hA,hb,hrow⟩:=h3 h0
   obtain ⟨xs,hl,hr⟩:=jbv (fun i (a:GA)=>∃ u,w.cell? ⟨b,off+(i*2+0),none⟩=some (.string a.n)/\w.cell? ⟨b,off+(i*2+1),none⟩=some u/\a.n.size<=maxLen/\jad Any w u a.args) n 0 (fun i hi=>by
    rw[Nat.zero_add];obtain⟨k,cs,hcl,hc,hf⟩:=hrow i hi
    match cs,hcl with
    | [c0,c1],_ =>
      obtain⟨y0,hy0⟩:=hf 0 _ c0 rfl rfl;obtain⟨y1,hy1⟩:=hf 1 _ c1 rfl rfl;obtain⟨s,e1,_,hs⟩:=DataW.trod_string Tryz.underlying9 hy0;obtain⟨ts,ht⟩:=read_terms hy1;injection e1 with e1 _
      subst e1;exact⟨⟨s,ts⟩,c1,hc 0 _ rfl,hc 1 _ rfl,hs,ht⟩)
   refine⟨xs,A,c,by rw[hl],by rw[hl];exact h1,h2,fun _=>⟨b,off,hA,hb,trivial,fun i x hx=>?_⟩⟩;obtain⟨u,r0,r1,r2,r3⟩:=hr i x hx;rw[Nat.zero_add] at r0 r1;refine⟨[.string x.n,u],rfl,fun j y hy=>?_,u,rfl,r2,r3⟩
   match j,hy with
   | 0,hy=>simp at hy;subst hy;exact r0
   | 1,hy=>simp at hy;subst hy;exact r1
 obtain rfl:n=0:=by omega
 exact⟨[],jaa.nil_ c h2 A⟩
end
end Go.Proofs.YthiflhkcpanaaaaGreatDoor
namespace Go.Proofs.YthiflhkcpanaaaaGreatDoor
open Go.RowKit Go.ChangeShapes Go.WideShapes Go.Deep
section
variable {H:Type} {enc:TypeId × Value->H} {P:Program} {w:World} {base:Nat} {spare:Nat->Bool} {held:Bool}
theorem open_elems {t e:TypeId} {fuel m:Nat} {v:Value} {x:DataW H × List MemPlace} (ht:P.underlying t=some (.slice e)) (hC:P.cellsOf e=m) (hm0:0<m) (h:DataW.trod enc P w base spare held fuel t [v]=some x) :
  ∃ (A : Option Addr) (n c:Nat),v=.slice A n c/\n<=c/\c<=maxLen /\
    (0 < n->∃ b off,A=some ⟨b,off,none⟩/\b<w.heap.size/\∀ i,i<n->∃ (k:Nat) (cs:List Value),cs.length=m/\(∀ (j:Nat) (u:Value),cs[j]? = some u->w.cell? ⟨b,off+(i*m+j),none⟩=some u) /\
     ∃ y,DataW.trod enc P w base spare held k e cs=some y):=by
 rcases open_slice ht h with ⟨hcs,_⟩|⟨a,len,cap,q,n,D,Pl,hcs,hb,hl,hm,hmm,hx,hi⟩
 . injection hcs with hv _
   subst hv;exact⟨none,0,0,rfl,Nat.le_refl _,Nat.zero_le _,fun h=>absurd h (by omega)⟩
 injection hcs with hv _
 subst hv;refine⟨some a,len,cap,rfl,hl,hm,fun h0=>?_⟩;have hml:len<=q:=by rw[hmm];split<;>omega
 have key:∀ i,i<len->∃ (k:Nat) (cs:List Value),cs.length=m/\(∀ (j:Nat) (u:Value),cs[j]? = some u->w.cell? (a.add (i*m+j))=some u)/\∃ y,DataW.trod enc P w base spare held k e cs=some y:=by
  intro i hilt;obtain⟨cs',hc,ht'⟩:=hi i (by omega);rw[hC] at hc;obtain⟨_,hcl,hat⟩:=World.cells?_some hc;refine⟨n,cs',hcl,fun j u hu=>?_,_,ht'⟩;have hjl:j<m:=by rw[<- hcl];exact (List.getElem?_eq_some_iff.1 hu).1
  rw[<- Go.Deep.add_add,hat j hjl,hu]
 obtain⟨k0,cs0,hl0,hc0,_⟩:=key 0 h0;have h00:=hc0 0 (cs0[0]'(by omega)) (List.getElem?_eq_getElem (by omega));rw[Nat.zero_mul,Nat.add_zero] at h00;have ha0:a.add 0=a:=by simp[Addr.add]
 rw[ha0] at h00;have haa:=cell_addr h00
 have hadd:∀ n,a.add n=⟨a.block,a.off+n,none⟩:=by
  intro n;unfold Addr.add;split
  . rename_i h;subst h;rw[Nat.add_zero];exact haa
  rfl
 refine⟨a.block,a.off,by rw[<- haa],?_,fun i hilt=>?_⟩
 . rw[haa] at h00;exact jcc h00
 obtain⟨k,cs,hl1,hc1,hf1⟩:=key i hilt;exact⟨k,cs,hl1,fun j u hu=>by rw[<- hadd];exact hc1 j u hu,hf1⟩
theorem field_of {e:TypeId} {fs:Array Field} {k m:Nat} {cs l:List Value} {y:DataW H × List MemPlace} (he:P.underlying e=some (.struct fs)) (h:DataW.trod enc P w base spare held k e cs=some y) (j:Nat) (f:Field) (hj:fs[j]? = some f)
  (hm:P.cellsOf f.type=m) (hl:(cs.drop f.offset).take m=l):∃ (k':Nat) (y':DataW H × List MemPlace),DataW.trod enc P w base spare held k' f.type l=some y':=by
 obtain⟨ys,n',hn',hy,hlen,hyl,hf⟩:=DataW.trod_struct he h;have h1:=hf j f hj;rw[hm,hl] at h1;have hjl:j<fs.size:=(Array.getElem?_eq_some_iff.1 hj).1;have hys:ys[j]? = some (ys[j]'(by omega)):=List.getElem?_eq_getElem (by omega);exact⟨_,_,h1.trans hys⟩
end
section
variable {H:Type} {enc:TypeId × Value->H} {w:World} {base:Nat} {spare:Nat->Bool} {held:Bool} {fuel:Nat} {v:Value} {x:DataW H × List MemPlace}
theorem read_atom {c0 c1:Value} (h:DataW.trod enc Tryz.prog w base spare held fuel 63 [c0,c1]=some x):∃ (s:ByteArray) (ts:List GT),c0=.string s/\s.size<=maxLen/\jad Any w c1 ts:=by
 obtain⟨k0,y0,h0⟩:=field_of Tryz.underlying63 h 0 _ rfl (m:=1) (l:=[c0]) (by kernel_rfl) rfl;obtain⟨k1,y1,h1⟩:=field_of Tryz.underlying63 h 1 _ rfl (m:=1) (l:=[c1]) (by kernel_rfl) rfl;obtain⟨s,e1,_,hs⟩:=DataW.trod_string Tryz.underlying9 h0;obtain⟨ts,ht⟩:=read_terms h1;injection e1 with e1 _
 exact⟨s,ts,e1,hs,ht⟩
theorem read_parts (h:DataW.trod enc Tryz.prog w base spare held fuel 74 [v]=some x):∃ xs:List GP,jao Any w v xs:=by
 obtain⟨A,n,c,rfl,h1,h2,h3⟩:=open_elems (m:=3) Tryz.underlying74 (by kernel_rfl) (by decide) h;by_cases h0:0<n
 . obtain ⟨b,off,hA,hb,hrow⟩:=h3 h0
   obtain ⟨xs,hl,hr⟩:=jbv (fun i (a:GP)=>∃ u,w.cell? ⟨b,off+(i*3+0),none⟩=some (.bool a.no)/\w.cell? ⟨b,off+(i*3+1),none⟩=some (.string a.atom.n)/\w.cell? ⟨b,off+(i*3+2),none⟩=some u/\a.atom.n.size<=maxLen/\jad Any w u a.atom.args) n 0 (fun i hi=>by
    rw[Nat.zero_add];obtain⟨k,cs,hcl,hc,y,hy⟩:=hrow i hi
    match cs,hcl with
    | [c0,c1,c2],_ =>
      obtain⟨k0,y0,hy0⟩:=field_of Tryz.underlying132 hy 0 _ rfl (m:=1) (l:=[c0]) (by kernel_rfl) rfl;obtain⟨k1,y1,hy1⟩:=field_of Tryz.underlying132 hy 1 _ rfl (m:=2) (l:=[c1,c2]) (by kernel_rfl) rfl;obtain⟨bv,e0,_⟩:=DataW.trod_bool Tryz.underlying4 hy0;injection e0 with e0 _
      obtain⟨s,ts,rfl,hs,ht⟩:=read_atom hy1;subst e0;exact⟨⟨bv,⟨s,ts⟩⟩,c2,hc 0 _ rfl,hc 1 _ rfl,hc 2 _ rfl,hs,ht⟩)
   refine⟨xs,A,c,by rw[hl],by rw[hl];exact h1,h2,fun _=>⟨b,off,hA,hb,trivial,fun i x hx=>?_⟩⟩;obtain⟨u,r0,r1,r2,r3,r4⟩:=hr i x hx;rw[Nat.zero_add] at r0 r1 r2;refine⟨[.bool x.no,.string x.atom.n,u],rfl,fun j y hy=>?_,u,rfl,r3,r4⟩
   match j,hy with
   | 0,hy=>simp at hy;subst hy;exact r0
   | 1,hy=>simp at hy;subst hy;exact r1
   | 2,hy=>simp at hy;subst hy;exact r2
 obtain rfl:n=0:=by omega
 exact⟨[],jaa.nil_ c h2 A⟩
theorem read_rules (h:DataW.trod enc Tryz.prog w base spare held fuel 38 [v]=some x):∃ xs:List GR,jam Any w v xs:=by
 obtain⟨A,n,c,rfl,h1,h2,h3⟩:=open_elems (m:=3) Tryz.underlying38 (by kernel_rfl) (by decide) h;by_cases h0:0<n
 . obtain ⟨b,off,hA,hb,hrow⟩:=h3 h0
   obtain ⟨xs,hl,hr⟩:=jbv (fun i (a:GR)=>∃ u z,w.cell? ⟨b,off+(i*3+0),none⟩=some (.string a.head.n)/\w.cell? ⟨b,off+(i*3+1),none⟩=some u/\w.cell? ⟨b,off+(i*3+2),none⟩=some z/\a.head.n.size<=maxLen/\jad Any w u a.head.args/\jao Any w z a.body) n 0 (fun i hi=>by
    rw[Nat.zero_add];obtain⟨k,cs,hcl,hc,y,hy⟩:=hrow i hi
    match cs,hcl with
    | [c0,c1,c2],_ =>
      obtain⟨k0,y0,hy0⟩:=field_of Tryz.underlying176 hy 0 _ rfl (m:=2) (l:=[c0,c1]) (by kernel_rfl) rfl;obtain⟨k1,y1,hy1⟩:=field_of Tryz.underlying176 hy 1 _ rfl (m:=1) (l:=[c2]) (by kernel_rfl) rfl;obtain⟨s,ts,rfl,hs,ht⟩:=read_atom hy0;obtain⟨ps,hp⟩:=read_parts hy1;exact⟨⟨⟨s,ts⟩,ps⟩,c1,c2,hc 0 _ rfl,hc 1 _ rfl,hc 2 _ rfl,hs,ht,hp⟩)
   refine⟨xs,A,c,by rw[hl],by rw[hl];exact h1,h2,fun _=>⟨b,off,hA,hb,trivial,fun i x hx=>?_⟩⟩;obtain⟨u,z,r0,r1,r2,r3,r4,r5⟩:=hr i x hx;rw[Nat.zero_add] at r0 r1 r2;refine⟨[.string x.head.n,u,z],rfl,fun j y hy=>?_,u,z,rfl,r3,r4,r5⟩
   match j,hy with
   | 0,hy=>simp at hy;subst hy;exact r0
   | 1,hy=>simp at hy;subst hy;exact r1
   | 2,hy=>simp at hy;subst hy;exact r2
 obtain rfl:n=0:=by omega
 exact⟨[],jaa.nil_ c h2 A⟩
end
end Go.Proofs.YthiflhkcpanaaaaGreatDoor
namespace Go.Proofs.YthiflhkcpanaaaaGreatDoor
open Go.RowKit
theorem BaseR.imp {S S':Nat->Prop} {w w':World} {v:Value} {B:GB} (h:BaseR S w v B) (hS:∀ b,S b->S' b) (he:Agree S w w') (hsz:w.heap.size<=w'.heap.size):BaseR S' w' v B:=by
 obtain⟨a,b,c,h1,h2,h3,h4⟩:=h;exact⟨a,b,c,h1,h2.imp hS he hsz,h3.imp hS he hsz,ListK.imp (k:=jf9) h4 (fun b h _=>hS b h) he hsz⟩
end Go.Proofs.YthiflhkcpanaaaaGreatDoor
namespace Go.Proofs.YthiflhkcpanaaaaGreatDoor
open Go.RowKit Go.ChangeShapes Go.WideShapes Go.Joins
section
variable {H:Type} {enc:TypeId × Value->H} {w:World} {base:Nat} {spare:Nat->Bool} {held:Bool} {fuel:Nat} {v:Value} {x:DataW H × List MemPlace}
theorem read_changes (h:DataW.trod enc Tryz.prog w base spare held fuel 40 [v]=some x):∃ xs:List GC,jan Any w v xs:=by
 obtain⟨A,n,c,rfl,h1,h2,h3⟩:=open_rows Tryz.underlying40 Tryz.underlying44 (by kernel_rfl) (by kernel_rfl) (by decide) h;by_cases h0:0<n
 . obtain ⟨b,off,hA,hb,hrow⟩:=h3 h0
   obtain ⟨xs,hl,hr⟩:=jbv (fun i (a:GC)=>∃ u z,w.cell? ⟨b,off+(i*2+0),none⟩=some u/\w.cell? ⟨b,off+(i*2+1),none⟩=some z/\jab Any w u a.comes/\jab Any w z a.goes) n 0 (fun i hi=>by
    rw[Nat.zero_add];obtain⟨k,cs,hcl,hc,hf⟩:=hrow i hi
    match cs,hcl with
    | [c0,c1],_ =>
      obtain⟨y0,hy0⟩:=hf 0 _ c0 rfl rfl;obtain⟨y1,hy1⟩:=hf 1 _ c1 rfl rfl;obtain⟨xs,hxs⟩:=read_atoms hy0;obtain⟨ys,hys⟩:=read_atoms hy1;exact⟨⟨xs,ys⟩,c0,c1,hc 0 _ rfl,hc 1 _ rfl,hxs,hys⟩)
   refine⟨xs,A,c,by rw[hl],by rw[hl];exact h1,h2,fun _=>⟨b,off,hA,hb,trivial,fun i x hx=>?_⟩⟩;obtain⟨u,z,r0,r1,r2,r3⟩:=hr i x hx;rw[Nat.zero_add] at r0 r1;refine⟨[u,z],rfl,fun j y hy=>?_,u,z,rfl,r2,r3⟩
   match j,hy with
   | 0,hy=>simp at hy;subst hy;exact r0
   | 1,hy=>simp at hy;subst hy;exact r1
 obtain rfl:n=0:=by omega
 exact⟨[],jaa.nil_ c h2 A⟩
theorem law_base_cells:Tryz.prog.cellsOf 42=4:=by kernel_rfl
theorem read_base {r:Reach} {b0:Nat} {d:DataW H} {p:List MemPlace} (hv:Value.okWide Tryz.prog w r b0 42 v) (h:DataW.Trod enc Tryz.prog w base spare held 42 v d p):∃ B:GB,BaseR Any w v B:=by
 obtain⟨c0,c1,c2,c3,y0,y1,y2,y3,m,rfl,rfl,rfl,hy0,hy1,hy2,hy3⟩:=open_agg4 Tryz.underlying42 (by kernel_rfl) law_base_cells hv h;obtain⟨rs,hrs⟩:=read_rules hy0;obtain⟨n,e1,_⟩:=DataW.trod_int Tryz.underlying3 hy1;obtain⟨xs,hxs⟩:=read_atoms hy2;obtain⟨cs,hcs⟩:=read_changes hy3;injection e1 with e1 _
 subst e1;exact⟨⟨rs,n,xs,cs⟩,c0,c2,c3,rfl,hrs,hxs,hcs⟩
end
end Go.Proofs.YthiflhkcpanaaaaGreatDoor
namespace Go.Proofs.YthiflhkcpanaaaaGreatDoor
open Go.RowKit
theorem TxnR.imp {S S':Nat->Prop} {w w':World} {v:Value} {t:GX} (h:TxnR S w v t) (hS:∀ b,S b->S' b) (he:Agree S w w') (hsz:w.heap.size<=w'.heap.size):TxnR S' w' v t:=by
 obtain⟨a,b,h1,h2,h3⟩:=h;exact⟨a,b,h1,h2.imp hS he hsz,h3.imp hS he hsz⟩
theorem BaseR.sub {S S':Nat->Prop} {w:World} {v:Value} {B:GB} (h:BaseR S w v B) (hS:∀ b,S b->S' b):BaseR S' w v B:=h.imp hS (.refl _ _) (Nat.le_refl _)
theorem implTxnOk_any (B:GB) (t:GX) (v u:Value) (w:World) {S T:Nat->Prop} (hv:BaseR S w v B) (hu:TxnR T w u t) (he:ErrIs w) :
  Calls Tryz.prog 22 #[v,u] w fun e w'=>e=.returned (.bool (okB B t))/\Ext w w':=by
 obtain⟨A1,c1,A2,c2,A3,c3,rfl⟩:=hv.form;obtain⟨X,x,Y,y,rfl⟩:=hu.form;obtain⟨W,hW⟩:=nm ((w.alloc (.cells #[.slice A1 B.rules.length c1,.int .i64 B.time,.slice A2 B.given.length c2,.slice A3 B.hist.length c3] 27)).alloc (.cells #[.int .i64 t.from_,.slice X t.change.comes.length x,.slice Y t.change.goes.length y] 52));have HX:=zh (show Ext w W from by rw[hW];exact ((Ext.refl _).alloc _).alloc _);have HBT:=zh (show BT _ _ _ _ _ _ _ _ W from by rw[hW];exact BT.new w);have HOK:=zh (fun (n:Later W)=>later (jo5 B t _ _ n.at_ (hv.ext (HX.o.t n.ext)) (hu.ext (HX.o.t n.ext)) (he.ext (HX.o.t n.ext))));obtain⟨p0,p1,p2,p3,q0,q1,q2,pl,ql⟩:=HBT.o.cells;obtain⟨k,hk⟩:=nm (okB B t);rw[<- hk] at HOK;rw[<- hk];clear hv hu hk he
 go_in
 go_upto_region 1 with fail
 rw[<- hW];clear hW;obtain⟨n0,h0⟩:=Later.self W;rw[h0];clear h0
 go_wp2_with (first
  | (go_at_call 82;refine (HOK.o _).mono ?_;rintro e _ ⟨n1,rfl,_,a,b,c,rfl,ha,hb,hc⟩
     obtain⟨a1,a2,rfl,_,_⟩:=jaa.form ha;obtain⟨b1,b2,rfl,_,_⟩:=jaa.form hb;obtain⟨d1,d2,rfl,_,_⟩:=jaa.form hc;clear ha hb hc)
  | fail)
 go_ret;exact⟨rfl,(HX.o.t (Later.ext _)).alloc _⟩
theorem exactTxnOk_any (B:GB) (t:GX) (v u:Value) (w:World) {S T:Nat->Prop} (hv:BaseR S w v B) (hu:TxnR T w u t) (he:ErrIs w) :
  Calls Tryz.prog 4 #[v,u] w fun e w'=>e=.returned (.bool true)/\Ext w w':=by
 obtain⟨A1,c1,A2,c2,A3,c3,rfl⟩:=hv.form;obtain⟨X,x,Y,y,rfl⟩:=hu.form;obtain⟨W,hW⟩:=nm ((w.alloc (.cells #[.slice A1 B.rules.length c1,.int .i64 B.time,.slice A2 B.given.length c2,.slice A3 B.hist.length c3] 42)).alloc (.cells #[.int .i64 t.from_,.slice X t.change.comes.length x,.slice Y t.change.goes.length y] 46));have HX:=zh (show Ext w W from by rw[hW];exact ((Ext.refl _).alloc _).alloc _)
 have HS:=zh (fun (V:World) (hV:Ext W V)=>show (V.cell? ⟨w.heap.size,0,none⟩=some (.slice A1 B.rules.length c1)/\V.cell? ⟨w.heap.size,1,none⟩=some (.int .i64 B.time)/\V.cell? ⟨w.heap.size,2,none⟩=some (.slice A2 B.given.length c2)/\V.cell? ⟨w.heap.size,3,none⟩=some (.slice A3 B.hist.length c3) /\
   V.cell? ⟨w.heap.size+1,0,none⟩=some (.int .i64 t.from_)/\V.cell? ⟨w.heap.size+1,1,none⟩=some (.slice X t.change.comes.length x)/\V.cell? ⟨w.heap.size+1,2,none⟩=some (.slice Y t.change.goes.length y)) from by
  have h1:Blk V w.heap.size 42 _:=((Blk.new _ _ _).alloc _).ext (hW▸hV);have h2:Blk V (w.heap.size+1) 46 _:=(Blk.at_new (by simp)).ext (hW▸hV);exact⟨h1.cell 0,h1.cell 1,h1.cell 2,h1.cell 3,h2.cell 0,h2.cell 1,h2.cell 2⟩)
 have HV:=zh (hv.ext HX.o);have HU:=zh (hu.ext HX.o);have HE:=zh (he.ext HX.o);obtain⟨p0,p1,p2,p3,q0,q1,q2⟩:=HS.o _ (Ext.refl W);have pl:w.heap.size<W.heap.size:=jcc p0;have ql:w.heap.size+1<W.heap.size:=jcc q0;have HB1:=zh (fun (n:Later W)=>jbj (jow B _ 1048576 n.at_ ⟨by omega,by omega⟩ (HV.o.ext n.ext)));clear hv hu he;by_cases hb:(1048576:Int)<wBase B
 . have HSZ:=zh (fun (n:Later W)=>later ((HB1.o n).1 hb))
   clear hb
   go_in
   go_upto_region 1 with fail
   rw[<- hW];clear hW;obtain⟨n0,h0⟩:=Later.self W;rw[h0];clear h0;go_wp2_with (go_at_call 17;refine (HSZ.o _).mono ?_;rintro e _ ⟨n1,rfl,_,rfl⟩)
   go_ret;exact⟨rfl,HX.o.t n1.ext⟩
 obtain⟨lft,hlft⟩:∃ q:Int,q=1048576-(wBase B:Int):=⟨_,rfl⟩
 have hl0:0<=lft:=by omega
 have hl1:lft<=1048576:=by omega
 have HSZ:=zh (fun (n:Later W)=>by have h:=later ((HB1.o n).2 (by omega));rw[<- hlft] at h;exact h);have HT1:=zh (fun (n:Later W)=>jbj (jsq t _ lft n.at_ ⟨hl0,hl1⟩ (HU.o.ext n.ext)));have hbw:wBase B<=1048576:=by omega
 clear hlft hb HB1;by_cases ht:lft<wTxn t
 . have HSX:=zh (fun (n:Later W)=>later ((HT1.o n).1 ht))
   clear HT1 hbw ht
   go_in
   go_upto_region 1 with fail
   rw[<- hW];clear hW;obtain⟨n0,h0⟩:=Later.self W;rw[h0];clear h0
   go_wp2_with (first
    | (go_at_call 17;refine (HSZ.o _).mono ?_;rintro e _ ⟨n1,rfl,_,rfl⟩)
    | (go_at_call 18;refine (HSX.o _).mono ?_;rintro e _ ⟨n2,rfl,_,rfl⟩)
    | fail)
   go_ret;exact⟨rfl,HX.o.t n2.ext⟩
 obtain⟨lf2,hlf2⟩:∃ q:Int,q=lft-(wTxn t:Int):=⟨_,rfl⟩
 have hm0:0<=lf2:=by omega
 have HSX:=zh (fun (n:Later W)=>by have h:=later ((HT1.o n).2 (by omega));rw[<- hlf2] at h;exact h);have htw:wTxn t<=1048576:=by omega
 have HTB:=zh (fun (V:World) (hV:Ext W V)=>(jox B _ V (HV.o.ext hV) hbw).mono fun e w' ⟨⟨u,h1,h2⟩,h3⟩=>(show (∃ u,e=Ending.returned u/\BaseR Any w' u B)/\Ext V w' from⟨⟨u,h1,BaseR.sub (BaseO.read h2) (fun _ _=>trivial)⟩,h3⟩));have HTT:=zh (fun (V:World) (hV:Ext W V)=>(jsr t _ V (HU.o.ext hV) htw).mono fun e w' ⟨⟨u,h1,h2⟩,h3⟩=>(show (∃ u,e=Ending.returned u/\TxnR Any w' u t)/\Ext V w' from⟨⟨u,h1,TxnR.imp (TxnO.read h2) (fun _ _=>trivial) (.refl _ _) (Nat.le_refl _)⟩,h3⟩));obtain⟨ok,hok⟩:∃ r,r=okB B t:=⟨_,rfl⟩
 have hoo:(ok == ok)=true:=beq_self_eq_true _;have HSP:=zh (fun (a b:Value) (V:World) (ha:BaseR Any V a B) (hb:TxnR Any V b t)=>ji2 B t a b V ha hb);have HIM:=zh (fun (a b:Value) (V:World) (hV:Ext W V) (ha:BaseR Any V a B) (hb:TxnR Any V b t)=>implTxnOk_any B t a b V ha hb (HE.o.ext hV));rw[<- hok] at HSP HIM;clear HT1 hlf2 ht hbw htw hl1 hok
 go_in
 go_upto_region 1 with fail
 rw[<- hW];clear hW;obtain⟨n0,h0⟩:=Later.self W;rw[h0];clear h0
 go_upto_region 8 with (first
  | (go_at_call 17;refine (HSZ.o _).mono ?_;rintro e _ ⟨n1,rfl,_,rfl⟩)
  | (go_at_call 18;refine (HSX.o _).mono ?_;rintro e _ ⟨n2,rfl,_,rfl⟩)
  | fail)
 go_region_held3 (fun V=>V.cell? ⟨w.heap.size,0,none⟩=some (.slice A1 B.rules.length c1)/\V.cell? ⟨w.heap.size,1,none⟩=some (.int .i64 B.time)/\V.cell? ⟨w.heap.size,2,none⟩=some (.slice A2 B.given.length c2)/\V.cell? ⟨w.heap.size,3,none⟩=some (.slice A3 B.hist.length c3) /\
   V.cell? ⟨w.heap.size+1,0,none⟩=some (.int .i64 t.from_)/\V.cell? ⟨w.heap.size+1,1,none⟩=some (.slice X t.change.comes.length x)/\V.cell? ⟨w.heap.size+1,2,none⟩=some (.slice Y t.change.goes.length y))
  (first|exact HS.o _ n2.ext.drew|exact HS.o _ HE3.o|exact HS.o _ HE4.o|exact HS.o _ HE5.o)
  (first
   | (go_at_call 20;refine (HTB.o _ n2.ext.drew).mono ?_;rintro e w3 ⟨⟨a,rfl,ha⟩,hx3⟩
      have HA:=zh ha;have HE3:=zh (n2.ext.drew.t hx3);clear ha hx3)
   | (go_at_call 21;refine (HTT.o _ HE3.o).mono ?_;rintro e w4 ⟨⟨b,rfl,hb⟩,hx4⟩
      have HA4:=zh (HA.o.ext hx4);have HB4:=zh hb;have HE4:=zh (HE3.o.t hx4);clear hb hx4)
   | (go_at_call 19;refine (HSP.o _ _ _ HA4.o HB4.o).mono ?_;rintro e w5 ⟨rfl,hx5⟩
      have HE5:=zh (HE4.o.t hx5);clear hx5))
 obtain⟨n5,h5⟩:∃ n:Later W,w5=n.at_:=⟨⟨w5,HE5.o⟩,rfl⟩
 clear HA HE3 HA4 HB4 HE4 HE5;subst h5;have tok1:True:=trivial;have tok2:True:=trivial
 go_upto_region 12 with (first
  | (go_at_call 20;refine (HTB.o _ n5.ext).mono ?_;rintro e w6 ⟨⟨a,rfl,ha⟩,hx6⟩
     obtain⟨D1,d1,D2,d2,D3,d3,rfl⟩:=ha.form;have HA6:=zh ha;have HE6:=zh (n5.ext.t hx6);clear p0 p1 p2 p3 q0 q1 q2 ha hx6;obtain⟨p0,p1,p2,p3,q0,q1,q2⟩:=HS.o _ HE6.o;have ql6:=jcc q0)
  | (go_at_call 21;refine (HTT.o _ (HE6.o.alloc _)).mono ?_;rintro e w7 ⟨⟨b,rfl,hb⟩,hx7⟩
     obtain⟨G1,g1,G2,g2,rfl⟩:=hb.form;have HA7:=zh (HA6.o.ext (((Ext.refl w6).alloc _).t hx7));have HB7:=zh hb;have HE7:=zh ((HE6.o.alloc _).t hx7);have HK7:=zh ((Blk.new w6 27 #[.slice D1 B.rules.length d1,.int .i64 B.time,.slice D2 B.given.length d2,.slice D3 B.hist.length d3]).ext hx7);clear p0 p1 p2 p3 q0 q1 q2 hb hx7;have r0:=HK7.o.cell 0;have r1:=HK7.o.cell 1;have r2:=HK7.o.cell 2;have r3:=HK7.o.cell 3;have rl:=HK7.o.lt)
  | (go_at_call 22;refine (HIM.o _ _ _ (HE7.o.alloc _) (HA7.o.ext ((Ext.refl w7).alloc _)) (TxnR.ext HB7.o ((Ext.refl w7).alloc _))).mono ?_;rintro e w8 ⟨rfl,hx8⟩
     have HX8:=zh (((Ext.refl w7).alloc _).t hx8);have HE8:=zh ((HE7.o.alloc _).t hx8);have HA8:=zh (HA7.o.ext HX8.o);have HB8:=zh (HB7.o.ext HX8.o);have HK8:=zh (HK7.o.ext HX8.o);have HL8:=zh ((Blk.new w7 52 #[.int .i64 t.from_,.slice G1 t.change.comes.length g1,.slice G2 t.change.goes.length g2]).ext hx8);clear hx8 HX8 r0 r1 r2 r3 rl)
  | fail)
 clear HA6 HE6 HA7 HB7 HE7 HK7
 have HSY:=zh (fun (V:World) (hV:Ext w8 V)=>show ((V.cell? ⟨w6.heap.size,0,none⟩=some (.slice D1 B.rules.length d1)/\V.cell? ⟨w6.heap.size,1,none⟩=some (.int .i64 B.time)/\V.cell? ⟨w6.heap.size,2,none⟩=some (.slice D2 B.given.length d2)/\V.cell? ⟨w6.heap.size,3,none⟩=some (.slice D3 B.hist.length d3))/\V.cell? ⟨w7.heap.size,0,none⟩=some (.int .i64 t.from_)/\V.cell? ⟨w7.heap.size,1,none⟩=some (.slice G1 t.change.comes.length g1)/\V.cell? ⟨w7.heap.size,2,none⟩=some (.slice G2 t.change.goes.length g2)) from
  ⟨⟨(HK8.o.ext hV).cell 0,(HK8.o.ext hV).cell 1,(HK8.o.ext hV).cell 2,(HK8.o.ext hV).cell 3⟩,(HL8.o.ext hV).cell 0,(HL8.o.ext hV).cell 1,(HL8.o.ext hV).cell 2⟩)
 have HSA:=zh (fun (V:World) (hV:Ext w8 V)=>HS.o V (HE8.o.t hV))
 have HP:=zh (fun (V:World) (hV:Ext w8 V)=>show ((V.cell? ⟨w.heap.size,0,none⟩=some (.slice A1 B.rules.length c1)/\V.cell? ⟨w.heap.size,1,none⟩=some (.int .i64 B.time)/\V.cell? ⟨w.heap.size,2,none⟩=some (.slice A2 B.given.length c2)/\V.cell? ⟨w.heap.size,3,none⟩=some (.slice A3 B.hist.length c3))/\V.cell? ⟨w6.heap.size,0,none⟩=some (.slice D1 B.rules.length d1)/\V.cell? ⟨w6.heap.size,1,none⟩=some (.int .i64 B.time)/\V.cell? ⟨w6.heap.size,2,none⟩=some (.slice D2 B.given.length d2)/\V.cell? ⟨w6.heap.size,3,none⟩=some (.slice D3 B.hist.length d3)) from
  ⟨⟨(HSA.o V hV).1,(HSA.o V hV).2.1,(HSA.o V hV).2.2.1,(HSA.o V hV).2.2.2.1⟩,(HSY.o V hV).1⟩)
 have HQ:=zh (fun (V:World) (hV:Ext w8 V)=>show ((V.cell? ⟨w.heap.size+1,0,none⟩=some (.int .i64 t.from_)/\V.cell? ⟨w.heap.size+1,1,none⟩=some (.slice X t.change.comes.length x)/\V.cell? ⟨w.heap.size+1,2,none⟩=some (.slice Y t.change.goes.length y))/\V.cell? ⟨w7.heap.size,0,none⟩=some (.int .i64 t.from_)/\V.cell? ⟨w7.heap.size,1,none⟩=some (.slice G1 t.change.comes.length g1)/\V.cell? ⟨w7.heap.size,2,none⟩=some (.slice G2 t.change.goes.length g2)) from⟨(HSA.o V hV).2.2.2.2,(HSY.o V hV).2⟩);have E8:=zh (Ext.refl w8)
 go_upto_region 14 with fail
 go_region_held3 (fun V=>(V.cell? ⟨w.heap.size,0,none⟩=some (.slice A1 B.rules.length c1)/\V.cell? ⟨w.heap.size,1,none⟩=some (.int .i64 B.time)/\V.cell? ⟨w.heap.size,2,none⟩=some (.slice A2 B.given.length c2)/\V.cell? ⟨w.heap.size,3,none⟩=some (.slice A3 B.hist.length c3))/\V.cell? ⟨w6.heap.size,0,none⟩=some (.slice D1 B.rules.length d1)/\V.cell? ⟨w6.heap.size,1,none⟩=some (.int .i64 B.time)/\V.cell? ⟨w6.heap.size,2,none⟩=some (.slice D2 B.given.length d2)/\V.cell? ⟨w6.heap.size,3,none⟩=some (.slice D3 B.hist.length d3))
  (first|exact HP.o _ E8.o.drew|exact HP.o _ E9.o|exact HP.o _ E10.o)
  (first
   | (go_at_call 20;refine (HTB.o _ (HE8.o.drew)).mono ?_;rintro e w9 ⟨⟨a,rfl,ha⟩,hx9⟩
      have HA9:=zh ha;have E9:=zh (E8.o.drew.t hx9);clear ha hx9)
   | (go_at_call 23;refine (jmx B _ _ _ (HA8.o.ext E9.o) HA9.o).mono ?_;rintro e w10 ⟨rfl,hx10⟩
      have E10:=zh (E9.o.t hx10);clear hx10))
 clear E9 HA9 HA8
 go_upto_region 16 with fail
 go_region_held3 (fun V=>(V.cell? ⟨w.heap.size+1,0,none⟩=some (.int .i64 t.from_)/\V.cell? ⟨w.heap.size+1,1,none⟩=some (.slice X t.change.comes.length x)/\V.cell? ⟨w.heap.size+1,2,none⟩=some (.slice Y t.change.goes.length y))/\V.cell? ⟨w7.heap.size,0,none⟩=some (.int .i64 t.from_)/\V.cell? ⟨w7.heap.size,1,none⟩=some (.slice G1 t.change.comes.length g1)/\V.cell? ⟨w7.heap.size,2,none⟩=some (.slice G2 t.change.goes.length g2))
  (first|exact HQ.o _ E10.o.drew|exact HQ.o _ E11.o|exact HQ.o _ E12.o)
  (first
   | (go_at_call 21;refine (HTT.o _ (HE8.o.t E10.o.drew)).mono ?_;rintro e w11 ⟨⟨b,rfl,hb⟩,hx11⟩
      have HB11:=zh hb;have E11:=zh (E10.o.drew.t hx11);clear hb hx11)
   | (go_at_call 24;refine (joy t _ _ _ (HB8.o.ext E11.o) HB11.o).mono ?_;rintro e w12 ⟨rfl,hx12⟩
      have E12:=zh (E11.o.t hx12);clear hx12))
 go_wp2;go_ret;exact⟨rfl,HX.o.t (HE8.o.t E12.o)⟩
end Go.Proofs.YthiflhkcpanaaaaGreatDoor
namespace Go.Proofs.YthiflhkcpanaaaaGreatDoor
open Go.RowKit Go.ChangeShapes Go.WideShapes
theorem law_own:ownKnob Tryz.prog.godebug=none:=by kernel_rfl
theorem law_laidOut:laidOutB Tryz.prog=true:=by kernel_rfl
section
variable {H:Type} {enc:TypeId × Value->H} {P:Program}
theorem trodAll_stays (hl : laidOutB P = true) {W W' : World} (hb : Below W.heap.size W W') : ∀ (ts : List TypeId) (vs : List Value) (ds : List (DataW H)) (ps : List MemPlace), (∀ t ∈ ts, P.readableRec t = true ∧ t < P.types.size) →
    DataW.TrodAll enc P W 0 (fun _ => true) true ts vs ds ps → (∀ x ∈ ps, x.block < W.heap.size) → ∀ sp : Nat → Bool, (∀ x ∈ ps, sp x.block = true) → DataW.TrodAll enc P W' 0 sp true ts vs ds ps
  | [], [], [], ps, _, h, _, _, _ => h
  | t :: ts, v :: vs, d :: ds, ps, ht, h, hlt, sp, hsp => by
    obtain ⟨p, q, h1, h2, rfl⟩ := h
    refine ⟨p, q, ?_, trodAll_stays hl hb ts vs ds q (fun t ht' => ht t (List.mem_cons_of_mem _ ht')) h2 (fun x hx => hlt x (List.mem_append.2 (.inr hx))) sp (fun x hx => hsp x (List.mem_append.2 (.inr hx))), rfl⟩
    exact WideElems.Trod_stays hl (ht t (by simp)).1 (ht t (by simp)).2 h1 (fun x hx => hb.same (hlt x (List.mem_append.2 (.inl hx)))) (fun x hx => hsp x (List.mem_append.2 (.inl hx)))
  | [], _ :: _, _, _, _, h, _, _, _ => by simp [DataW.TrodAll] at h
  | [], [], _ :: _, _, _, h, _, _, _ => by simp [DataW.TrodAll] at h
  | _ :: _, [], _, _, _, h, _, _, _ => by simp [DataW.TrodAll] at h
  | _ :: _, _ :: _, [], _, _, h, _, _, _ => by simp [DataW.TrodAll] at h
theorem law_post {f:Func} {s:ChangeSpec} {apart fresh handsOn again:Bool} {W W':World} {args:Array Value} {ds:List (DataW H)} {before:List MemPlace} {t:TypeId}
  (hvars:s.vars=[]) (hres:f.resultTypes = #[t]) (hbool:P.underlying t=some .bool) (hspec:s.fn H (ds++[]) = { results:=[.lit (.bool true)],args:=ds })
  (hl:laidOutB P=true) (hts:∀ t∈f.params.toList,P.readableRec t=true/\t<P.types.size)
  (hW:DataW.Whole enc P f.params.toList s.vars apart W args.toList ds [] before) (hb:Below W.heap.size W W') :
  s.post enc P f apart fresh handsOn again W args (.bool true) W':=by
 obtain⟨p,q,hA,hV,hpq,hz,hn⟩:=id hW
 have hq:q=[]:=by
  rw[hvars] at hV;obtain⟨_,h2⟩:=trodVars_none hV;exact h2
 subst hq;rw[List.append_nil] at hpq;subst hpq;have hlt:∀ x∈before,x.block<W.heap.size:=fun x hx=>hW.lt x hx
 have hstay:=trodAll_stays hl hb _ _ _ _ hts hA hlt;have hold:∀ x∈before,(fun b=>decide (b<W.heap.size)) x.block=true:=fun x hx=>by simpa using hlt x hx
 have hr:∀ (b:Nat) (sp:Nat->Bool) (hd:Bool),DataW.TrodAll enc P W' b sp hd f.resultTypes.toList ((Value.bool true).resultList f.resultTypes.size) (s.fn H (ds++[])).results []:=by
  intro b sp hd;rw[hres,hspec];exact trodAll_mk1 (shut_bool hbool true)
 have hvr:∀ sp:Nat->Bool,DataW.TrodVars enc P W' sp s.vars (s.fn H (ds++[])).vars []:=by
  intro sp;rw[hvars,hspec]
  rfl
 have hargs:∀ sp:Nat->Bool,(∀ x∈before,sp x.block=true)->DataW.TrodAll enc P W' 0 sp true f.params.toList args.toList (s.fn H (ds++[])).args before:=by
  intro sp hsp;rw[hspec];exact hstay sp hsp
 refine⟨ds,[],before,[],before,[],hW,hr _ _ _,hargs _ hold,hvr _,World.keptBut_mono (fun x hx=>⟨hx,.inr (by simpa using hx)⟩) (hb.frame (· ∈before)),fun _=>?_⟩;refine⟨ok_one hres rfl (okWide_bool_mk hbool true),_,_,([]++before)++[],⟨[]++before,[],trodAll_append (hargs _ (fun _ _=>rfl)) (hr _ _ _),hvr _,rfl,?_,?_⟩,?_⟩
 . intro b off hp
   have hin:MemPlace.cell b off∈before:=by simpa using hp
   rw[hb.frozen (hlt _ hin)];exact hz b off hin
 . intro ha
   have:=hn ha;simpa using this
 intro x hx _;simpa using hx
end
end Go.Proofs.YthiflhkcpanaaaaGreatDoor
namespace Go.Proofs.YthiflhkcpanaaaaGreatDoor
open Go Go.RowKit Go.ChangeShapes Go.WideShapes Go.ChangeAt
theorem tok_wf:(Rows.fnExactTxnOkRow.wf (OpenSpec.ofChange Rows.fnExactTxnOkSpec) && laidOutB Tryz.pinned.checked.prog && mapsRowed Tryz.pinned.checked.prog)=true:=by kernel_rfl
theorem tok_inPlace:(Rows.fnExactTxnOkRow.inPlace == Tryz.pinned.checked.prog.inPlace 4)=true:=by kernel_rfl
theorem tok_unfollowed:(Rows.fnExactTxnOkRow.unfollowed == Tryz.pinned.checked.prog.unfollowed 4)=true:=by kernel_rfl
theorem tok_recurses:(Rows.fnExactTxnOkRow.recurses == Tryz.pinned.checked.prog.recurses 4)=true:=by kernel_rfl
theorem tok_named:(Rows.fnExactTxnOkRow.named == Tryz.pinned.checked.prog.varsNamed 4)=true:=by kernel_rfl
theorem tok_closed:joinedFacts Tryz.pinned.checked.prog 4 Tryz.f4 Rows.fnExactTxnOkSpec Rows.fnExactTxnOkRow=true:=by
 unfold joinedFacts;rw[tok_wf,tok_inPlace,tok_unfollowed,tok_recurses,tok_named]
 kernel_rfl
theorem tok_word:Rows.fnExactTxnOkRow.wfByText (OpenSpec.ofChange Rows.fnExactTxnOkSpec)=true:=by kernel_rfl
theorem tok_main:Tryz.pinned.checked.prog.mainIs=some (true, "f24991978e6295c894a890655e0ecc553aa05473c15a0777228fe7461f33319a".toList):=by kernel_rfl
theorem tok_looks:true=Tryz.pinned.checked.prog.looks []:=by kernel_rfl
theorem tok_goes:false=Rows.fnExactTxnOkRow.goesBy Tryz.pinned.checked.prog:=by kernel_rfl
theorem tok_func:Tryz.pinned.checked.prog.funcNamed Rows.fnExactTxnOkRow.func=some 4:=by kernel_rfl
end Go.Proofs.YthiflhkcpanaaaaGreatDoor
namespace Go.Proofs.YthiflhkcpanaaaaGreatDoor
open Go.RowKit Go.ChangeShapes Go.WideShapes Go.Joins
section
variable {H:Type} {enc:TypeId × Value->H} {w:World} {base:Nat} {spare:Nat->Bool} {held:Bool} {v:Value}
theorem law_txn_cells:Tryz.prog.cellsOf 46=3/\Tryz.prog.cellsOf 3=1/\Tryz.prog.cellsOf 44=2/\Tryz.prog.cellsOf 39=1:=⟨by kernel_rfl,by kernel_rfl,by kernel_rfl,by kernel_rfl⟩
theorem read_txn {r:Reach} {b0:Nat} {d:DataW H} {p:List MemPlace} (hv:Value.okWide Tryz.prog w r b0 46 v) (h:DataW.Trod enc Tryz.prog w base spare held 46 v d p):∃ t:GX,TxnR Any w v t:=by
 obtain⟨e0,e1,e2,e3⟩:=law_txn_cells;obtain⟨cs,rfl,hsz⟩:=okWide_struct Tryz.underlying46 hv;obtain⟨c0,c1,c2,rfl⟩:=array3 (hsz.trans e0);obtain⟨fuel,hf⟩:=h;obtain⟨y0,y1,n,_,_,h0,h1⟩:=trod_struct2 Tryz.underlying46 hf;obtain⟨z0,z1,m,_,_,k0,k1⟩:=trod_struct2 Tryz.underlying44 h1;simp only[e1,e2,e3,Value.cells,List.drop_zero,List.take_succ_cons,List.take_zero,List.drop_succ_cons] at h0 k0 k1;obtain⟨z,q1,_⟩:=DataW.trod_int Tryz.underlying3 h0;obtain⟨xs,hxs⟩:=read_atoms k0;obtain⟨ys,hys⟩:=read_atoms k1;injection q1 with q1 _
 subst q1;exact⟨⟨z,⟨xs,ys⟩⟩,_,_,rfl,hxs,hys⟩
end
end Go.Proofs.YthiflhkcpanaaaaGreatDoor
namespace Go.Proofs.YthiflhkcpanaaaaGreatDoor
open Go.RowKit Go.ChangeShapes Go.WideShapes Go.ChangeAt
theorem tok_et:Tryz.prog.globalNamed "errors.errorType" = some 1:=by kernel_rfl
theorem tok_rt:(Tryz.prog.cutTypes.find? (·.1 == "internal/reflectlite.rtype")).map (·.2)=some 385:=by kernel_rfl
theorem tok_oneRow:((List.range Tryz.prog.types.size).filter fun t=>Tryz.prog.rowNamed t [101,114,114,111,114])=[220]:=by kernel_rfl
theorem tok_handle:typeHandle Tryz.prog 220=.pointer (some ⟨2,220,none⟩):=by kernel_rfl
theorem tok_err {W:World} (h:laidMetH Tryz.prog Rows.fnExactTxnOkRow.laid W):ErrIs W:=by
 have h':laidMet Tryz.prog [] W/\handlesMet Tryz.prog Rows.fnExactTxnOkRow.laid W:=h;obtain⟨name,u,ty,e1,e2,e3,e4,e5⟩:=h'.2 _ (List.mem_singleton.2 rfl);have en:name=[101,114,114,111,114]:=(Option.some.inj e1).symm;subst en;obtain rfl:=Option.some.inj (tok_rt.symm.trans e2);have hm:ty∈(List.range Tryz.prog.types.size).filter fun t=>Tryz.prog.rowNamed t [101,114,114,111,114]:=List.mem_filter.2 ⟨List.mem_range.2 e3,e4⟩
 rw[tok_oneRow] at hm;obtain rfl:=List.mem_singleton.1 hm;rw[tok_handle] at e5;simpa [ErrIs] using World.var?_cell tok_et e5 0
noncomputable def tok_world (os:Os):World :=
 let w0:=World.holding Tryz.prog os ⟨#[],#[],[]⟩
 { w0 with heap:=w0.heap.modify 1 fun
  | .cells _ t frozen=>.cells #[.iface 385 (.agg #[.pointer (some ⟨2,220,none⟩)])] t frozen
  | o=>o }
theorem tok_met (os:Os) (args:Array Value):laidMetH Tryz.prog Rows.fnExactTxnOkRow.laid ((tok_world os).forCall (fun _ _=>0) ⟨#[],args,[]⟩).memory :=
 laidMetH_of_parts (laidMet_nil _ _) (by kernel_rfl)
theorem tok_lifted (os:Os) (started:os.Started) (H:Type) (enc:TypeId × Value->H) :
  ReturnsInHanded {} Tryz.checked os 4 .any (fun w args=>(Rows.fnExactTxnOkSpec.pre enc Tryz.prog Tryz.f4 [] false w args/\laidMetH Tryz.prog Rows.fnExactTxnOkRow.laid w)/\sizedMet enc Tryz.prog Tryz.f4 (OpenSpec.ofChange Rows.fnExactTxnOkSpec) false w args)
   (Rows.fnExactTxnOkSpec.post enc Tryz.prog Tryz.f4 false true false false):=by
 refine returnsInHanded_of_change_and (C:=Tryz.checked) (X:=fun w _=>laidMetH Tryz.prog Rows.fnExactTxnOkRow.laid w) (fun _ _ _ hh h=>h.of_heap hh) law_own started (by kernel_rfl) Tryz.func4
  (ChangeSpec.witness_at (enc:=enc) (C:=Tryz.checked) (os:=os) (X:=fun w _=>laidMetH Tryz.prog Rows.fnExactTxnOkRow.laid w) false (tok_world os) #[.agg #[.slice none 0 0,.int .i64 0,.slice none 0 0,.slice none 0 0],.agg #[.int .i64 0,.slice none 0 0,.slice none 0 0]] 8 rfl (by kernel_rfl) (by kernel_rfl) (by kernel_rfl) (by kernel_rfl) (by kernel_rfl) (tok_met os _)) ?_
 intro W base args ds gs before hval0 hW _ _ hL _;have hval:∀ (j:Nat) t v,Tryz.f4.params[j]? = some t->args[j]? = some v->Value.okWide Tryz.prog W .any base t v:=hval0;have hW':=hW;obtain⟨p,q,hA0,hV,rfl,hfz,hnd⟩:=hW;have hA:DataW.TrodAll enc Tryz.prog W 0 (fun _=>true) true Tryz.f4.params.toList args.toList ds p:=hA0;rw[Tryz.params4] at hA hval;obtain⟨v0,v1,d0,d1,p0,p1,rfl,rfl,rfl,h0,h1⟩:=trodAll_two hA;obtain⟨rfl,rfl⟩:=trodVars_none hV;clear hA0 hval0;simp only[List.append_nil] at hW';obtain⟨B,hB⟩:=read_base (hval 0 42 v0 rfl rfl) h0;obtain⟨t,ht⟩:=read_txn (hval 1 46 v1 rfl rfl) h1;refine (exactTxnOk_any B t _ _ W hB ht (tok_err hL)).mono fun e W' ⟨he,hw⟩=>?_
 subst he;exact⟨_,rfl,law_post (t:=4) rfl rfl Tryz.underlying4 rfl law_laidOut (by rw[Tryz.params4];intro t ht;simp at ht;rcases ht with rfl|rfl<;>exact⟨by kernel_rfl,of_decide_eq_true (by kernel_rfl)⟩) hW' hw⟩
theorem tok_inst:Tryz.f4.isInstance Tryz.pinned.checked.prog Rows.fnExactTxnOkRow.origin Rows.fnExactTxnOkRow.targs:=of_decide_eq_true (by kernel_rfl)
theorem tok_wrap:Tryz.f4.isWrapper Tryz.pinned.checked.prog Rows.fnExactTxnOkRow.wrapper Rows.fnExactTxnOkRow.mainSum:=by
 unfold Func.isWrapper;rw[if_neg (of_decide_eq_false (by kernel_rfl))];exact⟨rfl,rfl⟩
theorem tok_row (os:Os) (started:os.Started) (H:Type) (enc:TypeId × Value->H) (_:∀ a b,enc a=enc b->a=b) :
  ReturnsInHanded Rows.fnExactTxnOkRow.assume Tryz.pinned.checked os 4 .any (Rows.fnExactTxnOkRow.pre enc Tryz.pinned.checked.prog Tryz.f4 (OpenSpec.ofChange Rows.fnExactTxnOkSpec)) (Rows.fnExactTxnOkSpec.post enc Tryz.pinned.checked.prog Tryz.f4 Rows.fnExactTxnOkRow.apart Rows.fnExactTxnOkRow.fresh Rows.fnExactTxnOkRow.handsOn Rows.fnExactTxnOkRow.again) :=
 tok_lifted os started H enc
theorem tok_open:Rows.fnExactTxnOkRow.holds Tryz.pinned (OpenSpec.ofChange Rows.fnExactTxnOkSpec) :=
 OpenClaim.holds_of_wide 4 Tryz.f4 rfl rfl rfl rfl rfl rfl rfl ⟨rfl,rfl,rfl,rfl,rfl⟩ rfl rfl rfl rfl rfl (by kernel_rfl) Tryz.func4 tok_closed tok_inst tok_wrap tok_row
theorem tok_said:Rows.FnExactTxnOkSaid:=tok_open
theorem tok_args:([42,46].all fun u=> !Tryz.pinned.checked.prog.wantsStandIn u)=true:=by kernel_rfl
theorem fnExactTxnOk_holds:Rows.FnExactTxnOkCardSaid :=
 Claim7.holds_tied_plain_at .later [] [.handle] true (true, "f24991978e6295c894a890655e0ecc553aa05473c15a0777228fe7461f33319a") true
  tok_said (fun _ h=>by cases h) tok_word (fun _ h=>by cases h) fnExactTxnOk_row_tie rfl ⟨rfl,rfl⟩ tok_main rfl
  (fun f fn hf hfn=>by
   obtain rfl:f=4:=Option.some.inj (tok_func.symm.trans hf) |>.symm
   obtain rfl:fn=Tryz.f4:=(Option.some.inj (Tryz.func4.symm.trans hfn)).symm
   exact ⟨tok_looks,fun j t ht=>by
    rw[Tryz.params4] at ht;have hm:t∈ [42,46]:=by simpa using Array.mem_of_getElem? ht
    exact (show Tryz.pinned.checked.prog.wantsStandIn t=false by simpa using List.all_eq_true.1 tok_args t hm)⟩)
  tok_goes
end Go.Proofs.YthiflhkcpanaaaaGreatDoor
