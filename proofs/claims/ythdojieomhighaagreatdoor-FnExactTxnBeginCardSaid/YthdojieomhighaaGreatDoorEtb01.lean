/- Own texts, joined. -/
import Derived.Test.YthdojieomhighaaGreatDoorRows
import Derived.Test.YthdojieomhighaaGreatDoorCas01
import Derived.ProofKit
import Derived.Deep.Slices
import Derived.Deep.Fields
import Derived.ChangeSame
import Derived.Test.YthdojieomhighaaGreatDoorCas04
import Derived.Test.YthdojieomhighaaGreatDoorCas07
import Derived.Laws.IdiomStrings
import Derived.Lib.ItoaNum
import Derived.Deep.RegionWith
import Derived.IntWalk
import Derived.Test.YthdojieomhighaaGreatDoorCas02
import Derived.Test.YthdojieomhighaaGreatDoorCas33
set_option linter.unusedSimpArgs false
set_option linter.unusedVariables false
set_option maxHeartbeats 4000000
set_option maxRecDepth 100000
namespace Go.Proofs.YthdojieomhighaaGreatDoor
open Go.RowKit Go.ChangeShapes Go.WideShapes Go.Deep
section
variable {H:Type} {enc:TypeId × Value→H} {P:Program} {w:World} {base:Nat} {spare:Nat→Bool} {held:Bool}
theorem drop_cons' {α:Type} {l:List α} {k:Nat} {x:α} (h:l[k]? = some x):l.drop k=x :: l.drop (k+1):=by
 obtain⟨hk,rfl⟩:=List.getElem?_eq_some_iff.1 h;exact List.drop_eq_getElem_cons hk
theorem cell_addr {w:World} {a:Addr} {u:Value} (h:w.cell? a=some u):a=⟨a.block,a.off,none⟩:=by
 obtain⟨b,o,s⟩:=a
 cases s with
 | none=>rfl
 | some s=>simp only[World.cell?] at h;split at h<;>simp at h
theorem open_rows {t e:TypeId} {fs:Array Field} {fuel:Nat} {v:Value} {x:DataW H × List MemPlace} (ht:P.underlying t=some (.slice e)) (he:P.underlying e=some (.struct fs))
  (hone:oneCellFields P fs=true) (hC:P.cellsOf e=fs.size) (hfs:0<fs.size) (h:DataW.trod enc P w base spare held fuel t [v]=some x) :
  ∃ (A : Option Addr) (n c:Nat),v=.slice A n c∧n≤c∧c≤maxLen ∧
    (0 < n→∃ b off,A=some ⟨b,off,none⟩∧b<w.heap.size∧∀ i,i<n→∃ (k:Nat) (cs:List Value),cs.length=fs.size∧(∀ (j:Nat) (u:Value),cs[j]? = some u→w.cell? ⟨b,off+(i*fs.size+j),none⟩=some u) ∧
     ∀ (j:Nat) (f:Field) (u:Value),fs[j]? = some f→cs[j]? = some u→∃ y,DataW.trod enc P w base spare held k f.type [u]=some y):=by
 rcases open_slice ht h with ⟨hcs,_⟩|⟨a,len,cap,m,n,D,Pl,hcs,hb,hl,hm,hmm,hx,hi⟩
 · injection hcs with hv _
   subst hv;exact⟨none,0,0,rfl,Nat.le_refl _,Nat.zero_le _,fun h=>absurd h (by omega)⟩
 injection hcs with hv _
 subst hv;refine⟨some a,len,cap,rfl,hl,hm,fun h0=>?_⟩;have hml:len≤m:=by rw[hmm];split<;>omega
 have key:∀ i,i<len→∃ (k:Nat) (cs:List Value),cs.length=fs.size∧(∀ (j:Nat) (u:Value),cs[j]? = some u→w.cell? (a.add (i*fs.size+j))=some u) ∧
   ∀ (j:Nat) (f:Field) (u:Value),fs[j]? = some f→cs[j]? = some u→∃ y,DataW.trod enc P w base spare held k f.type [u]=some y:=by
  intro i hilt;obtain⟨cs',hc,ht'⟩:=hi i (by omega);rw[hC] at hc;obtain⟨ys,n',hn',hy,hlen,hyl,hf⟩:=DataW.trod_struct he ht';obtain⟨_,hcl,hat⟩:=World.cells?_some hc;refine⟨n',cs',hcl,fun j u hu=>?_,fun j f u hj hu=>?_⟩
  · have hjl:j<fs.size:=by rw[← hcl];exact (List.getElem?_eq_some_iff.1 hu).1
    rw[← Go.Deep.add_add,hat j hjl,hu]
  obtain⟨ho,hk⟩:=hone_of hone j f hj;have hjl:j<fs.size:=(Array.getElem?_eq_some_iff.1 hj).1;have h1:=hf j f hj;rw[ho,hk] at h1
  have hone':(cs'.drop j).take 1=[u]:=by
   rw[drop_cons' hu]
   rfl
  rw[hone'] at h1;have hys:ys[j]? = some (ys[j]'(by omega)):=List.getElem?_eq_getElem (by omega);exact⟨_,h1.trans hys⟩
 obtain⟨k0,cs0,hl0,hc0,_⟩:=key 0 h0;have h00:=hc0 0 (cs0[0]'(by omega)) (List.getElem?_eq_getElem (by omega));rw[Nat.zero_mul,Nat.add_zero] at h00;have ha0:a.add 0=a:=by simp[Addr.add]
 rw[ha0] at h00;have haa:=cell_addr h00
 have hadd:∀ n,a.add n=⟨a.block,a.off+n,none⟩:=by
  intro n;unfold Addr.add;split
  · rename_i h;subst h;rw[Nat.add_zero];exact haa
  rfl
 refine⟨a.block,a.off,by rw[← haa],?_,fun i hilt=>?_⟩
 · rw[haa] at h00;exact jcm h00
 obtain⟨k,cs,hl1,hc1,hf1⟩:=key i hilt;exact⟨k,cs,hl1,fun j u hu=>by rw[← hadd];exact hc1 j u hu,hf1⟩
end
section
variable {H:Type} {enc:TypeId × Value→H} {w:World} {base:Nat} {spare:Nat→Bool} {held:Bool} {fuel:Nat} {v:Value} {x:DataW H × List MemPlace}
theorem read_terms (h:DataW.trod enc Tryz.prog w base spare held fuel 130 [v]=some x):∃ xs:List GT,jae Any w v xs:=by
 obtain⟨A,n,c,rfl,h1,h2,h3⟩:=open_rows Tryz.underlying130 Tryz.underlying247 (by kernel_rfl) (by kernel_rfl) (by decide) h;by_cases h0:0<n
 · obtain ⟨b,off,hA,hb,hrow⟩:=h3 h0
   obtain ⟨xs,hl,hr⟩:=ja7 (fun i (t:GT)=>w.cell? ⟨b,off+(i*2+0),none⟩=some (.bool t.v)∧w.cell? ⟨b,off+(i*2+1),none⟩=some (.string t.n)∧t.n.size≤maxLen) n 0 (fun i hi=>by
    rw[Nat.zero_add];obtain⟨k,cs,hcl,hc,hf⟩:=hrow i hi
    match cs,hcl with
    | [c0,c1],_ =>
      obtain⟨y0,hy0⟩:=hf 0 _ c0 rfl rfl;obtain⟨y1,hy1⟩:=hf 1 _ c1 rfl rfl;obtain⟨bv,e0,_⟩:=DataW.trod_bool Tryz.underlying4 hy0;obtain⟨s,e1,_,hs⟩:=DataW.trod_string Tryz.underlying9 hy1;injection e0 with e0 _
      injection e1 with e1 _
      subst e0;subst e1;exact⟨⟨bv,s⟩,hc 0 _ rfl,hc 1 _ rfl,hs⟩)
   refine⟨xs,A,c,by rw[hl],by rw[hl];exact h1,h2,fun _=>⟨b,off,hA,hb,trivial,fun i x hx=>?_⟩⟩;obtain⟨r0,r1,r2⟩:=hr i x hx;rw[Nat.zero_add] at r0 r1;refine⟨[.bool x.v,.string x.n],rfl,fun j u hu=>?_,rfl,r2⟩
   match j,hu with
   | 0,hu=>simp at hu;subst hu;exact r0
   | 1,hu=>simp at hu;subst hu;exact r1
 obtain rfl:n=0:=by omega
 exact⟨[],jaa.nil_ c h2 A⟩
theorem read_atoms (h:DataW.trod enc Tryz.prog w base spare held fuel 23 [v]=some x):∃ xs:List GA,jac Any w v xs:=by
 obtain⟨A,n,c,rfl,h1,h2,h3⟩:=open_rows Tryz.underlying23 Tryz.underlying132 (by kernel_rfl) (by kernel_rfl) (by decide) h;by_cases h0:0<n
 · obtain ⟨b,off,hA,hb,hrow⟩:=h3 h0
   obtain ⟨xs,hl,hr⟩:=ja7 (fun i (a:GA)=>∃ u,w.cell? ⟨b,off+(i*2+0),none⟩=some (.string a.n)∧w.cell? ⟨b,off+(i*2+1),none⟩=some u∧a.n.size≤maxLen∧jae Any w u a.args) n 0 (fun i hi=>by
    rw[Nat.zero_add];obtain⟨k,cs,hcl,hc,hf⟩:=hrow i hi
    match cs,hcl with
    | [c0,c1],_ =>
      obtain⟨y0,hy0⟩:=hf 0 _ c0 rfl rfl;obtain⟨y1,hy1⟩:=hf 1 _ c1 rfl rfl;obtain⟨s,e1,_,hs⟩:=DataW.trod_string Tryz.underlying9 hy0;obtain⟨ts,ht⟩:=read_terms hy1;injection e1 with e1 _
      subst e1;exact⟨⟨s,ts⟩,c1,hc 0 _ rfl,hc 1 _ rfl,hs,ht⟩)
   refine⟨xs,A,c,by rw[hl],by rw[hl];exact h1,h2,fun _=>⟨b,off,hA,hb,trivial,fun i x hx=>?_⟩⟩;obtain⟨u,r0,r1,r2,r3⟩:=hr i x hx;rw[Nat.zero_add] at r0 r1;refine⟨[.string x.n,u],rfl,fun j y hy=>?_,u,rfl,r2,r3⟩
   match j,hy with
   | 0,hy=>simp at hy;subst hy;exact r0
   | 1,hy=>simp at hy;subst hy;exact r1
 obtain rfl:n=0:=by omega
 exact⟨[],jaa.nil_ c h2 A⟩
end
end Go.Proofs.YthdojieomhighaaGreatDoor
namespace Go.Proofs.YthdojieomhighaaGreatDoor
open Go.RowKit
section
variable {α:Type} {k:Kind α} {S S':Nat→Prop} {w w':World} {v:Value} {xs:List α}
theorem jad.nil (c:Nat) (hc:c≤maxLen) (A:Option Addr):jad k S w (.slice A 0 c) ([]:List α):=⟨A,c,rfl,Nat.zero_le _,hc,fun h=>absurd h (by simp)⟩
theorem jad.low (h:jad k S w v xs):jad k (fun b=>S b∧b<w.heap.size) w v xs:=h.imp (fun _ hb hlt=>⟨hb,hlt⟩) (.refl _ _) (Nat.le_refl _)
theorem jad.update {A:Option Addr} {n c:Nat} (h:jad k S w (.slice A n c) xs) {i:Nat} (hi:i<n) :
  ∃ (b off:Nat) (F:Nat→Prop) (x:α) (cs:List Value),A=some ⟨b,off,none⟩∧b<w.heap.size∧S b∧xs[i]? = some x∧(∀ j,j<k.size→w.frozen? ⟨b,off+(i*k.size+j),none⟩=false)∧(∀ m,F m→S m∧m≠b∧m<w.heap.size) ∧
    cs.length=k.size∧(∀ (j:Nat) (u:Value),cs[j]? = some u→w.cell? ⟨b,off+(i*k.size+j),none⟩=some u)∧k.E F w cs x ∧
    ∀ (w':World) (cs':List Value) (y:α),w.heap.size≤w'.heap.size→(∀ m,m≠b→¬ F m→m<w.heap.size→w'.heap[m]? = w.heap[m]?) →
      (∀ o,(o<off+i*k.size∨off+(i+1)*k.size≤o)→w'.cell? ⟨b,o,none⟩=w.cell? ⟨b,o,none⟩)→(∀ o,w'.frozen? ⟨b,o,none⟩=w.frozen? ⟨b,o,none⟩) →
      cs'.length=k.size→(∀ (j:Nat) (u:Value),cs'[j]? = some u→w'.cell? ⟨b,off+(i*k.size+j),none⟩=some u)→k.E F w' cs' y→jad k S w' (.slice A n c) (xs.set i y):=by
 obtain⟨A',c',hv,h1,h2,h3⟩:=h;injection hv with hA hn hc
 subst hA;subst hn;subst hc;obtain⟨b,off,F,ha,hb,hs,hfr,hF,hdis,hcell⟩:=h3 (by omega);obtain⟨cs,hl,hcs,hEx⟩:=hcell i xs[i] (List.getElem?_eq_getElem hi)
 have hrow:∀ i' j,j<k.size→i'<i→off+(i'*k.size+j)<off+i*k.size:=fun i' j hj hlt=>by
  have:(i'+1)*k.size≤i*k.size:=Nat.mul_le_mul_right _ hlt;rw[Nat.add_mul] at this;omega
 have hrow2:∀ i' j,i<i'→off+(i+1)*k.size≤off+(i'*k.size+j):=fun i' j hlt=>by
  have:(i+1)*k.size≤i'*k.size:=Nat.mul_le_mul_right _ hlt;omega
 refine⟨b,off,F i,xs[i],cs,ha,hb,hs,List.getElem?_eq_getElem hi,fun j hj=>hfr _ ?_,fun m hm=>hF i m hm,hl,hcs,hEx,fun w' cs' y hsz hoth hout hfrz hl' hcs' hE'=>?_⟩
 · calc i*k.size+j<i*k.size+k.size:=by omega
     _=(i+1)*k.size:=by rw[Nat.add_mul,Nat.one_mul]
     _≤xs.length*k.size:=Nat.mul_le_mul_right _ hi
 have hlen:(xs.set i y).length=xs.length:=List.length_set;refine⟨A,c,by rw[hlen],by rw[hlen];exact h1,h2,fun _=>⟨b,off,F,ha,Nat.lt_of_lt_of_le hb hsz,hs,fun j hj=>(hfrz _).trans (hfr j (by rw[hlen] at hj;exact hj)),fun i' m hm=>⟨(hF i' m hm).1,(hF i' m hm).2.1,Nat.lt_of_lt_of_le (hF i' m hm).2.2 hsz⟩,hdis,fun i' z hz=>?_⟩⟩;by_cases hii:i'=i
 · subst hii
   rw[List.getElem?_set_self hi] at hz;injection hz with hz
   subst hz;exact⟨cs',hl',hcs',hE'⟩
 rw[List.getElem?_set_ne (Ne.symm hii)] at hz;obtain⟨cs2,hl2,hcs2,hE2⟩:=hcell i' z hz;refine⟨cs2,hl2,fun j u hu=>?_,k.imp hE2 (fun _ h _=>h) (fun m hm hlt=>hoth m (hF i' m hm).2.1 (fun e=>hii (hdis _ _ _ hm e)) hlt) hsz⟩;have hj:j<k.size:=by rw[← hl2];exact (List.getElem?_eq_some_iff.1 hu).1
 rw [hout _ (by
  rcases Nat.lt_or_gt_of_ne hii with hlt|hlt
  · exact .inl (hrow i' j hj hlt)
  exact .inr (hrow2 i' j hlt))]
 exact hcs2 j u hu
end
section
variable {α:Type} {k:Kind α} {S S' T:Nat→Prop} {w w':World} {v:Value} {xs ys:List α} {base:Nat} {e:TypeId}
end
end Go.Proofs.YthdojieomhighaaGreatDoor
namespace Go.Proofs.YthdojieomhighaaGreatDoor
open Go.RowKit
theorem strOf_append (l m:List UInt8):strOf l++strOf m=strOf (l++m):=by
 apply ByteArray.ext
 show (strOf l++strOf m).data=_;rw[ByteArray.data_append];simp[strOf]
theorem byte_string {w:World} {g:Nat} {t:TypeId} (c:Nat) (hc:c<256) (hb:Blk w g t #[.int .u8 (c:Int)]) :
  (convert 37 9 (.slice (some ⟨g,0,none⟩) 1 1)).run Tryz.prog w=.ok (.string ⟨#[UInt8.ofNat c]⟩) w:=by
 have h:=run_convert_bytes_back (P:=Tryz.prog) w 37 9 5 ⟨g,0,none⟩ 1 [UInt8.ofNat c] Tryz.underlying37 Tryz.underlying5 Tryz.underlying9 (fun j hj=>by
  simp at hj;subst hj;have hadd:(⟨g,0,none⟩:Addr).add 0=⟨g,0,none⟩:=by simp[Addr.add]
  rw[hadd,hb.cell];simp;omega)
 exact h
theorem dec_len (z:Nat) (h:z≤1000000000):(Lib.decDigits z).length≤10:=by
 rw[Lib.decDigits_length]
 have key:∀ k u,u<10 ^ k→1≤k→Lib.nDigits u≤k:=by
  intro k
  induction k with
  | zero=>intro u _ h;omega
  | succ k ih =>
    intro u hu _;by_cases h1:u<10
    · rw[Lib.nDigits_small h1];omega
    rw[Lib.nDigits_big h1];have:u / 10<10 ^ k:=by rw[Nat.pow_succ] at hu;omega
    have hk:1≤k:=by
     rcases Nat.eq_zero_or_pos k with h2|h2
     · subst h2;simp at hu;omega
     exact h2
    have:=ih (u / 10) this hk;omega
 exact key 10 z (by omega) (by omega)
theorem u8_wrap {z:Int} (h0:0≤z) (h:z<256):IntKind.u8.wrap z=z:=by
 unfold IntKind.wrap;simp[IntKind.bits,IntKind.signed];omega
end Go.Proofs.YthdojieomhighaaGreatDoor
namespace Go.Proofs.YthdojieomhighaaGreatDoor
open Go.RowKit
section
variable {S T:Nat→Prop} {a b c:World}
end
theorem frozen_set (w:World) (p a:Addr) (u:Value):(w.setCell p u).frozen? a=w.frozen? a:=by
 by_cases h:a.block=p.block
 · unfold World.frozen? World.setCell
   simp only[Array.getElem?_modify];by_cases hb:p.block=a.block
   · simp only [hb,if_true]
     cases w.heap[a.block]? with
     | none=>rfl
     | some o=>cases o<;>(try rfl)<;>(simp only[Option.map_some];split<;>rfl)
   exact absurd h.symm hb
 exact World.frozen?_of_block (Below.heap_setCell w p u a.block h)
def mtext (k:Nat):ByteArray:=strOf (109 :: Lib.decDigits k)
def mTerm (k:Nat):GT:=⟨((k:Int) % 3 == 0),mtext (k+1)⟩
def mTerms (k n:Nat):List GT:=(List.range n).map fun i=>mTerm (k+2*i)
theorem mTerms_len (k n:Nat):(mTerms k n).length=n:=by simp[mTerms]
theorem mTerms_at (k n i:Nat) (h:i<n):(mTerms k n)[i]? = some (mTerm (k+2*i)):=by simp[mTerms,h]
theorem mTerms_succ (k i:Nat):mTerms k (i+1)=mTerms k i++[mTerm (k+2*i)]:=by simp[mTerms,List.range_succ]
theorem mTerms_step {xs:List GT} {k i:Nat} (h:i<xs.length):(mTerms k i++xs.drop i).set i (mTerm (k+2*i))=mTerms k (i+1)++xs.drop (i+1):=by
 have hl:=mTerms_len k i;rw[List.set_append_right _ _ (by omega),hl,Nat.sub_self,List.drop_eq_getElem_cons h,List.set_cons_zero,mTerms_succ,List.append_assoc]
 rfl
def costA (a:GA):Nat:=1+2*a.args.length
def costAs (l:List GA):Nat:=(l.map costA).sum
def mAtom (k:Nat) (a:GA):GA:=⟨mtext k,mTerms (k+1) a.args.length⟩
def mAtoms:Nat→List GA→List GA
 | _,[]=>[]
 | k,a :: l=>mAtom k a :: mAtoms (k+costA a) l
theorem mAtoms_len:∀ (k:Nat) (l:List GA),(mAtoms k l).length=l.length
 | _,[]=>rfl
 | k,a :: l=>by simp[mAtoms,mAtoms_len (k+costA a) l]
theorem mAtoms_snoc:∀ (k:Nat) (l:List GA) (a:GA),mAtoms k (l++[a])=mAtoms k l++[mAtom (k+costAs l) a]
 | k,[],a=>by simp[mAtoms,costAs]
 | k,b :: l,a=>by
   have ih:=mAtoms_snoc (k+costA b) l a;simp only[List.cons_append,mAtoms,ih,costAs,List.map_cons,List.sum_cons];rw[Nat.add_assoc]
theorem costAs_snoc (l:List GA) (a:GA):costAs (l++[a])=costAs l+costA a:=by simp[costAs]
theorem mAtoms_step {xs:List GA} {k i:Nat} {x:GA} (h:xs[i]? = some x):(mAtoms k (xs.take i)++xs.drop i).set i (mAtom (k+costAs (xs.take i)) x)=mAtoms k (xs.take (i+1))++xs.drop (i+1):=by
 obtain⟨hi,rfl⟩:=List.getElem?_eq_some_iff.1 h;have hl:(mAtoms k (xs.take i)).length=i:=by rw[mAtoms_len,List.length_take];omega
 rw[List.set_append_right _ _ (by omega),hl,Nat.sub_self,List.drop_eq_getElem_cons hi,List.set_cons_zero,List.take_succ_eq_append_getElem hi,mAtoms_snoc,List.append_assoc]
 rfl
theorem mAtoms_at:∀ (k:Nat) (l:List GA) (i:Nat) (x:GA),l[i]? = some x→(mAtoms k l)[i]? = some (mAtom (k+costAs (l.take i)) x)
 | _,[],i,x,h=>by simp at h
 | k,a :: l,0,x,h=>by simp at h;subst h;simp[mAtoms,costAs]
 | k,a :: l,i+1,x,h=>by
   have ih:=mAtoms_at (k+costA a) l i x (by simpa using h);simp only[mAtoms,List.getElem?_cons_succ,ih,List.take_succ_cons,costAs,List.map_cons,List.sum_cons];rw[Nat.add_assoc]
theorem costAs_take {xs:List GA} {i:Nat} {x:GA} (h:xs[i]? = some x):costAs (xs.take (i+1))=costAs (xs.take i)+costA x:=by
 obtain⟨hi,rfl⟩:=List.getElem?_eq_some_iff.1 h;rw[List.take_succ_eq_append_getElem hi,costAs_snoc]
theorem costAs_take_le (xs:List GA) (i:Nat):costAs (xs.take i)≤costAs xs:=by
 have h:costAs xs=costAs (xs.take i)+costAs (xs.drop i):=by
  unfold costAs;rw[← List.sum_append,← List.map_append,List.take_append_drop]
 omega
theorem ja8.upd {S:Nat→Prop} {w:World} {A:Option Addr} {n c:Nat} {xs:List GT} (h:ja8 S w (.slice A n c) xs) {i:Nat} (hi:i<n) :
  ∃ (b off:Nat) (x:GT),A=some ⟨b,off,none⟩∧b<w.heap.size∧S b∧xs[i]? = some x ∧
    w.frozen? ⟨b,off+i*2,none⟩=false∧w.frozen? ⟨b,off+i*2+1,none⟩=false∧w.cell? ⟨b,off+i*2,none⟩=some (.bool x.v)∧w.cell? ⟨b,off+i*2+1,none⟩=some (.string x.n) ∧
    ∀ (w1:World) (y:GT),Ext (w.setCell ⟨b,off+i*2,none⟩ (.bool y.v)) w1→y.n.size≤maxLen→ja8 S (w1.setCell ⟨b,off+i*2+1,none⟩ (.string y.n)) (.slice A n c) (xs.set i y):=by
 obtain⟨b,off,F,x,cs,rfl,hb,hs,hx,hfr,hF,hl,hcs,hE,hup⟩:=jad.update h hi;obtain⟨rfl,hxs⟩:=hE;have c0:=hcs 0 _ rfl;have c1:=hcs 1 _ rfl;have f0:=hfr 0 (by decide);have f1:=hfr 1 (by decide);refine⟨b,off,x,rfl,hb,hs,hx,f0,f1,c0,c1,fun w1 y he hy=>?_⟩;have hsz:=he.size;have hb1:b<w1.heap.size:=by simp[World.setCell] at hsz;omega
 have d1:w1.cell? ⟨b,off+i*2+1,none⟩=some (.string x.n):=by
  have h1:=he.cells.1 b (off+i*2+1) (by simp[World.setCell];exact hb);rw[h1,World.cell?_setCell_other _ _ _ _ (by simp)];exact c1
 have d0:w1.cell? ⟨b,off+i*2,none⟩=some (.bool y.v):=by
  have h1:=he.cells.1 b (off+i*2) (by simp[World.setCell];exact hb);rw[h1];exact World.cell?_setCell_same _ _ _ c0
 refine hup _ [.bool y.v,.string y.n] y (by simp[World.setCell] at hsz ⊢;omega) (fun m hm _ hlt=>?_) (fun o ho=>?_) (fun o=>?_) rfl (fun j u hu=>?_) ⟨rfl,hy⟩
 · rw[Below.heap_setCell _ _ _ _ hm,he.block m (by simp[World.setCell];exact hlt),Below.heap_setCell _ _ _ _ hm]
 · have e1:o≠off+i*2:=by
     rcases ho with ho|ho
     · have:o<off+i*2:=ho
       omega
     have:off+(i+1)*2≤o:=ho;omega
   have e2:o≠off+i*2+1:=by
    rcases ho with ho|ho
    · have:o<off+i*2:=ho
      omega
    have:off+(i+1)*2≤o:=ho;omega
   rw[World.cell?_setCell_other _ _ _ _ (fun e=>e2 (congrArg Addr.off e).symm),he.cells.1 b o (by simp[World.setCell];exact hb),World.cell?_setCell_other _ _ _ _ (fun e=>e1 (congrArg Addr.off e).symm)]
 · rw[frozen_set,he.cells.2 b o (by simp[World.setCell];exact hb),frozen_set]
 match j,hu with
 | 0,hu =>
   simp at hu;subst hu;show (w1.setCell _ _).cell? ⟨b,off+(i*2+0),none⟩=_;rw[Nat.add_zero,World.cell?_setCell_other _ _ _ _ (by simp)];exact d0
 | 1,hu =>
   simp at hu;subst hu;exact World.cell?_setCell_same _ _ _ d1
theorem jba.upd {S:Nat→Prop} {w:World} {A:Option Addr} {n c:Nat} {xs:List GA} (h:jba S w (.slice A n c) xs) {i:Nat} (hi:i<n) :
  ∃ (b off:Nat) (F:Nat→Prop) (x:GA) (u:Value),A=some ⟨b,off,none⟩∧b<w.heap.size∧S b∧xs[i]? = some x∧(∀ m,F m→S m∧m≠b∧m<w.heap.size) ∧
    w.frozen? ⟨b,off+i*2,none⟩=false∧w.cell? ⟨b,off+i*2,none⟩=some (.string x.n)∧w.cell? ⟨b,off+i*2+1,none⟩=some u∧ja8 F w u x.args ∧
    ∀ (w1 w2:World) (y:GA),Ext w w1→jab F (w1.setCell ⟨b,off+i*2,none⟩ (.string y.n)) w2→y.n.size≤maxLen→ja8 F w2 u y.args→jba S w2 (.slice A n c) (xs.set i y):=by
 obtain⟨b,off,F,x,cs,rfl,hb,hs,hx,hfr,hF,hl,hcs,hE,hup⟩:=jad.update h hi;obtain⟨u,rfl,hxs,ht⟩:=hE;have c0:=hcs 0 _ rfl;have c1:=hcs 1 _ rfl;have f0:=hfr 0 (by decide);refine⟨b,off,F,x,u,rfl,hb,hs,hx,hF,f0,c0,c1,ht,fun w1 w2 y he hin hy ht2=>?_⟩;have hsz:=he.size;have hsz2:=hin.size;have hnF:¬ F b:=fun h=>(hF b h).2.1 rfl
 have hb1:b<w1.heap.size:=by omega
 have e0:w1.cell? ⟨b,off+i*2,none⟩=some (.string x.n):=(he.cells.1 b _ hb).trans c0;have hblk:w2.heap[b]? = (w1.setCell ⟨b,off+i*2,none⟩ (.string y.n)).heap[b]? :=hin.block b (by simp[World.setCell];exact hb1) hnF;have hcell:∀ o,w2.cell? ⟨b,o,none⟩=(w1.setCell ⟨b,off+i*2,none⟩ (.string y.n)).cell? ⟨b,o,none⟩:=fun o=>World.cell?_of_block hblk
 have hfroz:∀ o,w2.frozen? ⟨b,o,none⟩=(w1.setCell ⟨b,off+i*2,none⟩ (.string y.n)).frozen? ⟨b,o,none⟩:=fun o=>World.frozen?_of_block hblk
 refine hup _ [.string y.n,u] y (by simp[World.setCell] at hsz2;omega) (fun m hm hn hlt=>?_) (fun o ho=>?_) (fun o=>?_) rfl (fun j v hv=>?_) ⟨u,rfl,hy,ht2⟩
 · rw[hin.block m (by simp[World.setCell];omega) hn,Below.heap_setCell _ _ _ _ hm,he.block m hlt]
 · have e1:o≠off+i*2:=by
     rcases ho with ho|ho
     · have:o<off+i*2:=ho
       omega
     have:off+(i+1)*2≤o:=ho;omega
   rw[hcell,World.cell?_setCell_other _ _ _ _ (fun e=>e1 (congrArg Addr.off e).symm),he.cells.1 b o hb]
 · rw[hfroz,frozen_set,he.cells.2 b o hb]
 match j,hv with
 | 0,hv =>
   simp at hv;subst hv;show w2.cell? ⟨b,off+(i*2+0),none⟩=_;rw[Nat.add_zero,hcell];exact World.cell?_setCell_same _ _ _ e0
 | 1,hv =>
   simp at hv;subst hv;show w2.cell? ⟨b,off+(i*2+1),none⟩=_;rw[hcell,World.cell?_setCell_other _ _ _ _ (by simp),he.cells.1 b _ hb];exact c1
end Go.Proofs.YthdojieomhighaaGreatDoor
namespace Go.Proofs.YthdojieomhighaaGreatDoor
open Go.RowKit
def decOf (n:Nat):List UInt8:=if n=0 then [] else Lib.decDigits n
theorem decOf_pos {n:Nat} (h:0<n):decOf n=decOf (n / 10)++[UInt8.ofNat (48+n % 10)]:=by
 unfold decOf;rw[if_neg (by omega)];by_cases h1:n<10
 · rw[if_pos (by omega),Lib.decDigits_one h1,Nat.mod_eq_of_lt h1];rfl
 rw[if_neg (by omega),Lib.decDigits,dif_neg h1]
theorem markText_any (k:Nat) (w:World) (h1:1≤k) (h2:k≤1000000000) :
  Calls Tryz.prog 93 #[.int .i64 k] w fun e w'=>e=.returned (.string (mtext k))∧Ext w w':=by
 have g0:decide ((k:Int)≤0)=false:=decide_eq_false (by omega)
 go_enter Tryz.func93,Tryz.ntmps93;go_wp2;go_loopw [0,3] (fun i s wr=>∃ (n:Nat) (l:List UInt8),i=.int .i64 n∧s=.string (strOf l)∧n≤k∧Hid (decOf n++l=Lib.decDigits k)∧Ext w wr) (fun i _ _=>(intOf i).toNat)
 case atStart=>exact⟨k,[],rfl,rfl,Nat.le_refl _,by show _=_;unfold decOf;rw[if_neg (by omega),List.append_nil],Ext.refl _⟩
 case round =>
  obtain⟨n,l,rfl,rfl,hn,hp,hx⟩:=hrel
  have hl:l.length≤10:=by
   have:=congrArg List.length hp.out;rw[List.length_append] at this;have:=dec_len k h2;omega
  have hls:(strOf l).size≤10:=by rw[jdq];exact hl
  by_cases h0:0<n
  · have hb:=byte_string (w:=wr.alloc (.cells #[.int .u8 ((48+n % 10:Nat):Int)] 5)) (48+n % 10) (by omega) (Blk.new _ _ _)
    rw[show ((48+n % 10:Nat):Int)=48+(n:Int) % 10 from by omega] at hb;obtain⟨c,hc⟩:∃ c:ByteArray,c=⟨#[UInt8.ofNat (48+n % 10)]⟩:=⟨_,rfl⟩
    have hcs:c.size≤10:=by rw[hc];simp[ByteArray.size]
    have HC:=zh (show c++strOf l=strOf (UInt8.ofNat (48+n % 10) :: l) from by rw[hc,show (⟨#[UInt8.ofNat (48+n % 10)]⟩:ByteArray)=strOf [UInt8.ofNat (48+n % 10)] from rfl,strOf_append];rfl);have HP:=zh (show decOf (n / 10)++(UInt8.ofNat (48+n % 10) :: l)=Lib.decDigits k from by rw[← hp.out,decOf_pos h0,List.append_assoc];rfl);rw[← hc] at hb;have hm0:0≤(n:Int) % 10:=by omega
    have hm1:(n:Int) % 10<10:=by omega
    have hw:IntKind.u8.wrap (48+(n:Int) % 10)=48+(n:Int) % 10:=u8_wrap (by omega) (by omega);clear hc hp hl;go_wp2;go_roundw
    case rel=>exact⟨n / 10,_,by simp,by rw[HC.out],by omega,HP,hx.alloc _⟩
    case measure=>simp[intOf];omega
  have HF:=zh (show strOf (109 :: l)=mtext k from by
    have:=hp.out;rw[show n=0 from by omega] at this;unfold mtext;rw[← this];rfl)
  clear hp;go_wp2;go_ret;refine⟨?_,hx⟩;refine Eq.trans ?_ (jsb (a:=⟨#[109]⟩++strOf l) ?_)
  · rfl
  rw[← HF.out,show (⟨#[109]⟩:ByteArray)=strOf [109] from rfl,strOf_append];rfl
theorem mtext_max (k:Nat) (h:k≤1000000000):(mtext k).size≤maxLen:=by
 unfold mtext;rw[jdq];have:=dec_len k h;exact maxOf (by simp;omega)
theorem markTermS_any (v:Value) (xs:List GT) (k:Nat) (w:World) {S:Nat→Prop} (hv:ja8 S w v xs) (h1:1≤k) (h2:k+2*xs.length≤100000000) :
  Calls Tryz.prog 94 #[v,.int .i64 k] w fun e w'=>(∃ q:Nat,q=k+2*xs.length∧e=.returned (.int .i64 q))∧ja8 S w' v (mTerms k xs.length)∧jab S w w':=by
 obtain⟨A,c,rfl,hc1,hc2⟩:=jad.form hv;have HV:=zh hv;clear hv
 go_enter Tryz.func94,Tryz.ntmps94;go_wp2;go_loopw [1,5] (fun kk i wr=>∃ (j q:Nat),j≤xs.length∧i=.int .i64 j∧kk=.int .i64 q∧q≤100000000∧1≤q∧Hid (q=k+2*j)∧Hid (ja8 S wr (.slice A xs.length c) (mTerms k j++xs.drop j))∧Hid (jab S w wr)) (fun _ i _=>xs.length-(intOf i).toNat)
 case atStart=>exact⟨0,k,Nat.zero_le _,rfl,rfl,by omega,h1,by show _=_;omega,HV,jab.refl _ _⟩
 case round =>
  obtain⟨j,q,hj,rfl,rfl,hq1,hq2,hq,ht,hin⟩:=hrel;by_cases hlt:j<xs.length
  · obtain ⟨b,off,x,rfl,hb,hs,hx,f0,f1,c0,c1,hup⟩:=ja8.upd ht.out (i:=j) hlt
    have HU:=zh hup;have HS:=zh hs;have hq3:q+2≤100000000:=by have:=hq.out;omega
    have HN:=zh (mTerms_step (k:=k) hlt);have HM:=zh (fun (W:World)=>markText_any (q+1) W (by omega) (by omega));clear hup hs hx;go_wp2_with (go_at_call 93;refine (HM.out _).mono ?_;rintro e w1 ⟨rfl,hx1⟩;have hz1:=hx1.size;have d1:=(hx1.cells.1 b (off+j*2+1) (by go_size)).trans ((World.cell?_setCell_other _ _ _ _ (by simp)).trans c1);have e1:=(hx1.cells.2 b (off+j*2+1) (by go_size)).trans ((frozen_set _ _ _ _).trans f1);have HX1:=zh hx1;clear hx1)
    go_roundw
    case rel =>
     have hT:=HU.out w1 (mTerm (k+2*j)) (by rw[← hq.out];exact HX1.out) (mtext_max _ (by have:=hq.out;omega));rw[HN.out,← hq.out] at hT;refine⟨j+1,q+1+1,by omega,by go_num,by go_num,by omega,by omega,by have:=hq.out;show _=_;omega,hT,?_⟩;exact (hin.out.trans' ((jab.set _ _ _ HS.out).trans' (jab.of_ext HX1.out))).trans' (jab.set _ _ _ HS.out)
    case measure=>simp[intOf];omega
  have hjj:j=xs.length:=by omega
  have HF:=zh (show mTerms k j++xs.drop j=mTerms k xs.length from by rw[hjj,List.drop_length,List.append_nil]);have HQ:=zh (show q=k+2*xs.length from by rw[hq.out,hjj]);clear hjj;go_wp2;go_ret;exact⟨⟨q,HQ.out,rfl⟩,by rw[← HF.out];exact ht.out,hin.out⟩
theorem markAtomS_any (v:Value) (xs:List GA) (k:Nat) (w:World) {S:Nat→Prop} (hv:jba S w v xs) (h1:1≤k) (h2:k+costAs xs≤100000000) :
  Calls Tryz.prog 35 #[v,.int .i64 k] w fun e w'=>(∃ q:Nat,q=k+costAs xs∧e=.returned (.int .i64 q))∧jba S w' v (mAtoms k xs)∧jab S w w':=by
 obtain⟨A,c,rfl,hc1,hc2⟩:=jad.form hv;have HV:=zh hv;clear hv
 go_enter Tryz.func35,Tryz.ntmps35;go_wp2;go_loopw [1,5] (fun kk i wr=>∃ (j q:Nat),j≤xs.length∧i=.int .i64 j∧kk=.int .i64 q∧q≤100000000∧1≤q∧Hid (q=k+costAs (xs.take j))∧Hid (jba S wr (.slice A xs.length c) (mAtoms k (xs.take j)++xs.drop j))∧Hid (jab S w wr)) (fun _ i _=>xs.length-(intOf i).toNat)
 case atStart=>exact⟨0,k,Nat.zero_le _,rfl,rfl,by omega,h1,by show _=_;simp[costAs],HV,jab.refl _ _⟩
 case round =>
  obtain⟨j,q,hj,rfl,rfl,hq1,hq2,hq,ht,hin⟩:=hrel;by_cases hlt:j<xs.length
  · obtain ⟨b,off,F,x,u,rfl,hb,hs,hx,hF,f0,c0,c1,htm,hup⟩:=jba.upd ht.out (i:=j) hlt
    have hxj:xs[j]? = some x:=by
     rw[List.getElem?_append_right (by rw[mAtoms_len,List.length_take];omega),mAtoms_len,List.length_take,Nat.min_eq_left hj,Nat.sub_self,List.getElem?_drop,Nat.add_zero] at hx;exact hx
    obtain⟨B,d,rfl,hd1,hd2⟩:=jad.form htm;have HU:=zh hup;have HS:=zh hs;have HF:=zh hF;have HT:=zh htm;have HK:=zh (costAs_take hxj)
    have hq3:q+1+2*x.args.length≤100000000:=by
     have h3:=hq.out;have h4:=HK.out;have h5:=costAs_take_le xs (j+1);unfold costA at h4;omega
    have HN:=zh (mAtoms_step (k:=k) hxj);have HM:=zh (fun (W:World)=>markText_any q W hq2 (by omega));clear hup hs hx hF htm hxj
    go_wp2_with (first
     | (go_at_call 93;refine (HM.out _).mono ?_;rintro e w1 ⟨rfl,hx1⟩;have hz1:=hx1.size;have d0:=(hx1.cells.1 b (off+j*2) hb).trans c0;have d1:=(hx1.cells.1 b (off+j*2+1) hb).trans c1;have e0:=(hx1.cells.2 b (off+j*2) hb).trans f0;have HX1:=zh hx1;clear hx1)
     | (go_at_call 94;refine (markTermS_any (S:=F) _ x.args (q+1) _ (jad.imp (HT.out.imp (fun _ h _=>h) (.of_ext HX1.out) HX1.out.size) (fun _ h _=>h) ((Agree.refl _ _).setCell (fun hb=>(HF.out b hb).2.1 rfl) _) (by go_size)) (by omega) (by omega)).mono ?_;rintro e w2 ⟨⟨q2,hq2',rfl⟩,ht2,hin2⟩;have HQ2:=zh hq2';have HT2:=zh ht2;have HI2:=zh hin2;have hq4:q2≤100000000:=(by omega);have hq5:1≤q2:=(by omega);clear hq2' ht2 hin2))
    go_roundw
    case rel =>
     have hT:=HU.out w1 w2 (mAtom q x) HX1.out HI2.out (mtext_max _ (by omega)) HT2.out;rw[hq.out,HN.out] at hT;refine⟨j+1,q2,by omega,by go_num,rfl,hq4,hq5,by have h3:=HQ2.out;have h4:=HK.out;have h5:=hq.out;unfold costA at h4;show _=_;omega,hT,?_⟩;exact (hin.out.trans' (jab.of_ext HX1.out)).trans' ((jab.set _ _ _ HS.out).trans' (HI2.out.sub (fun i hi _=>(HF.out i hi).1)))
    case measure=>simp[intOf];omega
  have hjj:j=xs.length:=by omega
  have HF:=zh (show mAtoms k (xs.take j)++xs.drop j=mAtoms k xs from by rw[hjj,List.drop_length,List.append_nil,List.take_length]);have HQ:=zh (show q=k+costAs xs from by rw[hq.out,hjj,List.take_length]);clear hjj;go_wp2;go_ret;exact⟨⟨q,HQ.out,rfl⟩,by rw[← HF.out];exact ht.out,hin.out⟩
theorem markChange_any (g:GC) (v u:Value) (k:Nat) (w:World) {S T:Nat→Prop} (hv:jba S w v g.comes) (hu:jba T w u g.goes) (hd:∀ i,S i→¬ T i) (h1:1≤k) (h2:k+costAs g.comes+costAs g.goes≤100000000) :
  Calls Tryz.prog 90 #[.agg #[v,u],.int .i64 k] w fun e w'=>(∃ q:Nat,q=k+costAs g.comes+costAs g.goes∧e=.returned (.int .i64 q))∧jba S w' v (mAtoms k g.comes)∧jba T w' u (mAtoms (k+costAs g.comes) g.goes)∧jab (fun i=>S i∨T i) w w':=by
 obtain⟨A,c,rfl,hc1,hc2⟩:=jad.form hv;obtain⟨B,d,rfl,hd1,hd2⟩:=jad.form hu;have HB:=zh (Blk.new w 68 #[.slice A g.comes.length c,.slice B g.goes.length d]);have HV:=zh (jad.low hv);have HU:=zh (jad.low hu);have HD:=zh hd;have tok:True:=trivial;clear hv hu hd
 go_enter Tryz.func90,Tryz.ntmps90
 go_wp2_with (first
  | (go_at_call 35;have _t:=tok;refine (markAtomS_any (S:=fun i=>S i∧i<w.heap.size) _ g.comes k _ (HV.out.ext ((Ext.refl _).alloc _)) h1 (by omega)).mono ?_;clear tok _t;rintro e w1 ⟨⟨q,hq,rfl⟩,hv1,hi1⟩;have hb1:=hi1.blk HB.out (by simp);have r0:=hb1.cell 0;have r1:=hb1.cell 1;have HV1:=zh hv1;have HI1:=zh hi1;have HQ:=zh hq;have hq0:1≤q:=(by omega);have hq1:q+costAs g.goes≤100000000:=(by omega);clear hq hv1 hi1 hb1)
  | (go_at_call 35;refine (markAtomS_any (S:=fun i=>T i∧i<w.heap.size) _ g.goes q _ ((HU.out.ext ((Ext.refl _).alloc _)).imp (fun _ h _=>h) (fun i hi hlt=>HI1.out.block i hlt (fun h=>HD.out i h.1 hi.1)) HI1.out.size) hq0 hq1).mono ?_;rintro e w2 ⟨⟨q2,hq2,rfl⟩,hv2,hi2⟩;have HV2:=zh hv2;have HI2:=zh hi2;have HQ2:=zh hq2;clear hv2 hi2 hq2))
 go_ret;refine⟨⟨q2,by have:=HQ.out;have:=HQ2.out;omega,rfl⟩,?_,?_,?_⟩
 · exact jad.imp HV1.out (fun _ h _=>h.1) (fun i hi hlt=>HI2.out.block i hlt (fun h=>HD.out i hi.1 h.1)) HI2.out.size
 · have h:=HV2.out
   rw[HQ.out] at h;exact jad.sub h (fun _ h=>h.1)
 refine ((jab.of_ext ((Ext.refl _).alloc _)).trans' (HI1.out.sub (fun i h _=>.inl h.1))).trans' (HI2.out.sub (fun i h _=>.inr h.1))
/-! ### held -/
theorem heldTermS_any (v:Value) (n k:Nat) (w:World) {S:Nat→Prop} (hv:jae S w v (mTerms k n)) (h1:1≤k) (h2:k+2*n≤100000000) :
  Calls Tryz.prog 95 #[v,.int .i64 k] w fun e w'=>(∃ q:Nat,q=k+2*n∧e=.returned (.int .i64 q))∧Ext w w':=by
 obtain⟨A,c,rfl,hc1,hc2⟩:=jaa.form hv;rw[mTerms_len] at hc1 hv ⊢;have HV:=zh hv;clear hv
 go_enter Tryz.func95,Tryz.ntmps95;go_wp2;go_loopw [1,5] (fun kk i wr=>∃ (j q:Nat),j≤n∧i=.int .i64 j∧kk=.int .i64 q∧q≤100000000∧1≤q∧Hid (q=k+2*j)∧Ext w wr) (fun _ i _=>n-(intOf i).toNat)
 case atStart=>exact⟨0,k,Nat.zero_le _,rfl,rfl,by omega,h1,by show _=_;omega,Ext.refl _⟩
 case round =>
  obtain⟨j,q,hj,rfl,rfl,hq1,hq2,hq,hx⟩:=hrel;have hk0:(0:Int)≤(j:Int):=by omega
  by_cases hlt:j<n
  · obtain ⟨b,off,x,rfl,hb,hxj,hxs,c0,c1⟩:=jae.at_ (HV.out.ext hx) hlt
    rw[mTerms_at _ _ _ hlt] at hxj;injection hxj with hxj
    rw[← hxj,← hq.out] at c0 c1;have hk1:(j:Int)<(n:Int):=by omega
    have hq3:q+2≤100000000:=by have:=hq.out;omega
    have hc0:wr.cell? ⟨b,off+j*2,none⟩=some (.bool ((q:Int) % 3 == 0)):=c0;obtain⟨bb,hbb⟩:∃ bb:Bool,bb=((q:Int) % 3 == 0):=⟨_,rfl⟩
    have hc1':wr.cell? ⟨b,off+j*2+1,none⟩=some (.string (mtext (q+1))):=c1;obtain⟨s,hs⟩:∃ s,s=mtext (q+1):=⟨_,rfl⟩
    rw[← hs] at hc1';have HM:=zh (fun (W:World) (_:Ext wr W)=>show Calls Tryz.prog 93 #[.int .i64 ((q:Int)+1)] W fun e w'=>e=.returned (.string s)∧Ext W w' from hs▸markText_any (q+1) W (by omega) (by omega));clear c0 c1 hxj hxs hs hbb;go_wp2_with (fail)
    refine jar (by kernel_rfl) (by kernel_rfl) ?_;repeat (go_big_quiet_step ((go_at_call 93;exact jbg (HM.out _ (Later.ext _)))))
    refine wpQuiet_nil ?_;rintro w3 ⟨⟨_,hx3⟩,rfl⟩;go_wp2;go_roundw
    case rel=>exact⟨j+1,q+1+1,by omega,by go_num,by go_num,by omega,by omega,by have:=hq.out;show _=_;omega,hx.trans' hx3⟩
    case measure=>simp[intOf];omega
  have HQ:=zh (show q=k+2*n from by rw[hq.out,show j=n from by omega]);go_wp2;go_ret;exact⟨⟨q,HQ.out,rfl⟩,hx⟩
theorem heldAtomS_any (v:Value) (xs:List GA) (k:Nat) (w:World) {S:Nat→Prop} (hv:jac S w v (mAtoms k xs)) (h1:1≤k) (h2:k+costAs xs≤100000000) :
  Calls Tryz.prog 36 #[v,.int .i64 k] w fun e w'=>(∃ q:Nat,q=k+costAs xs∧e=.returned (.int .i64 q))∧Ext w w':=by
 obtain⟨A,c,rfl,hc1,hc2⟩:=jaa.form hv;rw[mAtoms_len] at hc1 hv ⊢;have HV:=zh hv;clear hv
 go_enter Tryz.func36,Tryz.ntmps36;go_wp2;go_loopw [1,5] (fun kk i wr=>∃ (j q:Nat),j≤xs.length∧i=.int .i64 j∧kk=.int .i64 q∧q≤100000000∧1≤q∧Hid (q=k+costAs (xs.take j))∧Ext w wr) (fun _ i _=>xs.length-(intOf i).toNat)
 case atStart=>exact⟨0,k,Nat.zero_le _,rfl,rfl,by omega,h1,by show _=_;simp[costAs],Ext.refl _⟩
 case round =>
  obtain⟨j,q,hj,rfl,rfl,hq1,hq2,hq,hx⟩:=hrel;have hk0:(0:Int)≤(j:Int):=by omega
  by_cases hlt:j<xs.length
  · obtain ⟨b,off,y,u,rfl,hb,hyj,hys,ht,c0,c1⟩:=jac.at_ (HV.out.ext hx) hlt
    obtain⟨x,hxj⟩:∃ x,xs[j]? = some x:=⟨_,List.getElem?_eq_getElem hlt⟩
    rw[mAtoms_at _ _ _ _ hxj] at hyj;injection hyj with hyj
    rw[← hq.out] at hyj;subst hyj;have HK:=zh (costAs_take hxj);have hk1:(j:Int)<(xs.length:Int):=by omega
    have hq3:q+1+2*x.args.length≤100000000:=by
     have h3:=hq.out;have h4:=HK.out;have h5:=costAs_take_le xs (j+1);unfold costA at h4;omega
    have ht':jae S wr u (mTerms (q+1) x.args.length):=ht;obtain⟨B,d,rfl,hd1,hd2⟩:=jaa.form ht';obtain⟨nn,hnn⟩:∃ nn,nn=(mTerms (q+1) x.args.length).length:=⟨_,rfl⟩
    rw[← hnn] at ht' c1 hd1;have HT:=zh ht';have hc0:wr.cell? ⟨b,off+j*2,none⟩=some (.string (mtext q)):=c0;have hc1':wr.cell? ⟨b,off+j*2+1,none⟩=some (.slice B nn d):=c1;obtain⟨s,hs⟩:∃ s,s=mtext q:=⟨_,rfl⟩
    rw[← hs] at hc0;have HM:=zh (fun (W:World) (_:Ext wr W)=>show Calls Tryz.prog 93 #[.int .i64 q] W fun e w'=>e=.returned (.string s)∧Ext W w' from hs▸markText_any q W hq2 (by omega));clear c0 c1 hs hys ht ht' hxj hnn;go_wp2_with (fail)
    refine jar (by kernel_rfl) (by kernel_rfl) ?_;repeat (go_big_quiet_step ((go_at_call 93;exact jbg (HM.out _ (Later.ext _)))))
    refine wpQuiet_nil ?_;rintro w3 ⟨⟨_,hx3⟩,rfl⟩;have d1:=(hx3.cells.1 b (off+j*2+1) hb).trans hc1';go_wp2_with (go_at_call 95;refine (heldTermS_any _ x.args.length (q+1) _ (HT.out.ext hx3) (by omega) (by omega)).mono ?_;rintro e w4 ⟨⟨q2,hq2',rfl⟩,hx4⟩;have HQ2:=zh hq2';have hq4:q2≤100000000:=(by omega);have hq5:1≤q2:=(by omega);clear hq2')
    go_roundw
    case rel=>exact⟨j+1,q2,by omega,by go_num,rfl,hq4,hq5,by have h3:=HQ2.out;have h4:=HK.out;have h5:=hq.out;unfold costA at h4;show _=_;omega,(hx.trans' hx3).trans' hx4⟩
    case measure=>simp[intOf];omega
  have HQ:=zh (show q=k+costAs xs from by rw[hq.out,List.take_of_length_le (by omega)]);go_wp2;go_ret;exact⟨⟨q,HQ.out,rfl⟩,hx⟩
theorem heldChange_any (g:GC) (v u:Value) (k:Nat) (w:World) {S T:Nat→Prop} (hv:jac S w v (mAtoms k g.comes)) (hu:jac T w u (mAtoms (k+costAs g.comes) g.goes)) (h1:1≤k) (h2:k+costAs g.comes+costAs g.goes≤100000000) :
  Calls Tryz.prog 91 #[.agg #[v,u],.int .i64 k] w fun e w'=>(∃ q:Nat,q=k+costAs g.comes+costAs g.goes∧e=.returned (.int .i64 q))∧Ext w w':=by
 obtain⟨A,c,rfl,hc1,hc2⟩:=jaa.form hv;obtain⟨B,d,rfl,hd1,hd2⟩:=jaa.form hu;obtain⟨n,hn⟩:∃ n,n=(mAtoms k g.comes).length:=⟨_,rfl⟩
 obtain⟨m,hm⟩:∃ m,m=(mAtoms (k+costAs g.comes) g.goes).length:=⟨_,rfl⟩
 rw[← hn] at hv ⊢ hc1;rw[← hm] at hu ⊢ hd1;have HB:=zh (Blk.new w 68 #[.slice A n c,.slice B m d]);have HV:=zh (hv.ext ((Ext.refl w).alloc (.cells #[.slice A n c,.slice B m d] 68)));have HU:=zh (hu.ext ((Ext.refl w).alloc (.cells #[.slice A n c,.slice B m d] 68)));have tok:True:=trivial;clear hv hu hn hm
 go_enter Tryz.func91,Tryz.ntmps91
 go_wp2_with (first
  | (go_at_call 36;have _t:=tok;refine (heldAtomS_any _ g.comes k _ HV.out h1 (by omega)).mono ?_;clear tok _t;rintro e w1 ⟨⟨q,hq,rfl⟩,hx1⟩;have hb1:=HB.out.ext hx1;have r0:=hb1.cell 0;have r1:=hb1.cell 1;have HX1:=zh hx1;have HQ:=zh hq;have hq0:1≤q:=(by omega);have hq1:q+costAs g.goes≤100000000:=(by omega);clear hq hx1 hb1)
  | (go_at_call 36;refine (heldAtomS_any (S:=T) _ g.goes q _ (by rw[HQ.out];exact HU.out.ext HX1.out) hq0 hq1).mono ?_;rintro e w2 ⟨⟨q2,hq2,rfl⟩,hx2⟩;have HQ2:=zh hq2;have hq3:1≤q2:=(by omega);clear hq2))
 go_ret;exact⟨⟨q2,by have:=HQ.out;have:=HQ2.out;omega,rfl⟩,((Ext.refl _).alloc _).trans' (HX1.out.trans' hx2)⟩
end Go.Proofs.YthdojieomhighaaGreatDoor
namespace Go.Proofs.YthdojieomhighaaGreatDoor
open Go.RowKit
section
variable {α:Type} (m:Nat→α→α) (c:α→Nat)
def costL (l:List α):Nat:=(l.map c).sum
def mList:Nat→List α→List α
 | _,[]=>[]
 | k,a :: l=>m k a :: mList (k+c a) l
theorem mList_len:∀ (k:Nat) (l:List α),(mList m c k l).length=l.length
 | _,[]=>rfl
 | k,a :: l=>by simp[mList,mList_len (k+c a) l]
theorem mList_snoc:∀ (k:Nat) (l:List α) (a:α),mList m c k (l++[a])=mList m c k l++[m (k+costL c l) a]
 | k,[],a=>by simp[mList,costL]
 | k,b :: l,a=>by
   have ih:=mList_snoc (k+c b) l a;simp only[List.cons_append,mList,ih,costL,List.map_cons,List.sum_cons];rw[Nat.add_assoc]
theorem costL_snoc (l:List α) (a:α):costL c (l++[a])=costL c l+c a:=by simp[costL]
theorem mList_step {xs:List α} {k i:Nat} {x:α} (h:xs[i]? = some x):(mList m c k (xs.take i)++xs.drop i).set i (m (k+costL c (xs.take i)) x)=mList m c k (xs.take (i+1))++xs.drop (i+1):=by
 obtain⟨hi,rfl⟩:=List.getElem?_eq_some_iff.1 h;have hl:(mList m c k (xs.take i)).length=i:=by rw[mList_len,List.length_take];omega
 rw[List.set_append_right _ _ (by omega),hl,Nat.sub_self,List.drop_eq_getElem_cons hi,List.set_cons_zero,List.take_succ_eq_append_getElem hi,mList_snoc,List.append_assoc]
 rfl
theorem costL_take {xs:List α} {i:Nat} {x:α} (h:xs[i]? = some x):costL c (xs.take (i+1))=costL c (xs.take i)+c x:=by
 obtain⟨hi,rfl⟩:=List.getElem?_eq_some_iff.1 h;rw[List.take_succ_eq_append_getElem hi,costL_snoc]
theorem costL_take_le (xs:List α) (i:Nat):costL c (xs.take i)≤costL c xs:=by
 have h:costL c xs=costL c (xs.take i)+costL c (xs.drop i):=by
  unfold costL;rw[← List.sum_append,← List.map_append,List.take_append_drop]
 omega
theorem mList_next {xs:List α} {k i:Nat} {x:α} (hi:i≤xs.length) (h:(mList m c k (xs.take i)++xs.drop i)[i]? = some x):xs[i]? = some x:=by
 rw[List.getElem?_append_right (by rw[mList_len,List.length_take];omega),mList_len,List.length_take,Nat.min_eq_left hi,Nat.sub_self,List.getElem?_drop,Nat.add_zero] at h;exact h
end
def costC (g:GC):Nat:=costAs g.comes+costAs g.goes
def mChange (k:Nat) (g:GC):GC:=⟨mAtoms k g.comes,mAtoms (k+costAs g.comes) g.goes⟩
theorem jby.upd {S:Nat→Prop} {w:World} {A:Option Addr} {n c:Nat} {xs:List GC} (h:jby S w (.slice A n c) xs) {i:Nat} (hi:i<n) :
  ∃ (b off:Nat) (S1 S2:Nat→Prop) (g:GC) (v u:Value),A=some ⟨b,off,none⟩∧b<w.heap.size∧S b∧xs[i]? = some g∧(∀ m,S1 m∨S2 m→S m∧m≠b∧m<w.heap.size)∧(∀ m,S1 m→¬ S2 m) ∧
    w.cell? ⟨b,off+i*2,none⟩=some v∧w.cell? ⟨b,off+i*2+1,none⟩=some u∧jba S1 w v g.comes∧jba S2 w u g.goes ∧
    ∀ (w2:World) (y:GC),jab (fun m=>S1 m∨S2 m) w w2→jba S1 w2 v y.comes→jba S2 w2 u y.goes→jby S w2 (.slice A n c) (xs.set i y):=by
 obtain⟨b,off,F,x,cs,rfl,hb,hs,hx,hfr,hF,hl,hcs,hE,hup⟩:=jad.update h hi;obtain⟨v,u,S1,S2,rfl,h3,h4,h5,h6,h7⟩:=hE;have c0:=hcs 0 _ rfl;have c1:=hcs 1 _ rfl;refine⟨b,off,S1,S2,x,v,u,rfl,hb,hs,hx,fun m hm=>hF m (hm.elim (h5 m) (h6 m)),h7,c0,c1,h3,h4,fun w2 y hin k1 k2=>?_⟩;have hnb:¬ (S1 b∨S2 b):=fun h=>(hF b (h.elim (h5 b) (h6 b))).2.1 rfl
 have hbk:w2.heap[b]? = w.heap[b]? :=hin.block b hb hnb;refine hup w2 [v,u] y hin.size (fun m hm hn hlt=>hin.block m hlt (fun h=>hn (h.elim (h5 m) (h6 m)))) (fun o _=>World.cell?_of_block (w:=w) (a:=⟨b,o,none⟩) hbk) (fun o=>World.frozen?_of_block (w:=w) (a:=⟨b,o,none⟩) hbk) rfl (fun j z hz=>?_) ⟨v,u,S1,S2,rfl,k1,k2,h5,h6,h7⟩;exact (World.cell?_of_block (w:=w) (a:=⟨b,_,none⟩) hbk).trans (hcs j z hz)
theorem markChangeS_any (v:Value) (xs:List GC) (k:Nat) (w:World) {S:Nat→Prop} (hv:jby S w v xs) (h1:1≤k) (h2:k+costL costC xs≤100000000) :
  Calls Tryz.prog 89 #[v,.int .i64 k] w fun e w'=>(∃ q:Nat,q=k+costL costC xs∧e=.returned (.int .i64 q))∧jby S w' v (mList mChange costC k xs)∧jab S w w':=by
 obtain⟨A,c,rfl,hc1,hc2⟩:=jad.form hv;have HV:=zh hv;clear hv
 go_enter Tryz.func89,Tryz.ntmps89;go_wp2;go_loopw [1,5] (fun kk i wr=>∃ (j q:Nat),j≤xs.length∧i=.int .i64 j∧kk=.int .i64 q∧q≤100000000∧1≤q∧Hid (q=k+costL costC (xs.take j))∧Hid (jby S wr (.slice A xs.length c) (mList mChange costC k (xs.take j)++xs.drop j))∧Hid (jab S w wr)) (fun _ i _=>xs.length-(intOf i).toNat)
 case atStart=>exact⟨0,k,Nat.zero_le _,rfl,rfl,by omega,h1,by show _=_;simp[costL],HV,jab.refl _ _⟩
 case round =>
  obtain⟨j,q,hj,rfl,rfl,hq1,hq2,hq,ht,hin⟩:=hrel;have hk0:(0:Int)≤(j:Int):=by omega
  by_cases hlt:j<xs.length
  · obtain ⟨b,off,S1,S2,g,v,u,rfl,hb,hs,hx,hF,hdis,c0,c1,ht1,ht2,hup⟩:=jby.upd ht.out (i:=j) hlt
    have hxj:=mList_next mChange costC hj hx;obtain⟨B,d,rfl,hd1,hd2⟩:=jad.form ht1;obtain⟨D,d',rfl,hd3,hd4⟩:=jad.form ht2;have hk1:(j:Int)<(xs.length:Int):=by omega
    have HU:=zh hup;have HF:=zh hF;have HD:=zh hdis;have HT1:=zh ht1;have HT2:=zh ht2;have HK:=zh (costL_take costC hxj)
    have hq3:q+(costAs g.comes+costAs g.goes)≤100000000:=by
     have h3:=hq.out;have h4:=HK.out;have h5:=costL_take_le costC xs (j+1);have h9:costC g=costAs g.comes+costAs g.goes:=rfl;omega
    have HN:=zh (mList_step mChange costC (k:=k) hxj);have tok:True:=trivial;clear hup hx hF ht1 ht2 hxj hdis
    go_wp2_with (first
     | (go_at_call 35;have _t:=tok;refine (markAtomS_any (S:=S1) _ g.comes q _ HT1.out hq2 (by omega)).mono ?_;clear tok _t;rintro e w1 ⟨⟨q2,hq2',rfl⟩,hv1,hi1⟩
        have hz1:=hi1.size;have d1:=(World.cell?_of_block (w:=wr) (a:=⟨b,off+j*2+1,none⟩) (hi1.block b hb (fun h=>(HF.out b (.inl h)).2.1 rfl))).trans c1;have HQ2:=zh hq2';have HV1:=zh hv1;have HI1:=zh hi1;have hq4:q2+costAs g.goes≤100000000:=(by omega)
        have hq5:1≤q2:=(by omega)
        clear hq2' hv1 hi1)
     | (go_at_call 35;refine (markAtomS_any (S:=S2) _ g.goes q2 _ (jad.imp HT2.out (fun _ h _=>h) (fun i hi hlt=>HI1.out.block i hlt (fun h=>HD.out i h hi)) HI1.out.size) hq5 hq4).mono ?_;rintro e w2 ⟨⟨q3,hq3',rfl⟩,hv2,hi2⟩
        have HQ3:=zh hq3';have HV2:=zh hv2;have HI2:=zh hi2;have hq6:q3≤100000000:=(by omega)
        have hq7:1≤q3:=(by omega)
        clear hq3' hv2 hi2))
    go_roundw
    case rel =>
     have hV2:=HV2.out;rw[HQ2.out] at hV2;have hI:=(HI1.out.sub (T:=fun m=>S1 m∨S2 m) (fun i h _=>.inl h)).trans' (HI2.out.sub (fun i h _=>.inr h));have hT:=HU.out w2 (mChange q g) hI (jad.imp HV1.out (fun _ h _=>h) (fun i hi hlt=>HI2.out.block i hlt (fun h=>HD.out i hi h)) HI2.out.size) hV2;rw[hq.out,HN.out] at hT;refine⟨j+1,q3,by omega,by go_num,rfl,hq6,hq7,by have h3:=HQ2.out;have h3':=HQ3.out;have h4:=HK.out;have h5:=hq.out;have h9:costC g=costAs g.comes+costAs g.goes:=rfl;show _=_;omega,hT,?_⟩;exact hin.out.trans' (hI.sub (fun i hi _=>(HF.out i hi).1))
    case measure=>simp[intOf];omega
  have hjj:j=xs.length:=by omega
  have HF:=zh (show mList mChange costC k (xs.take j)++xs.drop j=mList mChange costC k xs from by rw[hjj,List.drop_length,List.append_nil,List.take_length]);have HQ:=zh (show q=k+costL costC xs from by rw[hq.out,hjj,List.take_length]);clear hjj;go_wp2;go_ret;exact⟨⟨q,HQ.out,rfl⟩,by rw[← HF.out];exact ht.out,hin.out⟩
end Go.Proofs.YthdojieomhighaaGreatDoor
