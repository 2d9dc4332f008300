/- Own texts, joined. -/
import Derived.Test.YthiflhkcpanaaaaGreatDoorDas15
import Derived.Lib.OthersKept
set_option linter.unusedSimpArgs false
set_option linter.unusedVariables false
set_option maxHeartbeats 4000000
set_option maxRecDepth 100000
namespace Go.Proofs.YthiflhkcpanaaaaGreatDoor
open Go.RowKit
/-! ### Keys, and places under them -/
def wk (n:ByteArray) (size:Nat) (o:Option (Nat × ByteArray)):Value:=wkey n size (match o with|none=> -1|some x=>(x.1:Int)) (match o with|none=>jcr|some x=>x.2)
theorem jza {n n':ByteArray} {s s':Nat} {o o':Option (Nat × ByteArray)} (h:wk n s o=wk n' s' o'):n=n'/\s=s'/\o=o':=by
 unfold wk wkey at h;simp only[Value.agg.injEq,Array.mk.injEq,List.cons.injEq,Value.string.injEq,Value.int.injEq,true_and,and_true] at h;obtain⟨h1,h2,h3,h4⟩:=h;refine⟨h1,by omega,?_⟩
 cases o with
 | none =>
   cases o' with
   | none=>rfl
   | some y=>simp only at h3;omega
 | some x =>
   cases o' with
   | none=>simp only at h3;omega
   | some y =>
     obtain⟨x1,x2⟩:=x;obtain⟨y1,y2⟩:=y;simp only at h3 h4;rw[h4,show x1=y1 by omega]
theorem jvm {n:ByteArray} {size:Nat} {o:Option (Nat × ByteArray)} (hn:n.size<=maxLen) (hz:size<=1000000) (ho:∀ x,o=some x->x.1<=1000000/\x.2.size<=maxLen):∃ kl,keyOf Tryz.prog 315 (wk n size o)=some kl:=by
 cases o with
 | none=>exact jvl hn (Nat.zero_le _) hz (by simp) (by simp)
 | some x =>
   obtain⟨h1,h2⟩:=ho x rfl;exact jvl hn h2 hz (by simp only;omega) (by simp only;omega)
def hit (a:GA) (j:Nat) (n:ByteArray) (s:Nat) (o:Option (Nat × ByteArray)):Bool:=decide (a.n=n/\a.args.length=s) && match o with
 | none=>decide (0<j)
 | some x=>decide (x.1+1<j) && match a.args[x.1]? with
   | none=>false
   | some t=>decide (t.n=x.2)
def jbg (facts:List GA) (a:GA) (j:Nat) (n:ByteArray) (s:Nat) (o:Option (Nat × ByteArray)):List Nat:=jal facts n s o++(if hit a j n s o then [facts.length] else [])
def keyJ (a:GA) (j:Nat):Option (Nat × ByteArray):=match j with
 | 0=>none
 | i+1=>some (i,(a.args.getD i ⟨false,jcr⟩).n)
theorem jty (facts:List GA) (a:GA) (n:ByteArray) (s:Nat) (o:Option (Nat × ByteArray)):jbg facts a 0 n s o=jal facts n s o:=by
 unfold jbg hit;cases o<;>simp
theorem j04 {a:GA} {j:Nat} (hj:j<=a.args.length) (n:ByteArray) (s:Nat) (o:Option (Nat × ByteArray)):hit a (j+1) n s o=(hit a j n s o || decide (n=a.n/\s=a.args.length/\o=keyJ a j))/\((n=a.n/\s=a.args.length/\o=keyJ a j)->hit a j n s o=false):=by
 by_cases hns:a.n=n/\a.args.length=s
 . obtain ⟨rfl,rfl⟩:=hns
   unfold hit
   cases j with
   | zero =>
     cases o with
     | none=>simp[keyJ]
     | some x=>simp[keyJ]
   | succ i =>
     cases o with
     | none=>simp[keyJ]
     | some x =>
       obtain⟨x1,x2⟩:=x;have hg:a.args.getD i ⟨false,jcr⟩=a.args[i]:=by rw[List.getD_eq_getElem?_getD,List.getElem?_eq_getElem (by omega)];rfl
       by_cases hx:x1=i
       . subst hx
         simp only[keyJ,hg,List.getElem?_eq_getElem (show x1<a.args.length by omega)];simp[eq_comm]
       have h1:decide (x1<i+1)=decide (x1<i):=by
         rw[decide_eq_decide];omega
       simp[keyJ,h1,hx]
 have h1:decide (a.n=n/\a.args.length=s)=false:=decide_eq_false hns;have h2:¬ (n=a.n/\s=a.args.length/\o=keyJ a j):=fun h=>hns ⟨h.1.symm,h.2.1.symm⟩
 unfold hit;rw[h1,decide_eq_false h2];exact⟨by simp,fun h=>absurd h h2⟩
theorem jfu {facts:List GA} {a:GA} {j:Nat} (hj:j<=a.args.length) (n:ByteArray) (s:Nat) (o:Option (Nat × ByteArray)) :
  jbg facts a (j+1) n s o=if n=a.n/\s=a.args.length/\o=keyJ a j then jbg facts a j n s o++[facts.length] else jbg facts a j n s o:=by
 obtain⟨h1,h2⟩:=j04 hj n s o;unfold jbg;rw[h1];by_cases h:n=a.n/\s=a.args.length/\o=keyJ a j
 . rw[h2 h,decide_eq_true h,if_pos h];simp
 rw[decide_eq_false h,if_neg h];simp
theorem jjs (p:Nat->Bool) (n:Nat):(List.range (n+1)).filter p=(List.range n).filter p++(if p n then [n] else []):=by
 rw[List.range_succ,List.filter_append];cases h:p n<;>simp[h]
theorem jw0 (facts:List GA) (a:GA) (n:ByteArray) (s:Nat) (o:Option (Nat × ByteArray)):jbg facts a (a.args.length+1) n s o=jal (facts++[a]) n s o:=by
 unfold jbg jal;rw[List.length_append,List.length_cons,List.length_nil,jjs]
 have h1:(List.range facts.length).filter (under (facts++[a]) n s o)=(List.range facts.length).filter (under facts n s o):=by
  apply List.filter_congr
  intro i hi;have hi:=List.mem_range.1 hi;unfold under;rw[List.getElem?_append_left hi]
 have h2:under (facts++[a]) n s o facts.length=hit a (a.args.length+1) n s o:=by
  unfold under hit;rw[List.getElem?_append_right (Nat.le_refl _),Nat.sub_self];simp only[List.getElem?_cons_zero]
  cases o with
  | none=>simp
  | some x =>
    obtain⟨i,q⟩:=x;simp only
    cases hx:a.args[i]? with
    | none=>simp
    | some t =>
      have:=(List.getElem?_eq_some_iff.1 hx).1;simp[this]
 rw[h1,h2]
/-! ### Own slices under growth -/
theorem OwnK.grown {α:Type} {k:Kind α} {base:Nat} {e:TypeId} {S:Nat->Prop} {w w':World} {v:Value} {xs:List α} {row:Option Nat} (h:OwnK k base e S w v xs) (hg:w.grownBy w' row) (hne:∀ g,v.ownBlock=some g->row≠some g) (hS:∀ b,S b->row≠some b):OwnK k base e S w' v xs :=
 h.agree (fun b hb hlt=>hg.block b hlt (fun e=>hS b hb e.symm)) (fun g hg'=>hg.block g (h.at_ g hg').2 (fun e=>hne g hg' e.symm)) hg.size
theorem OwnK.fresh {α:Type} {k:Kind α} {base:Nat} {e:TypeId} {S:Nat->Prop} {w:World} {v:Value} {xs:List α} (h:OwnK k base e S w v xs):∀ g,v.ownBlock=some g->g≠w.heap.size:=fun g hg e=>by have:=(h.at_ g hg).2;omega
/-! ### The store -/
structure ja2 (base:Nat) (S T:Nat->Prop) (w:World) (sb mb pb:Nat) (fv rv:Value) (f:Value->Value) (facts:List GA) (rounds:List Nat) (un:ByteArray->Nat->Option (Nat × ByteArray)->List Nat) (nm:Nat) (pm:ByteArray->Option Nat) (np:Nat):Prop where
 blk:Blk w sb 268 #[fv,rv,.map (some mb),.map (some pb)]
 lo:sb<base/\mb<base/\pb<base/\sb≠mb/\sb≠pb/\mb≠pb/\base<=w.heap.size
 fa:OwnK kAtom base 69 S w fv facts
 sub:∀ b,S b->T b
 ro:OwnK kNum base 3 None w rv rounds
 mp:MapV w mb nm f
 gr:∀ n s o,OwnK kNum base 3 None w (f (wk n s o)) (un n s o)
 pl:MapN w pb np pm
 a1:∀ g,fv.ownBlock=some g->rv.ownBlock≠some g/\¬ T g/\∀ n s o,(f (wk n s o)).ownBlock≠some g
 a2:∀ g,rv.ownBlock=some g->¬ T g/\∀ n s o,(f (wk n s o)).ownBlock≠some g
 a3:∀ n s o g,(f (wk n s o)).ownBlock=some g->¬ T g/\∀ n' s' o',wk n' s' o'≠wk n s o->(f (wk n' s' o')).ownBlock≠some g
 tb:∀ b,T b->b<w.heap.size/\b≠sb/\b≠mb/\b≠pb
section
variable {base:Nat} {S T:Nat->Prop} {w w':World} {sb mb pb:Nat} {fv rv:Value} {f:Value->Value} {facts:List GA} {rounds:List Nat} {un:ByteArray->Nat->Option (Nat × ByteArray)->List Nat} {nm:Nat} {pm:ByteArray->Option Nat} {np:Nat}
theorem ja2.ext (h:ja2 base S T w sb mb pb fv rv f facts rounds un nm pm np) (hx:Ext w w'):ja2 base S T w' sb mb pb fv rv f facts rounds un nm pm np :=
 ⟨h.blk.ext hx,⟨h.lo.1,h.lo.2.1,h.lo.2.2.1,h.lo.2.2.2.1,h.lo.2.2.2.2.1,h.lo.2.2.2.2.2.1,Nat.le_trans h.lo.2.2.2.2.2.2 hx.size⟩,h.fa.ext hx,h.sub,h.ro.ext hx,h.mp.ext hx,fun n s o=>(h.gr n s o).ext hx,h.pl.ext (hx.block _ h.pl.lt),h.a1,h.a2,h.a3,fun b hb=>⟨Nat.lt_of_lt_of_le (h.tb b hb).1 hx.size,(h.tb b hb).2⟩⟩
theorem ja2.less {T':Nat->Prop} (h:ja2 base S T w sb mb pb fv rv f facts rounds un nm pm np) (h1:∀ b,T' b->T b) (h2:∀ b,S b->T' b):ja2 base S T' w sb mb pb fv rv f facts rounds un nm pm np :=
 ⟨h.blk,h.lo,h.fa,h2,h.ro,h.mp,h.gr,h.pl,fun g hg=>⟨(h.a1 g hg).1,fun hT=>(h.a1 g hg).2.1 (h1 g hT),(h.a1 g hg).2.2⟩,fun g hg=>⟨fun hT=>(h.a2 g hg).1 (h1 g hT),(h.a2 g hg).2⟩,fun n s o g hg=>⟨fun hT=>(h.a3 n s o g hg).1 (h1 g hT),(h.a3 n s o g hg).2⟩,fun b hb=>h.tb b (h1 b hb)⟩
theorem ja2.more (h:ja2 base S T w sb mb pb fv rv f facts rounds un nm pm np) (hx:Ext w w') {T':Nat->Prop} (hT:∀ b,T' b->w.heap.size<=b/\b<w'.heap.size):ja2 base S (fun b=>T b∨T' b) w' sb mb pb fv rv f facts rounds un nm pm np:=by
 have h1:=h.ext hx;refine⟨h1.blk,h1.lo,h1.fa,fun b hb=>.inl (h1.sub b hb),h1.ro,h1.mp,h1.gr,h1.pl,fun g hg=>⟨(h1.a1 g hg).1,fun ht=>?_,(h1.a1 g hg).2.2⟩,fun g hg=>⟨fun ht=>?_,(h1.a2 g hg).2⟩,fun n s o g hg=>⟨fun ht=>?_,(h1.a3 n s o g hg).2⟩,fun b hb=>?_⟩
 . rcases ht with ht|ht
   . exact (h1.a1 g hg).2.1 ht
   have:=(h.fa.at_ g hg).2;have:=(hT g ht).1;omega
 . rcases ht with ht|ht
   . exact (h1.a2 g hg).1 ht
   have:=(h.ro.at_ g hg).2;have:=(hT g ht).1;omega
 . rcases ht with ht|ht
   . exact (h1.a3 n s o g hg).1 ht
   have:=((h.gr n s o).at_ g hg).2;have:=(hT g ht).1;omega
 rcases hb with hb|hb
 . exact h1.tb b hb
 have k1:=hT b hb;have k2:=h.blk.lt;have k3:=h.mp.lt;have k4:=h.pl.lt;exact⟨k1.2,by omega,by omega,by omega⟩
theorem ja2.putFact (h:ja2 base S T w sb mb pb fv rv f facts rounds un nm pm np) {w1 w2:World} {v':Value} {zs:List GA} (hx:Ext w w1) (ha:Apped kAtom base 69 S w1 fv zs v' w2) :
  ja2 base S T (w2.setCell ⟨sb,0,none⟩ v') sb mb pb v' rv f zs rounds un nm pm np:=by
 have h1:=h.ext hx;obtain⟨l1,l2,l3,l4,l5,l6,l7⟩:=h1.lo;have hown:∀ g,fv.ownBlock=some g->base<=g/\g<w1.heap.size:=h1.fa.at_;have hnb:∀ b,b<base->fv.ownBlock≠some b:=fun b hb e=>by have:=(hown b e).1;omega
 have hv':∀ g,v'.ownBlock=some g->base<=g:=fun g hg=>(ha.own.at_ g hg).1
 have hva:∀ g,v'.ownBlock=some g->(fv.ownBlock=some g∨g=w1.heap.size):=fun g hg=>by
  rcases ha.at_ with e|e
  . exact .inl (e▸hg)
  rw[e] at hg;injection hg with hg;exact .inr hg.symm
 have hsz:=ha.grown.size;refine⟨by simpa using (h1.blk.below ha.below l1).set_ 0 v',⟨l1,l2,l3,l4,l5,l6,by go_size⟩,?_,h1.sub,?_,?_,fun n s o=>?_,?_,fun g hg=>?_,fun g hg=>?_,fun n s o g hg=>?_,fun b hb=>?_⟩
 . exact ha.own.set (p:=⟨sb,0,none⟩) l1 (fun hT=>(h1.tb sb (h1.sub _ hT)).2.1 rfl) v'
 . exact (h1.ro.grown ha.grown (fun g hg e=>(h1.a1 g e).1 hg) (fun _ h=>h.elim)).set (p:=⟨sb,0,none⟩) l1 (fun h=>h) v'
 . exact (h1.mp.kept ha.grown (fun e=>hnb mb l2 e.symm)).set (p:=⟨sb,0,none⟩) (fun e=>l4 e.symm) v'
 . exact ((h1.gr n s o).grown ha.grown (fun g hg e=>(h1.a1 g e).2.2 n s o hg) (fun _ h=>h.elim)).set (p:=⟨sb,0,none⟩) l1 (fun h=>h) v'
 . exact (h1.pl.ext (ha.grown.block pb h1.pl.lt (fun e=>hnb pb l3 e.symm))).setCell (a:=⟨sb,0,none⟩) (fun e=>l5 e.symm) v'
 . rcases hva g hg with e|e
   . exact h1.a1 g e
   subst e;exact⟨fun e2=>(h1.ro.fresh _ e2 rfl),fun hT=>by have:=(h1.tb _ hT).1;omega,fun n s o e2=>(h1.gr n s o).fresh _ e2 rfl⟩
 . exact h1.a2 g hg
 . exact h1.a3 n s o g hg
 have:=h1.tb b hb;exact⟨by go_size,this.2⟩
theorem ja2.putRound (h:ja2 base S T w sb mb pb fv rv f facts rounds un nm pm np) {w1 w2:World} {v':Value} {zs:List Nat} (hx:Ext w w1) (ha:Apped kNum base 3 None w1 rv zs v' w2) :
  ja2 base S T (w2.setCell ⟨sb,1,none⟩ v') sb mb pb fv v' f facts zs un nm pm np:=by
 have h1:=h.ext hx;obtain⟨l1,l2,l3,l4,l5,l6,l7⟩:=h1.lo;have hown:∀ g,rv.ownBlock=some g->base<=g/\g<w1.heap.size:=h1.ro.at_;have hnb:∀ b,b<base->rv.ownBlock≠some b:=fun b hb e=>by have:=(hown b e).1;omega
 have hva:∀ g,v'.ownBlock=some g->(rv.ownBlock=some g∨g=w1.heap.size):=fun g hg=>by
  rcases ha.at_ with e|e
  . exact .inl (e▸hg)
  rw[e] at hg;injection hg with hg;exact .inr hg.symm
 have hsz:=ha.grown.size;refine⟨by simpa using (h1.blk.below ha.below l1).set_ 1 v',⟨l1,l2,l3,l4,l5,l6,by go_size⟩,?_,h1.sub,?_,?_,fun n s o=>?_,?_,fun g hg=>?_,fun g hg=>?_,fun n s o g hg=>?_,fun b hb=>?_⟩
 . exact (h1.fa.grown ha.grown (fun g hg e=>(h1.a1 g hg).1 e) (fun b hT e=>(h1.a2 b e).1 (h1.sub _ hT))).set (p:=⟨sb,1,none⟩) l1 (fun hT=>(h1.tb sb (h1.sub _ hT)).2.1 rfl) v'
 . exact ha.own.set (p:=⟨sb,1,none⟩) l1 (fun h=>h) v'
 . exact (h1.mp.kept ha.grown (fun e=>hnb mb l2 e.symm)).set (p:=⟨sb,1,none⟩) (fun e=>l4 e.symm) v'
 . exact ((h1.gr n s o).grown ha.grown (fun g hg e=>(h1.a2 g e).2 n s o hg) (fun _ h=>h.elim)).set (p:=⟨sb,1,none⟩) l1 (fun h=>h) v'
 . exact (h1.pl.ext (ha.grown.block pb h1.pl.lt (fun e=>hnb pb l3 e.symm))).setCell (a:=⟨sb,1,none⟩) (fun e=>l5 e.symm) v'
 . refine ⟨fun e2=>?_,(h1.a1 g hg).2⟩
   rcases hva g e2 with e|e
   . exact (h1.a1 g hg).1 e
   exact h1.fa.fresh g hg e
 . rcases hva g hg with e|e
   . exact h1.a2 g e
   subst e;exact⟨fun hT=>by have:=(h1.tb _ hT).1;omega,fun n s o e2=>(h1.gr n s o).fresh _ e2 rfl⟩
 . exact h1.a3 n s o g hg
 have:=h1.tb b hb;exact⟨by go_size,this.2⟩
theorem ja2.putPlace (h:ja2 base S T w sb mb pb fv rv f facts rounds un nm pm np) {w1 w2:World} {pm':ByteArray->Option Nat} {np':Nat} (hx:Ext w w1) (hg:w1.grownBy w2 (some pb)) (hp:MapN w2 pb np' pm') :
  ja2 base S T w2 sb mb pb fv rv f facts rounds un nm pm' np':=by
 have h1:=h.ext hx;obtain⟨l1,l2,l3,l4,l5,l6,l7⟩:=h1.lo;have hsz:=hg.size;have off:∀ {v:Value},(∀ g,v.ownBlock=some g->base<=g)->∀ g,v.ownBlock=some g->some pb≠some g:=fun hb g hg e=>by injection e with e;have:=hb g hg;omega
 refine⟨(hg.block sb h1.blk.lt (fun e=>by injection e with e;exact l5 e)).trans h1.blk,⟨l1,l2,l3,l4,l5,l6,by omega⟩,?_,h1.sub,?_,?_,fun n s o=>?_,hp,h1.a1,h1.a2,h1.a3,fun b hb=>⟨Nat.lt_of_lt_of_le (h1.tb b hb).1 hsz,(h1.tb b hb).2⟩⟩
 . exact h1.fa.grown hg (off fun g hg=>(h1.fa.at_ g hg).1) (fun b hT e=>by injection e with e;exact (h1.tb b (h1.sub _ hT)).2.2.2 e.symm)
 . exact h1.ro.grown hg (off fun g hg=>(h1.ro.at_ g hg).1) (fun _ h=>h.elim)
 . exact h1.mp.kept hg (fun e=>by injection e with e;exact l6 e)
 exact (h1.gr n s o).grown hg (off fun g hg=>((h1.gr n s o).at_ g hg).1) (fun _ h=>h.elim)
theorem ja2.group (h:ja2 base S T w sb mb pb fv rv f facts rounds un nm pm np) {w0 w1 w2:World} (hx0:Ext w w0) (hg1:w0.grownBy w1 (some mb)) (hx:Ext w1 w2) (n:ByteArray) (s:Nat) (o:Option (Nat × ByteArray)):OwnK kNum base 3 None w2 (f (wk n s o)) (un n s o):=by
 have h1:=h.ext hx0;exact (((h1.gr n s o).grown hg1 (fun g hg e=>by injection e with e;have:=((h1.gr n s o).at_ g hg).1;have:=h1.lo.2.1;omega) (fun _ h=>h.elim)).ext hx)
theorem ja2.putGroup (h:ja2 base S T w sb mb pb fv rv f facts rounds un nm pm np) {w0 w1 w2 w3 w4:World} {n:ByteArray} {s:Nat} {o:Option (Nat × ByteArray)} {v':Value} {zs:List Nat} {f':Value->Value} {nm':Nat} {un':ByteArray->Nat->Option (Nat × ByteArray)->List Nat}
  (hx0:Ext w w0) (hg1:w0.grownBy w1 (some mb)) (hx:Ext w1 w2) (ha:Apped kNum base 3 None w2 (f (wk n s o)) zs v' w3) (hg3:w3.grownBy w4 (some mb)) (hm:MapV w4 mb nm' f') (hf1:f' (wk n s o)=v') (hf2:∀ k,k≠wk n s o->f' k=f k)
  (hu1:un' n s o=zs) (hu2:∀ n' s' o',¬ (n'=n/\s'=s/\o'=o)->un' n' s' o'=un n' s' o') :
  ja2 base S T w4 sb mb pb fv rv f' facts rounds un' nm' pm np:=by
 have h1:=h.ext hx0;obtain⟨l1,l2,l3,l4,l5,l6,l7⟩:=h1.lo;have s1:=hg1.size;have s2:=hx.size;have s3:=ha.grown.size;have s4:=hg3.size;have off:∀ {v:Value},(∀ g,v.ownBlock=some g->base<=g)->∀ g,v.ownBlock=some g->some mb≠some g:=fun hb g hg e=>by injection e with e;have:=hb g hg;omega
 have hown:∀ g,(f (wk n s o)).ownBlock=some g->base<=g:=fun g hg=>((h1.gr n s o).at_ g hg).1
 have hnb:∀ b,b<base->(f (wk n s o)).ownBlock≠some b:=fun b hb e=>by have:=hown b e;omega
 have hva:∀ g,v'.ownBlock=some g->((f (wk n s o)).ownBlock=some g∨g=w2.heap.size):=fun g hg=>by
  rcases ha.at_ with e|e
  . exact .inl (e▸hg)
  rw[e] at hg;injection hg with hg;exact .inr hg.symm
 have hfk:∀ {n' s' o'},(n'=n/\s'=s/\o'=o)∨f' (wk n' s' o')=f (wk n' s' o'):=fun {n' s' o'}=>by
  by_cases e:wk n' s' o'=wk n s o
  . exact .inl (jza e)
  exact .inr (hf2 _ e)
 have hlow:∀ b,b<base->b≠mb->b<w0.heap.size->w4.heap[b]? = w0.heap[b]? :=fun b hb hne hlt =>
  (hg3.block b (by omega) (fun e=>hne (by injection e))).trans ((ha.grown.block b (by omega) (fun e=>hnb b hb e.symm)).trans ((hx.block b (by omega)).trans (hg1.block b hlt (fun e=>hne (by injection e)))))
 have hlen:∀ {v:Value} {α:Type} {k:Kind α} {e:TypeId} {S:Nat->Prop} {xs:List α},OwnK k base e S w0 v xs->(∀ b,S b->b<w0.heap.size/\b≠mb/\(f (wk n s o)).ownBlock≠some b)->(∀ g,v.ownBlock=some g->(f (wk n s o)).ownBlock≠some g)->OwnK k base e S w4 v xs:=fun {v α k e S xs} ho hS hne =>
  (((ho.grown hg1 (off fun g hg=>(ho.at_ g hg).1) (fun b hb e=>(hS b hb).2.1 (by injection e with e;exact e.symm))).ext hx).grown ha.grown (fun g hg e=>hne g hg e) (fun b hb e=>(hS b hb).2.2 e)).grown hg3 (off fun g hg=>(ho.at_ g hg).1) (fun b hb e=>(hS b hb).2.1 (by injection e with e;exact e.symm))
 refine⟨(hlow sb l1 l4 h1.blk.lt).trans h1.blk,⟨l1,l2,l3,l4,l5,l6,by omega⟩,?_,h1.sub,?_,hm,fun n' s' o'=>?_,?_,fun g hg=>⟨(h1.a1 g hg).1,(h1.a1 g hg).2.1,fun n' s' o' e=>?_⟩,fun g hg=>⟨(h1.a2 g hg).1,fun n' s' o' e=>?_⟩,fun n' s' o' g hg=>?_,fun b hb=>⟨by have:=(h1.tb b hb).1;omega,(h1.tb b hb).2⟩⟩
 . exact hlen h1.fa (fun b hT=>⟨(h1.tb b (h1.sub _ hT)).1,(h1.tb b (h1.sub _ hT)).2.2.1,fun e=>(h1.a3 n s o b e).1 (h1.sub _ hT)⟩) (fun g hg e=>(h1.a1 g hg).2.2 n s o e)
 . exact hlen h1.ro (fun _ h=>h.elim) (fun g hg e=>(h1.a2 g hg).2 n s o e)
 . rcases hfk (n':=n') (s':=s') (o':=o') with ⟨rfl,rfl,rfl⟩|e
   . rw [hf1,hu1]
     exact ha.own.grown hg3 (off fun g hg=>(ha.own.at_ g hg).1) (fun _ h=>h.elim)
   rw[e];by_cases e2:n'=n/\s'=s/\o'=o
   . obtain ⟨rfl,rfl,rfl⟩:=e2
     rw[<- e,hf1,hu1];exact ha.own.grown hg3 (off fun g hg=>(ha.own.at_ g hg).1) (fun _ h=>h.elim)
   rw[hu2 n' s' o' e2];exact hlen (h1.gr n' s' o') (fun _ h=>h.elim) (fun g hg e3=>(h1.a3 n s o g e3).2 n' s' o' (fun e4=>e2 (jza e4)) hg)
 . exact h1.pl.ext (hlow pb l3 (fun e=>l6 e.symm) h1.pl.lt)
 . rcases hfk (n':=n') (s':=s') (o':=o') with ⟨rfl,rfl,rfl⟩|e2
   . rw [hf1] at e
     rcases hva g e with e3|e3
     . exact (h1.a1 g hg).2.2 _ _ _ e3
     have:=(h1.fa.at_ g hg).2;omega
   rw[e2] at e;exact (h1.a1 g hg).2.2 _ _ _ e
 . rcases hfk (n':=n') (s':=s') (o':=o') with ⟨rfl,rfl,rfl⟩|e2
   . rw [hf1] at e
     rcases hva g e with e3|e3
     . exact (h1.a2 g hg).2 _ _ _ e3
     have:=(h1.ro.at_ g hg).2;omega
   rw[e2] at e;exact (h1.a2 g hg).2 _ _ _ e
 by_cases e0:wk n' s' o'=wk n s o
 . obtain ⟨rfl,rfl,rfl⟩:=jza e0
   rw[hf1] at hg;refine⟨fun hT=>?_,fun n2 s2 o2 hne e2=>?_⟩
   . rcases hva g hg with e3|e3
     . exact (h1.a3 _ _ _ g e3).1 hT
     have:=(h1.tb g hT).1;omega
   rw[hf2 _ hne] at e2;rcases hva g hg with e3|e3
   . exact (h1.a3 _ _ _ g e3).2 _ _ _ hne e2
   have:=((h1.gr n2 s2 o2).at_ g e2).2;omega
 rw[hf2 _ e0] at hg;refine⟨(h1.a3 _ _ _ g hg).1,fun n2 s2 o2 hne e2=>?_⟩;by_cases e1:wk n2 s2 o2=wk n s o
 . rw [e1,hf1] at e2
   rcases hva g e2 with e3|e3
   . exact (h1.a3 _ _ _ g hg).2 n s o (fun e4=>e0 e4.symm) e3
   have:=((h1.gr n' s' o').at_ g hg).2;omega
 rw[hf2 _ e1] at e2;exact (h1.a3 _ _ _ g hg).2 n2 s2 o2 hne e2
end
/-! ### The maps' operations in a drawn region -/
section
variable {w:World} {ops:Array Oper} {o:Oper} {a:Act} {K:Act->World->Prop} {Q:Exit->Act->World->Prop} {E:Prop}
theorem jjt {P:Program} (hgd:o.guard=none) (h:Oper.wp P o a w K Q):if Region.wanted o (yielded ops a.tmps)=true then Oper.wp P o a w K Q else E:=by
 have hw:Region.wanted o (yielded ops a.tmps)=true:=by simp[Region.wanted,hgd]
 rw[if_pos hw];exact h
theorem jps (hgd:o.guard=none) (m x v:Operand) (hop:o.op=Op.mapUpdate 187 m x v) (B n:Nat) (f:ByteArray->Option Nat) (hm:a.eval m=.map (some B)) (hown:MapN w B n f) (hn:n<=1000000) (s:ByteArray) (hx:a.eval x=.string s) (hs:s.size<=maxLen) (k:Nat) (hv:a.eval v=.int .i64 ((k:Nat):Int)) (hk:k<=1000000)
  (h:∀ w',MapN w' B (if (f s).isSome then n else n+1) (fun x=>if x=s then some k else f x)->w.grownBy w' (some B)->K (a.put o.dst undef) w'):if Region.wanted o (yielded ops a.tmps)=true then Oper.wp Tryz.prog o a w K Q else E:=by
 refine jjt hgd ?_;obtain⟨D,h1,h2,h3⟩:=hown;obtain⟨w',hr,h4,h5⟩:=h1.update jl3 Tryz.underlying187 (by unfold maxLen;omega) (val:=.int .i64 ((k:Nat):Int)) (d:=.lit (.int .i64 ((k:Nat):Int))) (ps:=[]) (Go.WideMaps.keyOf_string_mk Tryz.underlying9 hs) (plainElem_int Tryz.underlying3 (WalkArith.wf_i64 (by omega)));unfold Oper.wp execOp;simp only[hop,hm,hx,hv,Sem.run_bind,Sem.run_pure,Result.andThen_ok,hr];exact h w' (MapN.put h1 h2 h3 h4) h5
theorem jog (hgd:o.guard=none) (m x:Operand) (hop:o.op=Op.mapEntry 266 m x) {B n:Nat} {f:Value->Value} (hm:a.eval m=.map (some B)) (hown:MapV w B n f) (hn:n<maxLen) {key:Value} {kl:Lit} (hx:a.eval x=key) (hkey:keyOf Tryz.prog 315 key=some kl)
  (h : ∀ (st:Nat) (w1:World),w.grownBy w1 (some B)->w1.heap.size=w.heap.size->(∀ (w2:World) (val:Value),w2.heap[B]? = w1.heap[B]? ->∃ w3,(Instr.entryStore 266 (.map (some B)) (.int .i64 (st:Int)) val).run Tryz.prog w2=.ok () w3/\(∃ f',f' key=val/\(∀ k,k≠key->f' k=f k)/\MapV w3 B (n+1) f')/\w2.grownBy w3 (some B)/\w3.heap.size=w2.heap.size) ->
   K (a.put o.dst (.tuple #[f key,.int .i64 (st:Int)])) w1):if Region.wanted o (yielded ops a.tmps)=true then Oper.wp Tryz.prog o a w K Q else E:=by
 refine jjt hgd ?_;obtain⟨st,w1,hr,h1,h2,h3⟩:=hown.entry hn hkey;unfold Oper.wp execOp;simp only[hop,hm,hx,Sem.run_bind,Sem.run_pure,Result.andThen_ok,hr];exact h st w1 h1 h2 h3
theorem jmj (hgd:o.guard=none) (m s v:Operand) (hop:o.op=Op.entryStore 266 m s v) {B:Nat} {st:Nat} {val:Value} (hm:a.eval m=.map (some B)) (hs:a.eval s=.int .i64 (st:Int)) (hv:a.eval v=val) {w3:World} (hr:(Instr.entryStore 266 (.map (some B)) (.int .i64 (st:Int)) val).run Tryz.prog w=.ok () w3)
  (h:K (a.put o.dst undef) w3):if Region.wanted o (yielded ops a.tmps)=true then Oper.wp Tryz.prog o a w K Q else E:=by
 refine jjt hgd ?_;unfold Oper.wp execOp;simp only[hop,hm,hs,hv,Sem.run_bind,Sem.run_pure,Result.andThen_ok,hr];exact h
end
end Go.Proofs.YthiflhkcpanaaaaGreatDoor
namespace Go.Proofs.YthiflhkcpanaaaaGreatDoor
open Go.RowKit
abbrev jzb (B b:Nat) (p:Value) (l:List UInt8) (w:World):Prop:=Lib.BuilderAt 320 5 B b p (Lib.byteCells l) w
def jfi (B b:Nat) (l:List UInt8) (w:World):Prop:=Lib.IsBuilder 320 5 B b (Lib.byteCells l) w
abbrev Kept (b:Nat) (w w':World):Prop:=Lib.OthersKept 5 (some b) w w'
theorem jkr:(Tryz.prog.info? 320).map (·.size)=some 2:=by kernel_rfl
theorem jrr:liesAt Tryz.prog Tryz.prog.depth 320 (2 / Tryz.prog.cellsOf 320) 0 320 1=true:=by kernel_rfl
theorem jrs:(Tryz.prog.info? 5).map (fun i=>(i.zero,i.size,i.bytes))=some (some (.int .u8 0),1,1):=by kernel_rfl
theorem jrt {w:World} {base e size n:Nat} {v:Value} {xs:List Value} {g:Nat} (h:w.ownsRow base e size v n xs) (hg:v.ownBlock=some g):∃ c fz,w.heap[g]? = some (.cells c e fz):=by
 rcases h.2 with ⟨rfl,_⟩|⟨g',cap,cur,rfl,_,hh,_⟩
 . simp[Value.ownBlock] at hg
 simp only[Value.ownBlock,Option.some.injEq] at hg;subst hg;exact⟨_,_,hh⟩
theorem jks (l m:List UInt8):Lib.byteCells l++Lib.byteCells m=Lib.byteCells (l++m):=by simp[Lib.byteCells]
theorem jng (b:Nat) (w:World) (h0:w.cell? ⟨b,0,none⟩=some (.pointer (some ⟨b,0,none⟩))) :
  Calls Tryz.prog 305 #[.pointer (some ⟨b,0,none⟩)] w fun e w'=>e=.returned (.tuple #[])/\w'=w:=by
 obtain⟨j,hj,_⟩:=Option.map_eq_some_iff.1 jkr
 go_in;go_wp2;rw[Lib.run_neq_ptr_same w _ Tryz.underlying318 hj];go_wp2
 go_end0
 exact⟨rfl,rfl⟩
theorem jmk (b:Nat) (w:World) (h0:w.cell? ⟨b,0,none⟩=some (.pointer none)) (hsh:w.shape? b=some (320,2)) (hfz:w.frozen? ⟨b,0,none⟩=false) :
  Calls Tryz.prog 305 #[.pointer (some ⟨b,0,none⟩)] w fun e w'=>e=.returned (.tuple #[])/\w'=w.setCell ⟨b,0,none⟩ (.pointer (some ⟨b,0,none⟩)):=by
 obtain⟨j,hj,hjs⟩:=Option.map_eq_some_iff.1 jkr
 go_in;go_wp2;rw[Lib.run_to_unsafe w ⟨b,0,none⟩ Tryz.underlying318 Tryz.underlying360 hj (by rw[hjs];decide) hsh (Nat.zero_lt_succ 1)];simp only[Result.andThen];rw[Oper.upon_value];go_wp2;rw[run_callFunc_extern Tryz.func325 (by kernel_rfl) (by kernel_rfl) (by kernel_rfl) (e:=Extern.AbiNoEscape.same) (by kernel_rfl)];rw[Lib.run_noEscape];simp only[Result.andThen];rw[Oper.upon_value];go_wp2;rw[Lib.run_from_unsafe w ⟨b,0,none⟩ Tryz.underlying360 Tryz.underlying318 hj hsh jrr];simp only[Result.andThen];rw[Oper.upon_value];go_wp2
 go_end0
 exact⟨rfl,rfl⟩
theorem jin (B b:Nat) (l:List UInt8) (w:World) (h:jfi B b l w) :
  Calls Tryz.prog 305 #[.pointer (some ⟨b,0,none⟩)] w fun e w'=>e=.returned (.tuple #[])/\(jzb B b (.pointer (some ⟨b,0,none⟩)) l w'/\Below B w w'/\Kept b w w'):=by
 rcases h with h|h
 . refine (jmk b w h.cell0 h.shape h.frozen0).mono ?_
   rintro e w' ⟨rfl,rfl⟩;exact⟨rfl,h.used _,(Below.refl B w).setCell (p:=⟨b,0,none⟩) h.1 _,(Lib.OthersKept.refl _ _ w).setCell ⟨b,0,none⟩ rfl _⟩
 refine (jng b w h.cell0).mono ?_;rintro e w' ⟨rfl,rfl⟩;exact⟨rfl,h,Below.refl B _,Lib.OthersKept.refl _ _ _⟩
theorem jfv (B b:Nat) (l:List UInt8) (c:UInt8) (w:World) (h:jfi B b l w) (hlen:l.length+1<=140737488355328) (hBw:B<=w.heap.size) :
  Calls Tryz.prog 280 #[.pointer (some ⟨b,0,none⟩),.int .u8 c.toNat] w fun e w'=>e=.returned .nilIface/\(jfi B b (l++[c]) w'/\Below B w w'/\Kept b w w'):=by
 obtain⟨i0,hi,hz0,hz1,hz2⟩:=info_parts jrs
 go_in;go_wp2_with (go_at_call 305;refine (jin B b l _ h).mono ?_)
 rintro e w1 ⟨rfl,h1,hb1,hk1⟩;obtain⟨hB,v,hbk,hown,hne⟩:=h1;have c0:w1.cell? ⟨b,0,none⟩=some (.pointer (some ⟨b,0,none⟩)):=by rw[Lib.cell_of_heap hbk];rfl
 have c1:w1.cell? ⟨b,1,none⟩=some v:=by rw[Lib.cell_of_heap hbk];rfl
 have hl:(Lib.byteCells l).length=l.length:=Lib.byteCells_length l;go_wp2_with (at_builtin;refine wpList_append_own _ rfl _ _ 22 rfl B 5 i0 (.int .u8 0) 1 1 Tryz.underlying22 hi hz0 hz1 hz2 rfl (by decide) _ _ _ rfl (hown.alloc _) ⟨w1.heap.size,0,none⟩ 1 1 [.int .u8 c.toNat] rfl rfl ?c1 ?c2 ?c3 ?c4 ?c5 ?_)
 case c1 =>
  intro j u hj
  match j,hj with
  | 0,hj=>simp at hj;subst hj;simp[Addr.add]
 case c2=>intro u hu;simp at hu;subst hu;rfl
 case c3=>unfold maxLen;omega
 case c4=>omega
 case c5=>have:=hb1.size;simp;omega
 intro v' w2 hown' hgrow _
 have hlt:b<w1.heap.size:=by
  rcases Nat.lt_or_ge b w1.heap.size with h'|h'
  . exact h'
  simp[Array.getElem?_eq_none h'] at hbk
 have hb2:w2.heap[b]? = some (.cells #[.pointer (some ⟨b,0,none⟩),v] 320 (0,0)):=by
  rw[hgrow.block b (by simp;omega) (fun e=>hne e.symm),Lib.alloc_old w1 _ b hlt];exact hbk
 have d0:w2.cell? ⟨b,0,none⟩=some (.pointer (some ⟨b,0,none⟩)):=by rw[Lib.cell_of_heap hb2];rfl
 have d1:w2.cell? ⟨b,1,none⟩=some v:=by rw[Lib.cell_of_heap hb2];rfl
 have f1:w2.frozen? ⟨b,1,none⟩=false:=Lib.frozen_of_heap hb2 1
 obtain ⟨g,cap,rfl⟩:∃ g cap,v'=.slice (some ⟨g,0,none⟩) (l.length+1) cap:=by
  rcases hown'.2 with ⟨_,h0⟩|⟨g,cap,cur,hv,_⟩
  . omega
  exact⟨g,cap,hv⟩
 go_wp2;go_ret;refine⟨rfl,.inr ?_,?_,?_⟩
 . rw [<- jks]
   exact Lib.BuilderAt.put (T:=320) (e:=5) hB hb2 (bs':=Lib.byteCells l++Lib.byteCells [c]) (by simpa [Lib.byteCells] using hown') (by decide)
 . exact ((hb1.alloc (by have:=hb1.size;omega) _).grown hgrow (by have:=hb1.size;simp;omega) (fun k hk=>(hown.lt k hk).1)).setCell (p:=⟨b,1,none⟩) hB _
 exact ((hk1.alloc _).grown hgrow (fun g hg=>jrt (hown.alloc _) hg)).setCell ⟨b,1,none⟩ rfl _
theorem jer (B b:Nat) (l:List UInt8) (s:ByteArray) (w:World) (h:jfi B b l w) (hlen:l.length+s.size<=140737488355328) (hBw:B<=w.heap.size) :
  Calls Tryz.prog 279 #[.pointer (some ⟨b,0,none⟩),.string s] w fun e w'=>e=.returned (.tuple #[.int .i64 s.size,.nilIface])/\(jfi B b (l++s.data.toList) w'/\Below B w w'/\Kept b w w'):=by
 obtain⟨i0,hi,hz0,hz1,hz2⟩:=info_parts jrs
 go_in;go_wp2_with (go_at_call 305;refine (jin B b l _ h).mono ?_)
 rintro e w1 ⟨rfl,h1,hb1,hk1⟩;obtain⟨hB,v,hbk,hown,hne⟩:=h1;have c0:w1.cell? ⟨b,0,none⟩=some (.pointer (some ⟨b,0,none⟩)):=by rw[Lib.cell_of_heap hbk];rfl
 have c1:w1.cell? ⟨b,1,none⟩=some v:=by rw[Lib.cell_of_heap hbk];rfl
 have hl:(Lib.byteCells l).length=l.length:=Lib.byteCells_length l;go_wp2_with (at_builtin;refine Lib.wpList_append_own_string _ rfl _ _ 22 9 rfl B 5 i0 Tryz.underlying22 Tryz.underlying9 hi hz0 hz1 hz2 _ _ _ rfl hown s rfl ?c3 ?c4 ?c5 ?_)
 case c3=>unfold maxLen;omega
 case c4=>omega
 case c5=>have:=hb1.size;omega
 intro v' w2 hown' hgrow _
 have hlt:b<w1.heap.size:=by
  rcases Nat.lt_or_ge b w1.heap.size with h'|h'
  . exact h'
  simp[Array.getElem?_eq_none h'] at hbk
 have hb2:w2.heap[b]? = some (.cells #[.pointer (some ⟨b,0,none⟩),v] 320 (0,0)):=by
  rw[hgrow.block b hlt (fun e=>hne e.symm)];exact hbk
 have d0:w2.cell? ⟨b,0,none⟩=some (.pointer (some ⟨b,0,none⟩)):=by rw[Lib.cell_of_heap hb2];rfl
 have d1:w2.cell? ⟨b,1,none⟩=some v:=by rw[Lib.cell_of_heap hb2];rfl
 have f1:w2.frozen? ⟨b,1,none⟩=false:=Lib.frozen_of_heap hb2 1
 obtain ⟨ao,n',cap,rfl⟩:∃ ao n' cap,v'=.slice ao n' cap:=by
  rcases hown'.2 with ⟨hv,_⟩|⟨g,cap,cur,hv,_⟩
  . exact⟨_,_,_,hv⟩
  exact⟨_,_,_,hv⟩
 go_wp2;go_ret2;refine⟨rfl,.inr ?_,?_,?_⟩
 . have hs:Lib.strCells s=Lib.byteCells s.data.toList:=rfl
   rw[<- jks,<- hs];exact Lib.BuilderAt.put (T:=320) (e:=5) hB hb2 (bs':=Lib.byteCells l++Lib.strCells s) (by simpa [Lib.strCells_length,hl] using hown') (by decide)
 . exact (hb1.grown hgrow (by have:=hb1.size;omega) (fun k hk=>(hown.lt k hk).1)).setCell (p:=⟨b,1,none⟩) hB _
 exact (hk1.grown hgrow (fun g hg=>jrt hown hg)).setCell ⟨b,1,none⟩ rfl _
theorem jw1 (B b:Nat) (l:List UInt8) (w:World) (h:jfi B b l w) (hBw:B<=w.heap.size) :
  Calls Tryz.prog 281 #[.pointer (some ⟨b,0,none⟩)] w fun e w'=>e=.returned (.string ⟨l.toArray⟩)/\Below B w w' :=
 Tryz.Builder_String_any B b l w h hBw
theorem jfi.alloc {B b:Nat} {l:List UInt8} {w:World} (h:jfi B b l w) (o:Obj):jfi B b l (w.alloc o):=by
 rcases h with ⟨hB,v,hb,hown,hne⟩|⟨hB,v,hb,hown,hne⟩
 . exact .inl ⟨hB,v,(Below.heap_alloc w o b (Array.getElem?_eq_some_iff.1 hb).1).trans hb,hown.alloc o,hne⟩
 exact .inr ⟨hB,v,(Below.heap_alloc w o b (Array.getElem?_eq_some_iff.1 hb).1).trans hb,hown.alloc o,hne⟩
theorem jfi.fresh (w:World):jfi w.heap.size w.heap.size [] (w.alloc (.cells #[.pointer none,.slice none 0 0] 320)):=Lib.fresh_isBuilder _ _ w
theorem Kept.blk {b g:Nat} {t:TypeId} {cs:Array Value} {w w':World} (h:Kept b w w') (hb:Blk w g t cs) (hg:g≠b) (ht:t≠5):Blk w' g t cs :=
 h g _ hb (fun e=>hg (Option.some.inj e)) (fun c fz e=>by injection e with _ e2 _;exact ht e2)
theorem jgs (a:GA) (v:Value) (w:World) {S:Nat->Prop} (hv:jad S w v a.args) (hw:wAtom a<=4194304) :
  Calls Tryz.prog 234 #[.agg #[.string a.n,v]] w fun e w'=>e=.returned (.string (strOf (atomL a)))/\Ext w w':=by
 obtain⟨A,c,rfl,hc1,hc2⟩:=jaa.form hv;have HV:=zh hv;have HW:=zh hw;have hn:a.n.size<=4194304:=by unfold wAtom at hw;omega
 clear hv hw;have hbox:Blk (w.alloc (.cells #[.string a.n,.slice A a.args.length c] 69)) w.heap.size 69 #[.string a.n,.slice A a.args.length c]:=Blk.new _ _ _;have hb0:=jfi.fresh (w.alloc (.cells #[.string a.n,.slice A a.args.length c] 69));rw[World.size_alloc] at hb0;have HBX:=zh (hbox.alloc (.cells #[.pointer none,.slice none 0 0] 320));have HB0:=zh hb0;clear hb0 hbox;have tok:True:=trivial
 go_in
 go_wp2_with (first
  | (go_at_call 279;refine (jer (w.heap.size+1) (w.heap.size+1) [] a.n _ HB0.o (by simp;omega) (by go_size)).mono ?_;rintro e w1 ⟨rfl,hb1,hz1,hk1⟩;have HB1:=zh hb1;have hx1:=hk1.blk HBX.o (by omega) (by decide);have e10:=hx1.cell 0;have e11:=hx1.cell 1;have HX1:=zh hx1;have hs1:=hz1.size;simp only[World.size_alloc] at hs1;clear hb1 hx1)
  | (go_at_call 280;have _t:=tok;refine (jfv (w.heap.size+1) (w.heap.size+1) _ 40 _ HB1.o (by simp;omega) (by omega)).mono ?_;clear tok _t;rintro e w2 ⟨rfl,hb2,hz2,hk2⟩;have HB2:=zh hb2;have hx2:=hk2.blk HX1.o (by omega) (by decide);have e20:=hx2.cell 0;have e21:=hx2.cell 1;have HX2:=zh hx2;have hs2:=hz2.size;clear hb2 hx2))
 have HE2:=zh (show Ext w w2 from (((Ext.refl w).alloc _).alloc _).trans ((hz1.mono (by omega)).trans (hz2.mono (by omega))));clear e10 e11 e20 e21 hk1 hk2 hz1 hz2;go_loopw [13] (fun i wr=>∃ (k:Nat) (l:List UInt8),k<=a.args.length/\i=.int .i64 k/\J1 (l=a.n.data.toList++[40]++jcx (a.args.take k))/\J1 (jfi (w.heap.size+1) (w.heap.size+1) l wr)/\Ext w wr/\w.heap.size+1<wr.heap.size) (fun i _=>a.args.length-(intOf i).toNat)
 case atStart=>exact⟨0,_,Nat.zero_le _,rfl,by show _=_;rw[List.take_zero,jcx,List.append_nil];rfl,HB2,HE2.o,by omega⟩
 case round =>
  obtain⟨k,l,hk,rfl,hp,hb,hx,hsz⟩:=hrel
  have hlen:l.length<=8388609:=by
   rw[hp.o];have h1:=jjf (a.args.take k);have h2:=jtm a.args k;have h3:=HW.o;have h4:a.n.data.toList.length=a.n.size:=by simp
   unfold wAtom at h3;simp only[List.length_append,List.length_cons,List.length_nil];omega
  by_cases hlt:k<a.args.length
  . obtain ⟨b,off,x,rfl,hbb,hxk,hxs,hc0,hc1⟩:=jad.at_ (HV.o.ext hx) hlt
    have HK:=zh (jtl hxk)
    have hxn:x.n.size<=4194304:=by
     have h1:=jv8 (List.mem_of_getElem? hxk);have h3:=HW.o;unfold wAtom at h3;unfold wTerm at h1;omega
    clear hxk hxs;have HBV:=zh (Blk.new wr 157 #[.bool x.v,.string x.n]);by_cases hk0:k<1
    . have hg:decide (0<k)=false:=decide_eq_false (by omega)
      go_wp2_with (go_at_call 279;refine (jer (w.heap.size+1) (w.heap.size+1) l x.n _ (hb.o.alloc _) (by omega) (by go_size)).mono ?_;rintro e w3 ⟨rfl,hb3,hz3,hk3⟩;have HB3:=zh hb3;have hs3:=hz3.size;simp only[World.size_alloc] at hs3;clear hb3 hk3)
      go_roundw
      case rel =>
       refine⟨k+1,_,by omega,by go_num,?_,HB3,(hx.alloc _).trans (hz3.mono (by omega)),by omega⟩;show _=_;rw[hp.o,HK.o,if_pos (by omega),show k=0 from by omega,List.take_zero,jcx,List.append_nil,List.nil_append]
      case measure=>simp[intOf];omega
    have hg:decide (0<k)=true:=decide_eq_true (by omega);have tok2:True:=trivial
    go_wp2_with (first
     | (go_at_call 280;have _t:=tok2;refine (jfv (w.heap.size+1) (w.heap.size+1) l 44 _ (hb.o.alloc _) (by omega) (by go_size)).mono ?_;clear tok2 _t;rintro e w3 ⟨rfl,hb3,hz3,hk3⟩;have HB3:=zh hb3;have hv3:=hk3.blk HBV.o (by omega) (by decide);have e30:=hv3.cell 0;have e31:=hv3.cell 1;have hs3:=hz3.size;simp only[World.size_alloc] at hs3;clear hb3 hv3 hk3)
     | (go_at_call 279;refine (jer (w.heap.size+1) (w.heap.size+1) _ x.n _ HB3.o (by simp;omega) (by omega)).mono ?_;rintro e w4 ⟨rfl,hb4,hz4,hk4⟩;have HB4:=zh hb4;have hs4:=hz4.size;clear hb4 hk4))
    go_roundw
    case rel =>
     refine⟨k+1,_,by omega,by go_num,?_,HB4,((hx.alloc _).trans (hz3.mono (by omega))).trans (hz4.mono (by omega)),by omega⟩;show _=_;rw[hp.o,HK.o,if_neg (by omega)];simp only[List.append_assoc]
    case measure=>simp[intOf];omega
  go_wp2_with (first
    | (go_at_call 280;refine (jfv (w.heap.size+1) (w.heap.size+1) l 41 _ hb.o (by omega) (by omega)).mono ?_;rintro e w3 ⟨rfl,hb3,hz3,hk3⟩;have HB3:=zh hb3;have hs3:=hz3.size;clear hb3 hk3)
    | (go_at_call 281;refine (jw1 (w.heap.size+1) (w.heap.size+1) _ _ HB3.o (by omega)).mono ?_;rintro e w4 ⟨rfl,hz4⟩))
  go_ret;refine⟨?_,(hx.trans (hz3.mono (by omega))).trans (hz4.mono (by omega))⟩;refine Eq.trans ?_ (jx2 (a:=strOf (l++[41])) ?_)
  . rfl
  rw[hp.o,List.take_of_length_le (by omega)];rfl
end Go.Proofs.YthiflhkcpanaaaaGreatDoor
