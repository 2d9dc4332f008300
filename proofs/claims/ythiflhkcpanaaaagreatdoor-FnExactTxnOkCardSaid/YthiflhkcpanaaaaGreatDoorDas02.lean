/- Own texts, joined. -/
import Derived.Test.YthiflhkcpanaaaaGreatDoorDas01
import Derived.Orders
import Derived.Lib.Strings
import Derived.Lib.Bytealg
import Derived.StillTailTactics
import Derived.WalkLawsBesides
set_option linter.unusedSimpArgs false
set_option linter.unusedVariables false
set_option maxHeartbeats 2000000
set_option maxRecDepth 100000
namespace Go.Proofs.YthiflhkcpanaaaaGreatDoor
open Go.RowKit
section
variable {α:Type} {k:Kind α} {S S' T:Nat->Prop} {w w':World} {v u:Value} {xs:List α}
theorem jae.one {v:Value} {xs:List α} (h:jae k S w v xs):v.oneCell'=true:=by obtain⟨A,c,rfl,_⟩:=h.form;rfl
theorem ListK.one {v:Value} {xs:List α} (h:ListK k S w v xs):v.oneCell'=true:=by obtain⟨A,c,rfl,_⟩:=jaa.form h;rfl
end
theorem jab.impL {S S':Nat->Prop} {w w':World} {v:Value} {xs:List GA} (h:jab S w v xs) (hS:∀ b,S b->b<w.heap.size->S' b) (he:Agree S w w') (hsz:w.heap.size<=w'.heap.size):jab S' w' v xs:=ListK.imp (k:=kAtom) h hS he hsz
def kPart:Kind GP:=⟨3,PartE,by decide,fun h hS he hsz=>by obtain⟨v,h1,h2,h3⟩:=h;exact⟨v,h1,h2,h3.impL hS he hsz⟩,
 fun {_ _ l x} h=>by obtain⟨v,rfl,_,ht⟩:=h;intro u hu;simp at hu;rcases hu with rfl|rfl|rfl<;>first|rfl|exact ListK.one (k:=kTerm) ht,fun h=>by obtain⟨v,rfl,_⟩:=h;rfl⟩
theorem jao.impL {S S':Nat->Prop} {w w':World} {v:Value} {xs:List GP} (h:jao S w v xs) (hS:∀ b,S b->b<w.heap.size->S' b) (he:Agree S w w') (hsz:w.heap.size<=w'.heap.size):jao S' w' v xs:=ListK.imp (k:=kPart) h hS he hsz
def kRule:Kind GR:=⟨3,RuleE,by decide,fun h hS he hsz=>by obtain⟨v,u,h1,h2,h3,h4⟩:=h;exact⟨v,u,h1,h2,h3.impL hS he hsz,h4.impL hS he hsz⟩,
 fun {_ _ l x} h=>by obtain⟨v,u,rfl,_,ht,hp⟩:=h;intro y hy;simp at hy;rcases hy with rfl|rfl|rfl<;>first|rfl|exact ListK.one (k:=kTerm) ht|exact ListK.one (k:=kPart) hp,fun h=>by obtain⟨v,u,rfl,_⟩:=h;rfl⟩
def jf9:Kind GC:=⟨2,jo6,by decide,fun h hS he hsz=>by obtain⟨v,u,h1,h2,h3⟩:=h;exact⟨v,u,h1,h2.impL hS he hsz,h3.impL hS he hsz⟩,
 fun {_ _ l x} h=>by obtain⟨v,u,rfl,ht,hp⟩:=h;intro y hy;simp at hy;rcases hy with rfl|rfl<;>first|exact ListK.one (k:=kAtom) ht|exact ListK.one (k:=kAtom) hp,fun h=>by obtain⟨v,u,rfl,_⟩:=h;rfl⟩
def jan (S:Nat->Prop):World->Value->List GC->Prop:=jaa S 2 (jo6 S)
theorem jan.impL {S S':Nat->Prop} {w w':World} {v:Value} {xs:List GC} (h:jan S w v xs) (hS:∀ b,S b->b<w.heap.size->S' b) (he:Agree S w w') (hsz:w.heap.size<=w'.heap.size):jan S' w' v xs:=ListK.imp (k:=jf9) h hS he hsz
theorem jan.ext {S:Nat->Prop} {w w':World} {v:Value} {xs:List GC} (h:jan S w v xs) (he:Ext w w'):jan S w' v xs:=h.impL (fun _ h _=>h) (.of_ext he) he.size
theorem jan.sub {S S':Nat->Prop} {w:World} {v:Value} {xs:List GC} (h:jan S w v xs) (hS:∀ b,S b->S' b):jan S' w v xs:=h.impL (fun b hb _=>hS b hb) (.refl _ _) (Nat.le_refl _)
theorem jan.at_ {S:Nat->Prop} {w:World} {A:Option Addr} {n c:Nat} {xs:List GC} (h:jan S w (.slice A n c) xs) {k:Nat} (hk:k<n) :
  ∃ (b off:Nat) (x:GC) (v u:Value),A=some ⟨b,off,none⟩/\b<w.heap.size/\xs[k]? = some x/\jab S w v x.comes/\jab S w u x.goes /\
    w.cell? ⟨b,off+k*2,none⟩=some v/\w.cell? ⟨b,off+k*2+1,none⟩=some u:=by
 obtain⟨b,off,x,cs,hA,hb,hx,_,hc,v,u,rfl,ht,hp⟩:=jaa.at_ h hk;exact⟨b,off,x,v,u,hA,hb,hx,ht,hp,hc 0 _ rfl,hc 1 _ rfl⟩
/-! ### Owned whole -/
def ju0 (S:Nat->Prop) (w:World) (cs:List Value) (p:GP):Prop:=∃ v,cs=[.bool p.no,.string p.atom.n,v]/\p.atom.n.size<=maxLen/\jbt S w v p.atom.args
def jx4:Kind GP:=⟨3,ju0,by decide,fun h hS he hsz=>by obtain⟨v,h1,h2,h3⟩:=h;exact⟨v,h1,h2,h3.imp hS he hsz⟩,
 fun {_ _ l x} h=>by obtain⟨v,rfl,_,ht⟩:=h;intro u hu;simp at hu;rcases hu with rfl|rfl|rfl<;>first|rfl|exact jae.one ht,fun h=>by obtain⟨v,rfl,_⟩:=h;rfl⟩
def jdn (S:Nat->Prop):World->Value->List GP->Prop:=jae jx4 S
theorem ju0.read {S T:Nat->Prop} {w:World} {l:List Value} {a:GP} (h:ju0 T w l a) (hS:∀ b,T b->S b):PartE S w l a:=by
 obtain⟨v,h1,h2,h3⟩:=h;exact⟨v,h1,h2,jad.sub h3.read hS⟩
theorem jdn.read {S:Nat->Prop} {w:World} {v:Value} {xs:List GP} (h:jdn S w v xs):jao S w v xs:=jae.read (k:=jx4) (E':=PartE) h (fun _ _ _ h hS=>ju0.read h hS)
def jea (S:Nat->Prop) (w:World) (cs:List Value) (r:GR):Prop:=∃ (v u:Value) (S1 S2:Nat->Prop),cs=[.string r.head.n,v,u]/\r.head.n.size<=maxLen/\jbt S1 w v r.head.args/\jdn S2 w u r.body/\(∀ b,S1 b->S b)/\(∀ b,S2 b->S b)/\∀ b,S1 b->¬ S2 b
theorem jea.imp {S S':Nat->Prop} {w w':World} {cs:List Value} {x:GR} (h:jea S w cs x) (hS:∀ b,S b->b<w.heap.size->S' b) (he:Agree S w w') (hsz:w.heap.size<=w'.heap.size):jea S' w' cs x:=by
 obtain⟨v,u,S1,S2,h1,h2,h3,h4,h5,h6,h7⟩:=h
 exact ⟨v,u,fun b=>S1 b/\b<w.heap.size,fun b=>S2 b/\b<w.heap.size,h1,h2,jae.imp h3 (fun b hb hlt=>⟨hb,hlt⟩) (fun b hb hlt=>he b (h5 b hb) hlt) hsz,
  jae.imp h4 (fun b hb hlt=>⟨hb,hlt⟩) (fun b hb hlt=>he b (h6 b hb) hlt) hsz,fun b hb=>hS b (h5 b hb.1) hb.2,fun b hb=>hS b (h6 b hb.1) hb.2,fun b hb hc=>h7 b hb.1 hc.1⟩
def jx5:Kind GR:=⟨3,jea,by decide,jea.imp,
 fun {_ _ l x} h=>by obtain⟨v,u,_,_,rfl,_,ht,hp,_⟩:=h;intro y hy;simp at hy;rcases hy with rfl|rfl|rfl<;>first|rfl|exact jae.one ht|exact jae.one hp,fun h=>by obtain⟨v,u,_,_,rfl,_⟩:=h;rfl⟩
def je7 (S:Nat->Prop):World->Value->List GR->Prop:=jae jx5 S
theorem jea.read {S T:Nat->Prop} {w:World} {l:List Value} {a:GR} (h:jea T w l a) (hS:∀ b,T b->S b):RuleE S w l a:=by
 obtain⟨v,u,S1,S2,h1,h2,h3,h4,h5,h6,h7⟩:=h;exact⟨v,u,h1,h2,jad.sub h3.read (fun b hb=>hS b (h5 b hb)),jao.sub h4.read (fun b hb=>hS b (h6 b hb))⟩
theorem je7.read {S:Nat->Prop} {w:World} {v:Value} {xs:List GR} (h:je7 S w v xs):jam S w v xs:=jae.read (k:=jx5) (E':=RuleE) h (fun _ _ _ h hS=>jea.read h hS)
def jbh (S:Nat->Prop) (w:World) (cs:List Value) (c:GC):Prop:=∃ (v u:Value) (S1 S2:Nat->Prop),cs=[v,u]/\jbn S1 w v c.comes/\jbn S2 w u c.goes/\(∀ b,S1 b->S b)/\(∀ b,S2 b->S b)/\∀ b,S1 b->¬ S2 b
theorem jbh.imp {S S':Nat->Prop} {w w':World} {cs:List Value} {x:GC} (h:jbh S w cs x) (hS:∀ b,S b->b<w.heap.size->S' b) (he:Agree S w w') (hsz:w.heap.size<=w'.heap.size):jbh S' w' cs x:=by
 obtain⟨v,u,S1,S2,h1,h3,h4,h5,h6,h7⟩:=h
 exact ⟨v,u,fun b=>S1 b/\b<w.heap.size,fun b=>S2 b/\b<w.heap.size,h1,jae.imp h3 (fun b hb hlt=>⟨hb,hlt⟩) (fun b hb hlt=>he b (h5 b hb) hlt) hsz,
  jae.imp h4 (fun b hb hlt=>⟨hb,hlt⟩) (fun b hb hlt=>he b (h6 b hb) hlt) hsz,fun b hb=>hS b (h5 b hb.1) hb.2,fun b hb=>hS b (h6 b hb.1) hb.2,fun b hb hc=>h7 b hb.1 hc.1⟩
def jo8:Kind GC:=⟨2,jbh,by decide,jbh.imp,
 fun {_ _ l x} h=>by obtain⟨v,u,_,_,rfl,ht,hp,_⟩:=h;intro y hy;simp at hy;rcases hy with rfl|rfl<;>first|exact jae.one ht|exact jae.one hp,fun h=>by obtain⟨v,u,_,_,rfl,_⟩:=h;rfl⟩
def jc6 (S:Nat->Prop):World->Value->List GC->Prop:=jae jo8 S
theorem jbh.read {S T:Nat->Prop} {w:World} {l:List Value} {a:GC} (h:jbh T w l a) (hS:∀ b,T b->S b):jo6 S w l a:=by
 obtain⟨v,u,S1,S2,h1,h3,h4,h5,h6,h7⟩:=h;exact⟨v,u,h1,jab.sub h3.read (fun b hb=>hS b (h5 b hb)),jab.sub h4.read (fun b hb=>hS b (h6 b hb))⟩
theorem jc6.read {S:Nat->Prop} {w:World} {v:Value} {xs:List GC} (h:jc6 S w v xs):jan S w v xs:=jae.read (k:=jo8) (E':=jo6) h (fun _ _ _ h hS=>jbh.read h hS)
end Go.Proofs.YthiflhkcpanaaaaGreatDoor
namespace Go.Proofs.YthiflhkcpanaaaaGreatDoor
open Go.RowKit
structure GB where
 rules:List GR
 time:Int
 given:List GA
 hist:List GC
def BaseR (S:Nat->Prop) (w:World) (v:Value) (B:GB):Prop:=∃ a b c:Value,v=.agg #[a,.int .i64 B.time,b,c]/\jam S w a B.rules/\jab S w b B.given/\jan S w c B.hist
theorem BaseR.ext {S:Nat->Prop} {w w':World} {v:Value} {B:GB} (h:BaseR S w v B) (he:Ext w w'):BaseR S w' v B:=by
 obtain⟨a,b,c,h1,h2,h3,h4⟩:=h;exact⟨a,b,c,h1,h2.ext he,h3.ext he,h4.ext he⟩
theorem BaseR.form {S:Nat->Prop} {w:World} {v:Value} {B:GB} (h:BaseR S w v B):∃ A1 c1 A2 c2 A3 c3,v=.agg #[.slice A1 B.rules.length c1,.int .i64 B.time,.slice A2 B.given.length c2,.slice A3 B.hist.length c3]:=by
 obtain⟨a,b,c,rfl,h2,h3,h4⟩:=h;obtain⟨A1,c1,rfl,_⟩:=jaa.form h2;obtain⟨A2,c2,rfl,_⟩:=jaa.form h3;obtain⟨A3,c3,rfl,_⟩:=jaa.form h4;exact⟨_,_,_,_,_,_,rfl⟩
theorem BaseR.low {S:Nat->Prop} {w:World} {v:Value} {B:GB} (h:BaseR S w v B):BaseR (fun i=>i<w.heap.size) w v B:=by
 obtain⟨a,b,c,h1,h2,h3,h4⟩:=h;exact⟨a,b,c,h1,ListK.sub (k:=kRule) (ListK.low (k:=kRule) h2) (fun _ h=>h.2),ListK.sub (k:=kAtom) (ListK.low (k:=kAtom) h3) (fun _ h=>h.2),ListK.sub (k:=jf9) (ListK.low (k:=jf9) h4) (fun _ h=>h.2)⟩
end Go.Proofs.YthiflhkcpanaaaaGreatDoor
namespace Go.Proofs.YthiflhkcpanaaaaGreatDoor
open Go.RowKit
def jgx (n:Nat) (listed:Array Bool):List Nat:=(List.range n).filter fun i=> !listed.getD i true
theorem jh5 {α:Type} {p q:α->Bool}:∀ {l:List α} {x:α},(∀ y∈l,q y=true->p y=true)->x∈l->p x=true->q x=false->(l.filter q).length<(l.filter p).length
 | [],x,_,hx,_,_=>by cases hx
 | y :: l,x,h,hx,hp,hq=>by
   have hle:(l.filter q).length<=(l.filter p).length:=by
    clear hx
    induction l with
    | nil=>simp
    | cons z l ih =>
      have h1:=ih (fun y hy=>h y (by
       rcases List.mem_cons.1 hy with rfl|hy
       . exact List.mem_cons_self
       exact List.mem_cons_of_mem _ (List.mem_cons_of_mem _ hy)))
      have h2:=h z (by simp);cases hqz:q z<;>cases hpz:p z<;>simp[List.filter_cons,hqz,hpz] at h2 ⊢ <;>omega
   rcases List.mem_cons.1 hx with rfl|hx
   . simp[List.filter_cons,hp,hq];omega
   have h1:=jh5 (l:=l) (fun y hy=>h y (List.mem_cons_of_mem _ hy)) hx hp hq;have h2:=h y List.mem_cons_self;cases hqz:q y<;>cases hpz:p y<;>simp[List.filter_cons,hqz,hpz] at h2 ⊢ <;>omega
section
variable {P:Program} {ops:Array Oper} {Q:Exit->Act->World->Prop} {md:Region.Mode}
theorem jx6 (I:(Nat->Bool)->Act->World->Prop)
  (hac:∀ i o,ops[i]? = some o->∀ e∈o.after,Region.binds md e=true->e.on<i)
  (hstep:∀ i o f a w,ops[i]? = some o->f i=false->(∀ e∈o.after,Region.binds md e=true->f e.on=true)->I f a w ->
   wpOp P ops Q i (I (fun j=>j == i || f j)) a w)
  (hend:∀ f a w,(∀ i,i<ops.size->f i=true)->I f a w->Q .normal a w) :
  ∀ (fuel:Nat) (listed:Array Bool) (a:Act) (w:World),listed.size=ops.size->(jgx ops.size listed).length<=fuel->I (fun j=>listed.getD j false) a w ->
    wpAny P md ops Q fuel listed a w:=by
 have hall:∀ listed:Array Bool,listed.size=ops.size->Region.ready md ops listed=[]->∀ i,i<ops.size->listed.getD i false=true:=by
  intro listed hsz hr i
  induction i using Nat.strongRecOn with
  | ind i ih =>
    intro hi
    cases hl:listed.getD i false with
    | true=>rfl
    | false =>
      exfalso
      have hlt:i<listed.size:=by omega
      have:i∈Region.ready md ops listed:=by
       rw[mem_ready];refine⟨by simpa [hlt] using hl,ops[i],by simp[hi],fun e he hb=>?_⟩;have h1:=hac i ops[i] (by simp[hi]) e he hb;exact ih _ h1 (by omega)
      rw[hr] at this;cases this
 intro fuel
 induction fuel with
 | zero =>
   intro listed a w hsz hfu hI
   have hr:Region.ready md ops listed=[]:=by
    cases hr:Region.ready md ops listed with
    | nil=>rfl
    | cons i rest =>
      exfalso
      have hi:i∈Region.ready md ops listed:=by rw[hr];exact List.mem_cons_self
      have hi2:=mem_ready.1 hi
      have:i∈jgx ops.size listed:=by
       unfold jgx;obtain⟨h0,o,ho,_⟩:=hi2;have hlt:i<ops.size:=(Array.getElem?_eq_some_iff.1 ho).1;rw[List.mem_filter,List.mem_range];exact⟨hlt,by simpa using h0⟩
      have hn:jgx ops.size listed=[]:=List.eq_nil_of_length_eq_zero (by omega);rw[hn] at this;cases this
   exact⟨hr,hend _ a w (hall listed hsz hr) hI⟩
 | succ fuel ih =>
   intro listed a w hsz hfu hI;refine⟨fun hr=>hend _ a w (hall listed hsz hr) hI,fun i hi=>?_⟩;obtain⟨h0,o,ho,haf⟩:=mem_ready.1 hi;have hlt:i<ops.size:=(Array.getElem?_eq_some_iff.1 ho).1;have hlt':i<listed.size:=by omega
   have h1:=hstep i o _ a w ho (by simpa [hlt'] using h0) haf hI;refine wpOp_mono (fun a' w' h=>ih _ a' w' (by simpa using hsz) ?_ ?_) h1
   . have := jh5 (l:=List.range ops.size) (p:=fun j=> !listed.getD j true) (q:=fun j=> !(listed.setIfInBounds i true).getD j true) (x:=i)
       (fun y _ hy=>by
        by_cases hiy:i=y
        . subst hiy;simp[hlt'] at hy
        rw[getD_set_ne true hiy] at hy;exact hy)
       (List.mem_range.2 hlt) (by simpa using h0) (by simp[hlt'])
     unfold jgx at hfu ⊢;omega
   have he:(fun j=>(listed.setIfInBounds i true).getD j false)=fun j=>j == i || listed.getD j false:=by
     funext j
     by_cases hj:i=j
     . subst hj;simp[hlt']
     rw[getD_set_ne false hj];simp[show (j == i)=false by simpa using Ne.symm hj]
   rw[he];exact h
theorem jo9 {id:Nat} {a:Act} {w:World} (hm:P.follows .mixedOrders=true) (I:(Nat->Bool)->Act->World->Prop)
  (hac:∀ i o,ops[i]? = some o->∀ e∈o.after,Region.binds .any e=true->e.on<i)
  (hstep:∀ i o f a w,ops[i]? = some o->f i=false->(∀ e∈o.after,Region.binds .any e=true->f e.on=true)->I f a w ->
   wpOp P ops Q i (I (fun j=>j == i || f j)) a w)
  (hend:∀ f a w,(∀ i,i<ops.size->f i=true)->I f a w->Q .normal a w)
  (hat:I (fun _=>false) a { w with drawn:=w.drawn+1 }):(Code.region id ops true).wp P Q a w:=by
 refine wp_region_any hm (jx6 I hac hstep hend ops.size _ a _ (by simp) ?_ ?_)
 . unfold jgx
   exact Nat.le_trans (List.length_filter_le _ _) (by simp)
 have:(fun j=>(Array.replicate ops.size false).getD j false)=fun _=>false:=by
   funext j
   by_cases h:j<ops.size<;>simp[Array.getD,h]
 rw[this];exact hat
end
def jx7 (ops:Array Oper) (f:Nat->Bool):Prop:=∀ j o,ops[j]? = some o->f j=true->∀ e∈o.after,Region.binds .any e=true->f e.on=true
theorem je3 {P:Program} {ops:Array Oper} {Q:Exit->Act->World->Prop} {id:Nat} {a:Act} {w:World} (hm:P.follows .mixedOrders=true) (I:(Nat->Bool)->Act->World->Prop)
  (hac:∀ i o,ops[i]? = some o->∀ e∈o.after,Region.binds .any e=true->e.on<i)
  (hstep:∀ i o f a w,ops[i]? = some o->f i=false->jx7 ops f->(∀ e∈o.after,Region.binds .any e=true->f e.on=true)->I f a w ->
   wpOp P ops Q i (I (fun j=>j == i || f j)) a w)
  (hend:∀ f a w,(∀ i,i<ops.size->f i=true)->I f a w->Q .normal a w)
  (hat:I (fun _=>false) a { w with drawn:=w.drawn+1 }):(Code.region id ops true).wp P Q a w:=by
 refine jo9 hm (fun f a w=>jx7 ops f/\I f a w) hac ?_ (fun f a w h hI=>hend f a w h hI.2) ⟨fun _ _ _ h=>by simp at h,hat⟩;intro i o f a w ho hfi haf hI;refine wpOp_mono (fun a' w' h=>⟨fun j o' ho' hj e he hb=>?_,h⟩) (hstep i o f a w ho hfi hI.1 haf hI.2);by_cases hji:j=i
 . subst hji
   rw[ho] at ho';cases ho'
   simp[haf e he hb]
 have hj':f j=true:=by simpa [hji] using hj
 simp[hI.1 j o' ho' hj' e he hb]
theorem jax {P:Program} {ops:Array Oper} {Q:Exit->Act->World->Prop} {i:Nat} {o:Oper} {K:Act->World->Prop} {a:Act} {w:World} (ho:ops[i]? = some o) (hg:o.guard=none) (h:o.wp P a w K Q):wpOp P ops Q i K a w:=by
 unfold wpOp;simp only[ho];have hw:Region.wanted o (yielded ops a.tmps)=true:=by simp[Region.wanted,hg]
 rw[if_pos hw];exact .inl h
abbrev Lot (α:Type):=Nat->Option (Value × List α)
def Lot.upd {α:Type} (L:Lot α) (i:Nat) (p:Value × List α):Lot α:=fun j=>if j=i then some p else L j
def SepK {α:Type} (k:Kind α) (N:Nat) (e:TypeId) (w:World) (L:Lot α):Prop :=
 (∀ i p,L i=some p->OwnK k N e None w p.1 p.2)/\∀ i j p q,i≠j->L i=some p->L j=some q->∀ g,p.1.ownBlock=some g->q.1.ownBlock≠some g
section
variable {α:Type} {k:Kind α} {N:Nat} {e:TypeId} {w w':World} {L:Lot α}
theorem SepK.at_ (h:SepK k N e w L) {i:Nat} {v:Value} {xs:List α} (hi:L i=some (v,xs)):OwnK k N e None w v xs:=h.1 i _ hi
theorem SepK.none:SepK k N e w (fun _=>.none):=⟨fun _ _ h=>(by cases h),fun _ _ _ _ _ h=>(by cases h)⟩
theorem SepK.ext (h:SepK k N e w L) (he:Ext w w'):SepK k N e w' L:=⟨fun i p hp=>(h.1 i p hp).ext he,h.2⟩
theorem SepK.put (h:SepK k N e w L) (he:Ext w w') (i:Nat) {v:Value} {xs:List α} (hv:OwnK k N e None w' v xs) (hg:∀ g,v.ownBlock=some g->w.heap.size<=g):SepK k N e w' (L.upd i (v,xs)):=by
 have hlt:∀ j q,L j=some q->∀ g,q.1.ownBlock=some g->g<w.heap.size:=fun j q hq g h2=>((h.1 j q hq).at_ g h2).2
 refine⟨fun j p hp=>?_,fun a b p q hab hp hq g h1 h2=>?_⟩
 . unfold Lot.upd at hp
   split at hp
   . cases hp;exact hv
   exact (h.1 j p hp).ext he
 unfold Lot.upd at hp hq;split at hp<;>split at hq
 . omega
 . cases hp;have:=hg g h1;have:=hlt b q hq g h2;omega
 . cases hq;have:=hg g h2;have:=hlt a p hp g h1;omega
 exact h.2 a b p q hab hp hq g h1 h2
theorem SepK.app (h:SepK k N e w L) {i:Nat} {v v':Value} {xs zs:List α} (hi:L i=some (v,xs)) (ha:Apped k N e None w v zs v' w'):SepK k N e w' (L.upd i (v',zs)):=by
 have hlt:∀ j q,L j=some q->∀ g,q.1.ownBlock=some g->g<w.heap.size:=fun j q hq g h2=>((h.1 j q hq).at_ g h2).2
 have hne:∀ j q,j≠i->L j=some q->∀ g,q.1.ownBlock=some g->v'.ownBlock≠some g:=fun j q hji hq g h2 h3=>by
  rcases ha.at_ with h4|h4
  . exact h.2 j i q _ hji hq hi g h2 (h4▸h3)
  rw[h4] at h3;cases h3;exact absurd (hlt j q hq _ h2) (Nat.lt_irrefl _)
 refine⟨fun j p hp=>?_,fun a b p q hab hp hq g h1 h2=>?_⟩
 . unfold Lot.upd at hp
   split at hp
   . cases hp;exact ha.own
   rename_i hji;refine (h.1 j p hp).agree (fun b hb=>hb.elim) (fun g hg=>?_) ha.grown.size;exact ha.grown.block g (hlt j p hp g hg) (fun e=>h.2 j i p _ hji hp hi g hg e.symm)
 unfold Lot.upd at hp hq;split at hp<;>split at hq
 . omega
 . cases hp;exact hne b q (by omega) hq g h2 h1
 . cases hq;exact hne a p (by omega) hp g h1 h2
 exact h.2 a b p q hab hp hq g h1 h2
end
theorem OwnK.word {N:Nat} {e:TypeId} {w:World} {x:ByteArray} (hb:N<=w.heap.size) (hx:x.size<=maxLen) :
  OwnK kStr N e None (w.alloc (.cells #[.string x] e)) (.slice (some ⟨w.heap.size,0,none⟩) 1 1) [x] :=
 ⟨[.string x],fun _=>False,⟨rfl,.inr ⟨w.heap.size,1,#[.string x],rfl,hb,Blk.new w e _,Nat.le_refl _,by unfold maxLen;omega,rfl,rfl⟩⟩,RowsE.one rfl ⟨rfl,hx⟩,fun _ h=>h.elim,fun _ _ h=>h⟩
end Go.Proofs.YthiflhkcpanaaaaGreatDoor
namespace Go.Proofs.YthiflhkcpanaaaaGreatDoor
open Go.RowKit
def jka (c:UInt8):Bool:=decide ((97<=c.toNat/\c.toNat<=122)∨(48<=c.toNat/\c.toNat<=57))
def upper (c:UInt8):Bool:=decide (65<=c.toNat/\c.toNat<=90)
def jc5 (l:List UInt8):Bool:=l.all jka
def inB (n lo hi:Int):Bool:=decide (lo<=n/\n<=hi)
theorem jta {n lo hi:Int} (h1:lo<=n) (h2:n<=hi):inB n lo hi=true:=decide_eq_true ⟨h1,h2⟩
theorem jx8 {n lo hi:Int} (h1:n<lo):inB n lo hi=false:=decide_eq_false (by omega)
theorem ju1 {n lo hi:Int} (h1:hi<n):inB n lo hi=false:=decide_eq_false (by omega)
def jbu (s:ByteArray):Bool:=jc5 s.data.toList && inB s.size 1 8
def isNot (s:ByteArray):Bool:=s.toList == [110,111,116]
def jaz (s:ByteArray):Bool:=jbu s && !(isNot s)
def capB (s:ByteArray):Bool:=match s.data.toList with | []=>false|c :: _=>upper c
def jcj (s:ByteArray):Bool:=capB s && decide (s.size<=8) && jc5 (s.data.toList.drop 1)
def ja3 (t:GT):Bool:=if t.v then jcj t.n else jaz t.n
def jat (a:GA):Bool:=jaz a.n && decide (a.args.length<=3) && a.args.all ja3
def factB (a:GA):Bool:=jat a && a.args.all fun t=> !t.v
theorem ji4 {c:UInt8} (h:jka c=true):(97<=c.toNat/\c.toNat<=122)∨(48<=c.toNat/\c.toNat<=57):=of_decide_eq_true h
theorem jqp {c:UInt8} (h:jka c=false):c.toNat<48∨(57<c.toNat/\c.toNat<97)∨122<c.toNat:=by
 have:=of_decide_eq_false h;omega
theorem jfn (l:List UInt8) (c:UInt8):jc5 (l++[c])=(jc5 l && jka c):=by simp[jc5]
theorem jnt (s:ByteArray) (k:Nat) (h:k<s.size):s.data.toList.take (k+1)=s.data.toList.take k++[s[k]]:=by
 rw[List.take_succ_eq_append_getElem (by simpa using h)];rfl
theorem ju2 (s:ByteArray):s.data.toList.take s.size=s.data.toList:=List.take_of_length_le (by simp)
theorem jkb {l:List UInt8} {k:Nat} (h:jc5 (l.take k)=false):jc5 l=false:=by
 rw[<- List.take_append_drop k l];unfold jc5 at h ⊢;rw[List.all_append,h];rfl
theorem jqq (s:ByteArray) (k:Nat):(s.extract k s.size).data.toList=s.data.toList.drop k:=by
 simp only[ByteArray.data_extract,Array.toList_extract];rw[List.extract_eq_take_drop];exact List.take_of_length_le (by simp)
theorem jlo (s:ByteArray) (k:Nat) (_h:k<=s.size):(s.extract k s.size).size=s.size-k:=by
 simp[ByteArray.size_extract]
theorem jga {s:ByteArray} (h:0<s.size):capB s=upper s[0]:=by
 unfold capB
 have h1:s.data.toList=s[0] :: s.data.toList.drop 1:=by
  have h2:0<s.data.toList.length:=by simpa using h
  have h3:=List.drop_eq_getElem_cons h2;rw[List.drop_zero] at h3;exact h3
 rw[h1]
theorem jwb {s:ByteArray} (hp:0<s.size) (hu:upper s[0]=true) (h1:¬ s.size=1):jcj s=(jbu (s.extract 1 s.size) && decide (s.size<=8)):=by
 unfold jcj jbu;rw[jga hp,hu,jqq,jlo s 1 (by omega)];by_cases h8:s.size<=8
 . rw[jta (by omega) (by omega)];simp[h8]
 simp[h8]
theorem jbo {α:Type} (p:α->Bool) (l:List α) (k:Nat) (x:α) (h:l[k]? = some x):(l.take (k+1)).all p=((l.take k).all p && p x):=by
 obtain⟨hk,rfl⟩:=List.getElem?_eq_some_iff.1 h;rw[List.take_succ_eq_append_getElem hk,List.all_append];simp
theorem jbc {α:Type} (p:α->Bool) (l:List α) (k:Nat) (x:α) (h:l[k]? = some x) (hp:p x=false):l.all p=false:=by
 rw[List.all_eq_false];exact⟨x,List.mem_of_getElem? h,by simp[hp]⟩
theorem jbl {α:Type} (p:α->Bool) (l:List α) (k:Nat) (hk:¬ k<l.length) (h:(l.take k).all p=true):l.all p=true:=by
 rwa [List.take_of_length_le (by omega)] at h
theorem je8:∀ (x y:List UInt8),Lib.compareBytes x y=if Op.bytesLess x y=true then -1 else if (x == y)=true then 0 else 1
 | [],[]=>rfl
 | [],_ :: _=>rfl
 | _ :: _,[]=>rfl
 | a :: x,b :: y=>by
   have ih:=je8 x y;unfold Lib.compareBytes Op.bytesLess;by_cases h1:a<b
   . simp[h1]
   by_cases h2:b<a
   . have hne:¬ a=b:=fun e=>h1 (e▸h2)
     simp[h1,h2,hne]
   have hab:a=b:=by
     have h3:=UInt8.not_lt.1 h1;have h4:=UInt8.not_lt.1 h2;exact UInt8.le_antisymm h4 h3
   subst hab;simp[h1,ih]
def cmpS (a b:ByteArray):Int:=Lib.compareBytes a.data.toList b.data.toList
theorem jqr {a b:ByteArray} (h:Op.bytesLess a.toList b.toList=true):cmpS a b = -1:=by
 unfold cmpS;rw[je8,<- ByteArray.toList_eq,<- ByteArray.toList_eq,if_pos h]
theorem jqs {a b:ByteArray} (h1:Op.bytesLess a.toList b.toList=false) (h:(!a.toList == b.toList)=false):cmpS a b=0:=by
 unfold cmpS;rw[je8,<- ByteArray.toList_eq,<- ByteArray.toList_eq,if_neg (by simp[h1]),if_pos (by simpa using h)]
theorem jqt {a b:ByteArray} (h1:Op.bytesLess a.toList b.toList=false) (h:(!a.toList == b.toList)=true):cmpS a b=1:=by
 unfold cmpS;rw[je8,<- ByteArray.toList_eq,<- ByteArray.toList_eq,if_neg (by simp[h1]),if_neg (by simpa using h)]
def jdf:List GT->List GT->Int
 | [],[]=>0
 | [],_ :: _=> -1
 | _ :: _,[]=>1
 | s :: x,t :: y=>if cmpS s.n t.n=0 then jdf x y else cmpS s.n t.n
def cmpA (a b:GA):Int:=if cmpS a.n b.n=0 then jdf a.args b.args else cmpS a.n b.n
theorem jnu (a b:ByteArray):cmpS a b = -1∨cmpS a b=0∨cmpS a b=1:=by
 unfold cmpS;rw[je8];split
 . exact .inl rfl
 split
 . exact .inr (.inl rfl)
 exact .inr (.inr rfl)
theorem jbq {α:Type} {l:List α} {k:Nat} {x:α} (h:l[k]? = some x):l.drop k=x :: l.drop (k+1):=by
 obtain⟨hk,rfl⟩:=List.getElem?_eq_some_iff.1 h;exact List.drop_eq_getElem_cons hk
def jdr (x y:List GT) (k:Nat) (q:Int):Int:=if q=0 then jdf (x.drop k) (y.drop k) else q
theorem jgb {x y:List GT} {k:Nat} {s t:GT} (hs:x[k]? = some s) (ht:y[k]? = some t):jdr x y k 0=jdr x y (k+1) (cmpS s.n t.n):=by
 unfold jdr;rw[if_pos rfl,jbq hs,jbq ht];rfl
theorem jgc {x y:List GT} {k:Nat} {q:Int} (h:¬ q=0):jdr x y k q=q:=if_neg h
theorem jds {x y:List GT} {k:Nat} (h:x.length<=k∨y.length<=k) (hk:k<=x.length/\k<=y.length) :
  jdr x y k 0=if x.length<y.length then -1 else if y.length<x.length then 1 else 0:=by
 unfold jdr;rw[if_pos rfl];rcases Nat.lt_or_ge k x.length with h1|h1
 . have h2:y.length<=k:=by omega
   rw[jbq (List.getElem?_eq_getElem h1),List.drop_eq_nil_of_le h2,if_neg (by omega),if_pos (by omega)];rfl
 rcases Nat.lt_or_ge k y.length with h2|h2
 . rw[jbq (List.getElem?_eq_getElem h2),List.drop_eq_nil_of_le h1,if_pos (by omega)];rfl
 rw[List.drop_eq_nil_of_le h1,List.drop_eq_nil_of_le h2,if_neg (by omega),if_neg (by omega)];rfl
theorem ju3 (n lo hi:Int) (w:World) :
  Calls Tryz.prog 126 #[.int .i64 n,.int .i64 lo,.int .i64 hi] w fun e w'=>e=.returned (.bool (inB n lo hi))/\w'=w:=by
 by_cases h1:lo<=n
 . by_cases h2:n<=hi
   . have HD:=zh (jta h1 h2)
     go_in;go_wp2;go_ret;exact⟨by rw[HD.o];rfl,rfl⟩
   have HD:=zh (ju1 (lo:=lo) (Int.not_le.1 h2))
   go_in;go_wp2;go_ret;exact⟨by rw[HD.o];rfl,rfl⟩
 have HD:=zh (jx8 (hi:=hi) (Int.not_le.1 h1))
 go_in;go_wp2;go_ret;exact⟨by rw[HD.o];rfl,rfl⟩
theorem jh6 (s:ByteArray) (w:World) (hs:s.size<=maxLen) :
  Calls Tryz.prog 247 #[.string s] w fun e w'=>e=.returned (.bool (jbu s))/\w'=w:=by
 unfold maxLen at hs
 go_in;go_wp2
 go_loop [3] (fun i=>∃ k:Nat,k<=s.size/\i=.int .i64 k/\J1 (jc5 (s.data.toList.take k)=true)) (fun i=>s.size-(intOf i).toNat)
 case atStart=>exact⟨0,Nat.zero_le _,rfl,rfl⟩
 case round =>
  obtain⟨k,hk,rfl,hp⟩:=hrel;by_cases hlt:k<s.size
  . have HT:=zh (jnt s k hlt)
    have hc:s[k].toNat<256:=s[k].toNat_lt;cases hd:jka s[k]
    . have HF:=zh (show jbu s=false from by
        have:jc5 (s.data.toList.take (k+1))=false:=by rw[HT.o,jfn,hd,Bool.and_false]
        unfold jbu;rw[jkb this];rfl)
      rcases jqp hd with h|h|h
      all_goals
       clear hd;go_wp2;go_ret;exact⟨by rw[HF.o];rfl,rfl⟩
    have HP:=zh (show jc5 (s.data.toList.take (k+1))=true from by rw[HT.o,jfn,hd,hp.o];rfl);rcases ji4 hd with h|h
    all_goals
     clear hd;go_wp2
     go_round
     case rel=>exact⟨k+1,by omega,by go_num,HP⟩
     case measure=>simp[intOf];omega
  have HF:=zh (show inB s.size 1 8=jbu s from by
    have hkk:k=s.size:=by omega
    have hp1:=hp.o;rw[hkk,ju2] at hp1;unfold jbu;rw[hp1];rfl)
  go_wp2_with (go_at_call 126;refine (ju3 _ _ _ _).mono ?_;rintro e w' ⟨rfl,rfl⟩)
  go_ret;exact⟨by rw[<- HF.o];rfl,rfl⟩
theorem jhd (s:ByteArray) (w:World) (hs:s.size<=maxLen) :
  Calls Tryz.prog 209 #[.string s] w fun e w'=>e=.returned (.bool (jaz s))/\w'=w:=by
 have hw:=jh6 s w hs;cases hl:jbu s
 . have HF:=zh (show jaz s=false from by unfold jaz;rw[hl];rfl)
   rw[hl] at hw;have HW:=zh hw;clear hw hl
   go_in;go_wp2_with (go_at_call 247;refine HW.o.mono ?_;rintro e w' ⟨rfl,rfl⟩)
   go_ret;exact⟨by rw[HF.o];rfl,rfl⟩
 have HF:=zh (show jaz s = !(isNot s) from by unfold jaz;rw[hl];rfl);rw[hl] at hw;have HW:=zh hw;clear hw hl
 go_in;go_wp2_with (go_at_call 247;refine HW.o.mono ?_;rintro e w' ⟨rfl,rfl⟩)
 go_ret;exact⟨by rw[HF.o];rfl,rfl⟩
theorem jai {P:Program} {f:FuncId} {args:Array Value} {w:World} {b:Bool} {R:World->Prop} (h:Calls P f args w fun e w'=>e=.returned (.bool b)/\R w') :
  (b=true->Calls P f args w fun e w'=>e=.returned (.bool true)/\R w')/\(b=false->Calls P f args w fun e w'=>e=.returned (.bool false)/\R w') :=
 ⟨fun hb=>by rw[hb] at h;exact h,fun hb=>by rw[hb] at h;exact h⟩
theorem jwc (t:GT) (w:World) (hs:t.n.size<=maxLen) :
  Calls Tryz.prog 208 #[.agg #[.bool t.v,.string t.n]] w fun e w'=>e=.returned (.bool (ja3 t))/\Ext w w':=by
 obtain⟨v,s⟩:=t;cases v
 . have HF:=zh (show ja3 ⟨false,s⟩=jaz s from rfl)
   go_in;go_wp2_with (go_at_call 209;refine (jhd s _ hs).mono ?_;rintro e w' ⟨rfl,rfl⟩)
   go_ret;exact⟨by rw[HF.o];rfl,(Ext.refl _).alloc _⟩
 have HF:=zh (show ja3 ⟨true,s⟩=jcj s from rfl);have hm:s.size<=9223372036854775807:=hs;by_cases h0:s.size=0
 . have HC:=zh (show jcj s=false from by
     have:s.data.toList=[]:=by apply List.eq_nil_of_length_eq_zero;simpa using h0
     unfold jcj capB;rw[this];rfl)
   have H0:=zh h0;have hz:(((s.size:Nat):Int) == 0)=true:=by simp[h0]
   clear h0
   go_in;go_wp2;go_ret;exact⟨by rw[HF.o,HC.o];rfl,(Ext.refl _).alloc _⟩
 have hp:0<s.size:=Nat.pos_of_ne_zero h0;have hz:(((s.size:Nat):Int) == 0)=false:=by rw[beq_eq_false_iff_ne];omega
 have hc:s[0].toNat<256:=s[0].toNat_lt;cases hu:upper s[0]
 . have HC:=zh (show jcj s=false from by unfold jcj;rw[jga hp,hu];rfl)
   have hr:s[0].toNat<65∨90<s[0].toNat:=by have h9:=of_decide_eq_false hu;clear hs hz;omega
   clear hu;rcases hr with hr|hr
   all_goals
    go_in;go_wp2;go_ret;exact⟨by rw[HF.o,HC.o];rfl,(Ext.refl _).alloc _⟩
 obtain⟨hr1,hr2⟩:=of_decide_eq_true hu;by_cases h1:s.size=1
 . have HC:=zh (show jcj s=true from by
     have hd:s.data.toList.drop 1=[]:=by apply List.eq_nil_of_length_eq_zero;simp[h1]
     unfold jcj;rw[jga hp,hu,hd,h1];rfl)
   have hy:(((s.size:Nat):Int) == 1)=true:=by simp[h1]
   have H1:=zh h1;clear h1 hu
   go_in;go_wp2;go_ret;exact⟨by rw[HF.o,HC.o];rfl,(Ext.refl _).alloc _⟩
 have hy:(((s.size:Nat):Int) == 1)=false:=by rw[beq_eq_false_iff_ne];omega
 have hv:=jwb hp hu h1;have hw:=jai (jh6 (s.extract 1 s.size) (w.alloc (.cells #[.bool true,.string s] 157)) (by rw[jlo _ _ hp];exact Nat.le_trans (Nat.sub_le _ _) hs));cases hl:jbu (s.extract 1 s.size)
 . have HX:=zh (show jcj s=false from by rw[hv,hl];rfl)
   have HW:=zh (hw.2 hl);clear h1 hu hw hv hl
   go_in;go_wp2_with (go_at_call 247;refine HW.o.mono ?_;rintro e w1 ⟨rfl,rfl⟩)
   go_ret;exact⟨by rw[HF.o,HX.o];rfl,(Ext.refl _).alloc _⟩
 have HW:=zh (hw.1 hl);by_cases h8:s.size<=8
 . have HX:=zh (show jcj s=true from by rw[hv,hl];simp[h8])
   clear h1 hu hw hv hl
   go_in;go_wp2_with (go_at_call 247;refine HW.o.mono ?_;rintro e w1 ⟨rfl,rfl⟩)
   go_ret;exact⟨by rw[HF.o,HX.o];exact ja6 (by simp;omega),(Ext.refl _).alloc _⟩
 have HX:=zh (show jcj s=false from by rw[hv,hl];simp[h8]);clear h1 hu hw hv hl
 go_in;go_wp2_with (go_at_call 247;refine HW.o.mono ?_;rintro e w1 ⟨rfl,rfl⟩)
 go_ret;exact⟨by rw[HF.o,HX.o];exact ja6 (by simp;omega),(Ext.refl _).alloc _⟩
theorem je4 (a:GA) (v:Value) (w:World) {S:Nat->Prop} (hs:a.n.size<=maxLen) (hv:jad S w v a.args) :
  Calls Tryz.prog 157 #[.agg #[.string a.n,v]] w fun e w'=>e=.returned (.bool (jat a))/\Ext w w':=by
 obtain⟨A,c,rfl,hc1,hc2⟩:=jaa.form hv;have HV:=zh (hv.ext ((Ext.refl w).alloc (.cells #[.string a.n,.slice A a.args.length c] 69)));clear hv
 go_in;go_wp2;go_loopw [3] (fun i wr=>∃ k:Nat,k<=a.args.length/\i=.int .i64 k/\J1 ((a.args.take k).all ja3=true)/\Ext (w.alloc (.cells #[.string a.n,.slice A a.args.length c] 69)) wr) (fun i _=>a.args.length-(intOf i).toNat)
 case atStart=>exact⟨0,Nat.zero_le _,rfl,rfl,Ext.refl _⟩
 case round =>
  obtain⟨k,hk,rfl,hp,hx⟩:=hrel;obtain⟨hcc,hcf⟩:=hx.cells;by_cases hlt:k<a.args.length
  . obtain ⟨b,off,x,rfl,hb,hxk,hxs,hc0,hc1⟩:=jad.at_ (HV.o.ext hx) hlt
    have HK:=zh hxk;have hw:=jai (jwc x wr hxs);clear hxk;cases ht:ja3 x
    . have HF:=zh (show jat a=false from by unfold jat;rw[jbc _ _ k x HK.o ht,Bool.and_false])
      have HW:=zh (hw.2 ht);clear hw ht;go_wp2_with (go_at_call 208;refine HW.o.mono ?_;rintro e w1 ⟨rfl,hx1⟩)
      go_ret;exact⟨by rw[HF.o];rfl,((Ext.refl _).alloc _).t (hx.t hx1)⟩
    have HP:=zh (show (a.args.take (k+1)).all ja3=true from by rw[jbo _ _ k x HK.o,hp.o,ht];rfl);have HW:=zh (hw.1 ht);clear hw ht;go_wp2_with (go_at_call 208;refine HW.o.mono ?_;rintro e w1 ⟨rfl,hx1⟩)
    go_roundw
    case rel=>exact⟨k+1,by omega,by go_num,HP,hx.t hx1⟩
    case measure=>simp[intOf];omega
  have hall:=jbl _ _ k hlt hp.o;have hw:=jai (jhd a.n wr hs);clear hp;cases hn:jaz a.n
  . have HF:=zh (show jat a=false from by unfold jat;rw[hn];rfl)
    have HW:=zh (hw.2 hn);clear hw hn hall;go_wp2_with (go_at_call 209;refine HW.o.mono ?_;rintro e w1 ⟨rfl,rfl⟩)
    go_ret;exact⟨by rw[HF.o];rfl,((Ext.refl _).alloc _).t hx⟩
  have HF:=zh (show jat a=decide (a.args.length<=3) from by unfold jat;rw[hn,hall];simp);have HW:=zh (hw.1 hn);clear hw hn hall;go_wp2_with (go_at_call 209;refine HW.o.mono ?_;rintro e w1 ⟨rfl,rfl⟩)
  go_ret;exact⟨by rw[HF.o];exact ja6 (by simp;omega),((Ext.refl _).alloc _).t hx⟩
theorem jlp (a b:ByteArray) (w:World) :
  Calls Tryz.prog 254 #[.string a,.string b] w fun e w'=>e=.returned (.int .i64 (cmpS a b))/\w'=w:=by
 go_in;go_wp2
 . go_ret
   exact⟨by rw[jqr (by assumption)];rfl,rfl⟩
 . go_ret
   exact⟨by rw[jqt (by assumption) (by assumption)];rfl,rfl⟩
 go_ret;exact⟨by rw[jqs (by assumption) (by assumption)];rfl,rfl⟩
theorem jqu (a b:GA) (v u:Value) (w:World) {S T:Nat->Prop} (hv:jad S w v a.args) (hu:jad T w u b.args) :
  Calls Tryz.prog 241 #[.agg #[.string a.n,v],.agg #[.string b.n,u]] w fun e w'=>e=.returned (.int .i64 (cmpA a b))/\Ext w w':=by
 obtain⟨A,c,rfl,hc1,hc2⟩:=jaa.form hv;obtain⟨B,d,rfl,hd1,hd2⟩:=jaa.form hu;have HV:=zh (hv.ext (((Ext.refl w).alloc (.cells #[.string a.n,.slice A a.args.length c] 69)).alloc (.cells #[.string b.n,.slice B b.args.length d] 69)));have HU:=zh (hu.ext (((Ext.refl w).alloc (.cells #[.string a.n,.slice A a.args.length c] 69)).alloc (.cells #[.string b.n,.slice B b.args.length d] 69)));clear hv hu;have hr0:=jnu a.n b.n
 go_in;go_wp2_with (go_at_call 254;refine (jlp _ _ _).mono ?_;rintro e w' ⟨rfl,rfl⟩)
 go_loopw [5,6] (fun q i wr=>∃ (k:Nat) (z:Int),(k<=a.args.length/\k<=b.args.length)/\i=.int .i64 k/\q=.int .i64 z/\J1 (cmpA a b=jdr a.args b.args k z)/\(z = -1∨z=0∨z=1)/\Ext ((w.alloc (.cells #[.string a.n,.slice A a.args.length c] 69)).alloc (.cells #[.string b.n,.slice B b.args.length d] 69)) wr) (fun _ i _=>a.args.length-(intOf i).toNat)
 case atStart=>exact⟨0,_,⟨Nat.zero_le _,Nat.zero_le _⟩,rfl,rfl,rfl,hr0,Ext.refl _⟩
 case round =>
  obtain⟨k,z,⟨hk1,hk2⟩,rfl,rfl,hz,hzr,hx⟩:=hrel;obtain⟨hcc,hcf⟩:=hx.cells;clear hr0;by_cases hq:z=0
  . have hq0:((z:Int) == 0)=true:=by simp[hq]
    obtain rfl:(0:Int)=z:=hq.symm;clear hzr hq hq0;by_cases h1:k<a.args.length
    . by_cases h2:k<b.args.length
      . obtain ⟨ba,offa,x,rfl,hba,hxk,hxs,hx0,hx1⟩:=jad.at_ (HV.o.ext hx) h1
        obtain⟨bb,offb,y,rfl,hbb,hyk,hys,hy0,hy1⟩:=jad.at_ (HU.o.ext hx) h2;have HZ:=zh (hz.o.trans (jgb hxk hyk));have hr1:=zh (jnu x.n y.n);have hk0:(0:Int)<=(k:Int):=Int.natCast_nonneg _;have hi1:(k:Int)<(a.args.length:Int):=by omega
        have hi2:(k:Int)<(b.args.length:Int):=by omega
        clear hxk hyk hz;go_wp2_with fail
        go_still_tail 12,(by kernel_rfl)
        change wpList _ _ _ _ _ wr.drew;go_wp2_with (go_at_call 254;refine (jlp _ _ _).mono ?_;rintro e w1 ⟨rfl,rfl⟩)
        go_roundw
        case rel=>exact⟨k+1,_,⟨by omega,by omega⟩,by go_num,rfl,HZ,hr1.o,hx.drew⟩
        case measure=>simp[intOf];omega
      have HZ:=zh (hz.o.trans (jds (.inr (by omega)) ⟨hk1,hk2⟩));clear hz;have hl:b.args.length<a.args.length:=by omega
      go_wp2;go_ret;exact⟨by rw[HZ.o,if_neg (by omega),if_pos hl];rfl,(((Ext.refl _).alloc _).alloc _).t hx⟩
    have HZ:=zh (hz.o.trans (jds (.inl (by omega)) ⟨hk1,hk2⟩));clear hz;by_cases hl:a.args.length<b.args.length
    . go_wp2
      go_ret;exact⟨by rw[HZ.o,if_pos hl];rfl,(((Ext.refl _).alloc _).alloc _).t hx⟩
    go_wp2;go_ret;exact⟨by rw[HZ.o,if_neg (by omega),if_neg (by omega)];rfl,(((Ext.refl _).alloc _).alloc _).t hx⟩
  have HZ:=zh (hz.o.trans (jgc hq));have hq0:((z:Int) == 0)=false:=by simp[hq]
  have hq1:((z:Int) != 0)=true:=by simp[hq]
  clear hz hq hzr;by_cases h1:k<a.args.length
  . by_cases h2:k<b.args.length
    . go_wp2
      go_ret;exact⟨by rw[HZ.o];rfl,(((Ext.refl _).alloc _).alloc _).t hx⟩
    go_wp2;go_ret;exact⟨by rw[HZ.o];rfl,(((Ext.refl _).alloc _).alloc _).t hx⟩
  go_wp2;go_ret;exact⟨by rw[HZ.o];rfl,(((Ext.refl _).alloc _).alloc _).t hx⟩
def noVar (t:GT):Bool:= !t.v
theorem jqv {t:GT} (h:t.v=false):noVar t=true:=by unfold noVar;rw[h];rfl
theorem ju4 {t:GT} (h:t.v=true):noVar t=false:=by unfold noVar;rw[h];rfl
theorem jkc (a:GA) (v:Value) (w:World) {S:Nat->Prop} (hs:a.n.size<=maxLen) (hv:jad S w v a.args) :
  Calls Tryz.prog 144 #[.agg #[.string a.n,v]] w fun e w'=>e=.returned (.bool (factB a))/\Ext w w':=by
 obtain⟨A,c,rfl,hc1,hc2⟩:=jaa.form hv;have HV:=zh (hv.ext ((Ext.refl w).alloc (.cells #[.string a.n,.slice A a.args.length c] 69)));clear hv
 go_in;go_wp2;go_loopw [3] (fun i wr=>∃ k:Nat,k<=a.args.length/\i=.int .i64 k/\J1 ((a.args.take k).all noVar=true)/\wr=w.alloc (.cells #[.string a.n,.slice A a.args.length c] 69)) (fun i _=>a.args.length-(intOf i).toNat)
 case atStart=>exact⟨0,Nat.zero_le _,rfl,rfl,rfl⟩
 case round =>
  obtain⟨k,hk,rfl,hp,rfl⟩:=hrel;by_cases hlt:k<a.args.length
  . obtain ⟨b,off,x,rfl,hb,hxk,hxs,hc0,hc1⟩:=jad.at_ HV.o hlt
    have HK:=zh hxk;clear hxk;cases ht:x.v
    . have HP:=zh (show (a.args.take (k+1)).all noVar=true from by rw[jbo _ _ k x HK.o,hp.o,jqv ht];rfl)
      rw[ht] at hc0;clear ht;go_wp2;go_roundw
      case rel=>exact⟨k+1,by omega,by go_num,HP,trivial⟩
      case measure=>simp[intOf];omega
    have HF:=zh (show factB a=false from by unfold factB;rw[show (a.args.all fun t=> !t.v)=false from jbc noVar _ k x HK.o (ju4 ht),Bool.and_false]);rw[ht] at hc0;clear ht;go_wp2;go_ret;exact⟨by rw[HF.o];rfl,(Ext.refl _).alloc _⟩
  have HF:=zh (show factB a=jat a from by unfold factB;rw[show (a.args.all fun t=> !t.v)=true from jbl noVar _ k hlt hp.o,Bool.and_true]);go_wp2_with (go_at_call 157;refine (je4 a _ _ hs HV.o).mono ?_;rintro e w1 ⟨rfl,hx1⟩)
  go_ret;exact⟨by rw[HF.o];rfl,((Ext.refl _).alloc _).t hx1⟩
def ltA (a b:GA):Bool:=decide (cmpA a b<0)
def ascB:List GA->Bool
 | []=>true
 | [_]=>true
 | a :: b :: l=>ltA a b && ascB (b :: l)
def jbb (l:List GA) (most:Nat):Bool:=l.all factB && ascB l && decide (l.length<=most)
theorem jqw:∀ (l:List GA) (a b:GA),ascB (l++[a,b])=(ascB (l++[a]) && ltA a b)
 | [],a,b=>by simp[ascB]
 | [c],a,b=>by simp[ascB]
 | c :: d :: l,a,b=>by
   have:=jqw (d :: l) a b;simp only[List.cons_append] at this ⊢;simp only[ascB,this,Bool.and_assoc]
theorem je9:∀ (l m:List GA),ascB l=false->ascB (l++m)=false
 | [],m,h=>by simp[ascB] at h
 | [c],m,h=>by simp[ascB] at h
 | c :: d :: l,m,h=>by
   simp only[List.cons_append,ascB,Bool.and_eq_false_iff] at h ⊢;rcases h with h|h
   . exact .inl h
   exact .inr (je9 (d :: l) m h)
def ascTo (l:List GA) (k:Nat):Bool:=ascB (l.take k)
theorem jx9 {l:List GA} {a:GA} (h:l[0]? = some a):ascTo l 1=true:=by
 unfold ascTo;cases l with
 | nil=>simp at h
 | cons b l=>rfl
theorem j0h {l:List GA} {k:Nat} {a b:GA} (ha:l[k]? = some a) (hb:l[k+1]? = some b):l.take (k+2)=l.take k++[a,b]/\l.take (k+1)=l.take k++[a]:=by
 obtain⟨h1,rfl⟩:=List.getElem?_eq_some_iff.1 ha;obtain⟨h2,rfl⟩:=List.getElem?_eq_some_iff.1 hb;have e1:=List.take_succ_eq_append_getElem h1;have e2:=List.take_succ_eq_append_getElem h2;exact⟨by rw[e2,e1,List.append_assoc];rfl,e1⟩
theorem jnv {l:List GA} {k:Nat} {a b:GA} (ha:l[k]? = some a) (hb:l[k+1]? = some b):ascTo l (k+2)=(ascTo l (k+1) && ltA a b):=by
 obtain⟨e1,e2⟩:=j0h ha hb;unfold ascTo;rw[e1,e2,jqw]
theorem jlq {l:List GA} {k:Nat} (h:ascTo l k=false):ascB l=false:=by
 rw[<- List.take_append_drop k l];exact je9 _ _ h
theorem ju5 (v:Value) (xs:List GA) (most:Nat) (w:World) {S:Nat->Prop} (hv:jab S w v xs) :
  Calls Tryz.prog 196 #[v,.int .i64 most] w fun e w'=>e=.returned (.bool (jbb xs most))/\Ext w w':=by
 obtain⟨A,c,rfl,hc1,hc2⟩:=jaa.form hv;have HV:=zh hv;clear hv
 go_in;go_wp2;go_loopw [5] (fun i wr=>∃ k:Nat,k<=xs.length/\i=.int .i64 k/\J1 ((xs.take k).all factB=true)/\J1 (ascTo xs k=true)/\Ext w wr) (fun i _=>xs.length-(intOf i).toNat)
 case atStart=>exact⟨0,Nat.zero_le _,rfl,rfl,rfl,Ext.refl _⟩
 case round =>
  obtain⟨k,hk,rfl,hp,ha,hx⟩:=hrel;have hk0:(0:Int)<=(k:Int):=Int.natCast_nonneg _;by_cases hlt:k<xs.length
  . obtain ⟨b,off,x,v1,rfl,hb,hxk,hxs,ht,hc0,hc1⟩:=jab.at_ (HV.o.ext hx) hlt
    have hk1:(k:Int)<(xs.length:Int):=by omega
    have HK:=zh hxk;have HT:=zh ht;clear hxk ht;cases hf:factB x
    . have HF:=zh (show jbb xs most=false from by unfold jbb;rw[jbc factB _ k x HK.o hf];rfl)
      have HW:=zh (fun (W:World) (h:Ext wr W)=>(jai (jkc x v1 W hxs (HT.o.ext h))).2 hf);clear hf;go_wp2_with fail
      refine jaw (by kernel_rfl) (by kernel_rfl) ?_;repeat (go_big_quiet_step ((go_at_call 144;exact jbk (HW.o _ (Later.ext _)))))
      refine wpQuiet_nil ?_;rintro w1 ⟨⟨_,hx1⟩,rfl⟩;go_wp2;go_ret;exact⟨by rw[HF.o];rfl,hx.t hx1⟩
    have HW:=zh (fun (W:World) (h:Ext wr W)=>(jai (jkc x v1 W hxs (HT.o.ext h))).1 hf);have HP:=zh (show (xs.take (k+1)).all factB=true from by rw[jbo _ _ k x HK.o,hp.o,hf];rfl);clear hf hp;by_cases hk2:k<1
    . have HA:=zh (show ascTo xs (k+1)=true from by
        obtain rfl:k=0:=by omega
        exact jx9 HK.o)
      have hg:decide (0<k)=false:=decide_eq_false (by omega);go_wp2_with fail
      refine jaw (by kernel_rfl) (by kernel_rfl) ?_;repeat (go_big_quiet_step ((go_at_call 144;exact jbk (HW.o _ (Later.ext _)))))
      refine wpQuiet_nil ?_;rintro w1 ⟨⟨_,hx1⟩,rfl⟩;go_wp2;go_roundw
      case rel=>exact⟨k+1,by omega,by go_num,HP,HA,hx.t hx1⟩
      case measure=>simp[intOf];omega
    obtain⟨j,rfl⟩:∃ j,k=j+1:=⟨k-1,by omega⟩
    obtain⟨b',off',y,v2,hbb,hb',hyk,hys,ht',hd0,hd1⟩:=jab.at_ (HV.o.ext hx) (k:=j) (by omega);injection hbb with hbb
    injection hbb with e1 e2
    subst e1;subst e2;have HY:=zh ht';have HS:=zh (jnv hyk HK.o);have HC:=zh (fun (W:World) (h:Ext wr W)=>jqu y x v2 v1 W (HY.o.ext h) (HT.o.ext h));have hj0:(0:Int)<=(j:Int):=Int.natCast_nonneg _;have hj1:(j:Int)<(xs.length:Int):=by omega
    clear ht' hyk hk0;by_cases hcmp:cmpA y x<0
    . have HA:=zh (show ascTo xs (j+1+1)=true from by rw[HS.o,ha.o];unfold ltA;simp[hcmp])
      go_wp2_with fail
      refine jaw (by kernel_rfl) (by kernel_rfl) ?_;repeat (go_big_quiet_step ((first|(go_at_call 144;exact jbk (HW.o _ (Later.ext _)))|(go_at_call 241;exact jbk (HC.o _ (Later.ext _))))))
      refine wpQuiet_nil ?_;rintro w1 ⟨⟨_,hx1⟩,rfl⟩;go_wp2;go_roundw
      case rel=>exact⟨j+1+1,by omega,by go_num,HP,HA,hx.t hx1⟩
      case measure=>simp[intOf];omega
    have HF:=zh (show jbb xs most=false from by
      have:ascTo xs (j+1+1)=false:=by rw[HS.o];unfold ltA;simp[hcmp]
      unfold jbb;rw[jlq this];simp)
    go_wp2_with fail
    refine jaw (by kernel_rfl) (by kernel_rfl) ?_;repeat (go_big_quiet_step ((first|(go_at_call 144;exact jbk (HW.o _ (Later.ext _)))|(go_at_call 241;exact jbk (HC.o _ (Later.ext _))))))
    refine wpQuiet_nil ?_;rintro w1 ⟨⟨_,hx1⟩,rfl⟩;go_wp2;go_ret;exact⟨by rw[HF.o];rfl,hx.t hx1⟩
  have HF:=zh (show jbb xs most=decide (xs.length<=most) from by
    have h1:=jbl factB _ k hlt hp.o;have h2:=ha.o;unfold ascTo at h2;rw[List.take_of_length_le (by omega)] at h2;unfold jbb;rw[h1,h2];rfl)
  go_wp2;go_ret;exact⟨by rw[HF.o];exact ja6 (by simp),hx⟩
theorem jei (v:Value) (xs:List GA) (w:World) {S:Nat->Prop} (hv:jab S w v xs) :
  Calls Tryz.prog 134 #[v] w fun e w'=>e=.returned (.bool (jbb xs 300))/\Ext w w':=by
 obtain⟨A,c,rfl,hc1,hc2⟩:=jaa.form hv;have HV:=zh hv;clear hv
 go_in;go_wp2_with (go_at_call 196;refine (ju5 _ xs 300 _ HV.o).mono ?_;rintro e w1 ⟨rfl,hx1⟩)
 go_ret;exact⟨rfl,hx1⟩
end Go.Proofs.YthiflhkcpanaaaaGreatDoor
