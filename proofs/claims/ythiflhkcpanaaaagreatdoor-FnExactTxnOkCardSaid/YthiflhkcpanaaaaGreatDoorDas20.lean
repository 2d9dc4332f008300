/- Own texts, joined. -/
import Derived.Test.YthiflhkcpanaaaaGreatDoorDas19
set_option linter.unusedSimpArgs false
set_option linter.unusedVariables false
namespace Go.Proofs.YthiflhkcpanaaaaGreatDoor
open Go.RowKit
theorem Ext.drewN' (w:World):∀ q,Ext w (w.drewN q)
 | 0=>Ext.refl _
 | q + 1=>by
   have h:=Ext.drewN' w q;exact h.drew
/-! ### Feeding -/
theorem jvo {σ:Type} (tell:σ->Words->σ × Bool) (W:Words) (st:σ):feed tell [W] st=tell st W:=by
 simp only[feed];rcases h:tell st W with ⟨a,b⟩
 cases b<;>rfl
theorem jhv {σ:Type} (tell:σ->Words->σ × Bool):∀ (l m:List Words) (st:σ),feed tell (l++m) st=if (feed tell l st).2 then feed tell m (feed tell l st).1 else feed tell l st
 | [],m,st=>by simp[feed]
 | W :: l,m,st=>by
   simp only[List.cons_append,feed];split
   . exact jhv tell l m _
   simp
theorem jr1 {σ:Type} {tell:σ->Words->σ × Bool} {rank:σ->Nat} (up:∀ st W,rank (tell st W).1<=rank st+1):∀ (l:List Words) (st:σ),rank (feed tell l st).1<=rank st+l.length
 | [],st=>Nat.le_refl _
 | W :: l,st=>by
   have h1:=up st W;simp only[feed];split
   . have h2:=jr1 up l (tell st W).1
     rw[List.length_cons];omega
   rw[List.length_cons];show rank (tell st W).1<=_;omega
/-! ### The state, but for what was bound and given back -/
structure Same (S Q:Sea):Prop where
 eq:Q = { S with bd:=Q.bd }
 bd:Q.bd.take S.cnt=S.bd.take S.cnt
theorem Same.refl (S:Sea):Same S S:=⟨by cases S;rfl,rfl⟩
theorem Same.W {S Q:Sea} (h:Same S Q):Q.W=S.W:=by rw[h.eq]
theorem Same.cnt {S Q:Sea} (h:Same S Q):Q.cnt=S.cnt:=by rw[h.eq]
theorem Same.trans {S Q T:Sea} (h:Same S Q) (k:Same Q T):Same S T:=by
 refine⟨?_,?_⟩
 . rw[k.eq,h.eq]
 have:=k.bd;rw[h.cnt,h.bd] at this;exact this
theorem jr2 {S T Q:Sea} {p:GPat} {a:GA} (hm:je6 S T (jeq p a S.W)) (hW:T.W=(jak p a S.W).1) (hq:Same T Q) (hok:∀ s∈p.slots,jb2 S.W.length s) (hc:S.cnt<=S.bd.length):Same S (Q.back S.cnt):=by
 have e1:Q.bd.take Q.cnt=S.bd.take S.cnt++jeq p a S.W:=by rw[hq.cnt,hq.bd,hm.bd]
 have e2:Q.W=(jak p a S.W).1:=hq.W.trans hW;have e3:(S.bd.take S.cnt).length=S.cnt:=by rw[List.length_take];omega
 have e4:jgr Q.W ((Q.bd.take Q.cnt).drop S.cnt)=S.W:=by
  rw[e1,List.drop_left' e3,e2];exact jrq hok
 refine⟨?_,?_⟩
 . unfold Sea.back
   rw[e4];have h1:=hq.eq;have h2:=hm.same;rw[h1,h2]
 show Q.bd.take S.cnt=_
 have h5:Q.bd.take S.cnt=(Q.bd.take Q.cnt).take S.cnt:=by
  rw[List.take_take,hq.cnt,hm.cnt,Nat.min_eq_left (by omega)]
 rw[h5,e1,List.take_left' e3]
theorem jr3 {E:SE} {S:Sea} (h:S.wanted=E.wanted) (hl:E.wanted.length=12):jey S=E.settled S.W:=by
 unfold jey SE.settled;rw[h];apply Bool.eq_iff_iff.2
 rw[List.all_eq_true,List.all_eq_true]
 constructor
 . intro hh x hx
   obtain⟨h1,h2⟩:=List.mem_zipIdx_iff_getElem?.1 hx |> fun h=>(⟨h,List.getElem?_eq_some_iff.1 h⟩:_/\_)
   obtain⟨hlt,h2⟩:=h2;have:=hh x.2 (List.mem_range.2 (by omega));rw[List.getD_eq_getElem?_getD,h1] at this;exact this
 intro hh i hi;have hi:=List.mem_range.1 hi;have h1:E.wanted[i]? = some (E.wanted[i]'(by omega)):=List.getElem?_eq_getElem _;have:=hh (E.wanted[i]'(by omega),i) (List.mem_zipIdx_iff_getElem?.2 h1);rw[List.getD_eq_getElem?_getD,h1];exact this
theorem jmn:∀ (l:Fin 16) (k:Fin 4),bits BinOp.andNot IntKind.i64 ((l.val:Nat):Int) (wrap64 (2 ^ k.val))=((jaj l.val k.val:Nat):Int)/\jaj l.val k.val<16:=by decide +kernel
theorem jez {l k:Nat} (hl:l<16) (hk:k<4):bits BinOp.andNot IntKind.i64 ((l:Nat):Int) (wrap64 (2 ^ k))=((jaj l k:Nat):Int):=(jmn ⟨l,hl⟩ ⟨k,hk⟩).1
theorem joi {l k:Nat} (hl:l<16) (hk:k<4):jaj l k<16:=(jmn ⟨l,hl⟩ ⟨k,hk⟩).2
/-! ### A hunt -/
structure Hunt where
 E:SE
 F:Nat->Prop
 P:Nat->Prop
 M:Nat->Prop
 G:Words->Prop
 stb:Nat
 fv:Value
 rv:Value
 mb:Nat
 pb:Nat
 nm:Nat
 np:Nat
 f:Value->Value
 sb:Nat
structure Hunt.Fit (H:Hunt):Prop where
 parts:∀ p∈H.E.parts,(∀ s∈p.slots,jb2 12 s)/\p.slots.length<=1000
 few:H.E.parts.length<=4
 rounds:H.E.rounds.length=H.E.facts.length
 wlen:H.E.wanted.length=12
 nF:¬ H.F H.sb
 nP:¬ H.P H.sb
 nM:¬ H.M H.sb
 FM:∀ b,H.F b->¬ H.M b
 PM:∀ b,H.P b->¬ H.M b
 keep:∀ (W:Words) (p:GPat) (j:Nat) (a:GA),H.G W->p∈H.E.parts->H.E.facts[j]? = some a->(jak p a W).2=true->H.G (jak p a W).1
 nots:∀ (W:Words),H.G W->∀ p∈H.E.nots,(∀ s∈p.slots,jb2 12 s)/\p.slots.length<=1000/\wAtom (factP W p)<=4194304
 text:∀ (W:Words),H.G W->H.E.settled W=true->(H.E.nots.any fun p=>jcg H.E.facts (factP W p))=H.E.hindered W
structure Seek (H:Hunt) (S:Sea) (w:World):Prop where
 st:jd7 H.F w H.stb H.E.facts H.E.rounds H.fv H.rv H.mb H.pb H.nm H.np H.f
 sea:SeaAt w H.sb S
 at_:S.st=.pointer (some ⟨H.stb,0,none⟩)
 q0:PatsR H.P w S.q0 H.E.parts
 q1:PatsR H.P w S.q1 H.E.nots
 wanted:S.wanted=H.E.wanted
 inOrd:S.inOrd=H.E.inOrder
 ahead:S.ahead=(H.E.ahead:Int)
 bok:Bok S.W (S.bd.take S.cnt)
 cnt:S.cnt<=12
 low:∀ b,H.F b->b<w.heap.size
theorem Seek.ext {H:Hunt} {S:Sea} {w w':World} (h:Seek H S w) (hx:Ext w w'):Seek H S w' :=
 ⟨h.st.ext hx,h.sea.ext hx,h.at_,h.q0.ext hx,h.q1.ext hx,h.wanted,h.inOrd,h.ahead,h.bok,h.cnt,fun b hb=>Nat.lt_of_lt_of_le (h.low b hb) hx.size⟩
theorem Seek.move {H:Hunt} (hH:H.Fit) {S Q:Sea} {w w':World} (h:Seek H S w) (hi:jac (fun b=>b=H.sb∨H.M b) w w') (hs:SeaAt w' H.sb Q)
  (he:Q = { S with W:=Q.W,bd:=Q.bd,cnt:=Q.cnt }) (hb:Bok Q.W (Q.bd.take Q.cnt)) (hc:Q.cnt<=12):Seek H Q w':=by
 have hF:∀ b,H.F b->¬ (b=H.sb∨H.M b):=fun b hb h=>h.elim (fun e=>hH.nF (e▸hb)) (hH.FM b hb)
 have hP:∀ b,H.P b->¬ (b=H.sb∨H.M b):=fun b hb h=>h.elim (fun e=>hH.nP (e▸hb)) (hH.PM b hb)
 refine⟨h.st.inside hi hF,hs,by rw[he];exact h.at_,?_,?_,by rw[he];exact h.wanted,by rw[he];exact h.inOrd,by rw[he];exact h.ahead,hb,hc,fun b hb=>Nat.lt_of_lt_of_le (h.low b hb) hi.size⟩
 . have e:Q.q0=S.q0:=by rw[he]
   rw[e];exact h.q0.impL (fun _ h _=>h) (fun b hb hlt=>hi.block b hlt (hP b hb)) hi.size
 have e:Q.q1=S.q1:=by rw[he]
 rw[e];exact h.q1.impL (fun _ h _=>h) (fun b hb hlt=>hi.block b hlt (hP b hb)) hi.size
theorem Seek.same {H:Hunt} (hH:H.Fit) {S Q:Sea} {w w':World} (h:Seek H S w) (hi:jac (fun b=>b=H.sb∨H.M b) w w') (hs:SeaAt w' H.sb Q) (hq:Same S Q):Seek H Q w' :=
 h.move hH hi hs (by rw[hq.eq]) (by rw[hq.W,hq.cnt,hq.bd];exact h.bok) (by rw[hq.cnt];exact h.cnt)
structure jzg (H:Hunt) {σ:Type} (g:Nat) (caps:Array Value) (R:σ->World->Prop) (step:σ->Words->σ × Bool) (rank:σ->Nat) (N:Nat):Prop where
 go:∀ args w,(callFunc g args).run Tryz.prog w=.ok (.enter g args) w
 told:∀ (st:σ) (Q:Sea) (w:World),Seek H Q w->R st w->H.G Q.W->rank st<N->Calls Tryz.prog g (#[.pointer (some ⟨H.sb,18,none⟩)]++caps) w fun e w'=>e=.returned (.bool (step st Q.W).2)/\R (step st Q.W).1 w'/\jac H.M w w'
 keep:∀ st w w',R st w->jac (fun b=>b=H.sb) w w'->R st w'
 up:∀ st W,rank (step st W).1<=rank st+1
/-! ### The loop over candidates -/
theorem joj {E:SE} {n left:Nat} {W:Words} (h1:(E.settled W && E.hindered W)=false) (h2:left≠0) :
  ∃ (i:Nat) (L:List Nat) (p:GPat),chL (E.choose left W)=L/\told E (n+1) left W=jaf E (told E n (jaj left i)) (E.settled W) p W L false /\
    (L≠ []->chI (E.choose left W)=(i:Int)/\E.parts[i]? = some p/\left.testBit i=true)/\∀ j∈L,∃ a,E.facts[j]? = some a:=by
 cases hc:E.choose left W with
 | none =>
   refine⟨0,[],⟨jcr,[]⟩,rfl,?_,fun h=>absurd rfl h,fun j hj=>by cases hj⟩;simp only[told];rw[h1,if_neg (by decide),if_neg h2,hc]
   rfl
 | some x =>
   obtain⟨i,l⟩:=x;obtain⟨hb,p,hp,hl⟩:=jh7 hc;refine⟨i,l,p,rfl,?_,fun _=>⟨rfl,hp,hb⟩,fun j hj=>?_⟩
   . simp only [told]
     rw[h1,if_neg (by decide),if_neg h2,hc];simp only[hp]
   rw[hl] at hj;obtain⟨a,ha,_⟩:=jya hj;exact⟨a,ha⟩
theorem jt3 {α:Type} {L:List α} {k:Nat} {j:α} (h:L[k]? = some j):L.drop k=j :: L.drop (k+1):=by
 obtain⟨h1,h2⟩:=List.getElem?_eq_some_iff.1 h;rw[<- h2];exact List.drop_eq_getElem_cons h1
section
variable {E:SE} {rec_:Words->List Words × Bool} {sd:Bool} {p:GPat} {W:Words} {L:List Nat} {k j:Nat} {a:GA} {held:Bool}
theorem jr4 (hj:L[k]? = some j) (h:E.skip j=true):jaf E rec_ sd p W (L.drop k) held=jaf E rec_ sd p W (L.drop (k+1)) held:=by
 rw[jt3 hj];simp only[jaf];rw[if_pos h]
theorem jr5 (hj:L[k]? = some j) (h:E.skip j=false) (ha:E.facts[j]? = some a) (hm:(jak p a W).2=false) :
  jaf E rec_ sd p W (L.drop k) held=if held && sd then ([],held) else jaf E rec_ sd p W (L.drop (k+1)) held:=by
 rw[jt3 hj];simp only[jaf,h,ha,hm,Bool.false_eq_true,if_false]
theorem jvp (hj:L[k]? = some j) (h:E.skip j=false) (ha:E.facts[j]? = some a) (hm:(jak p a W).2=true) :
  jaf E rec_ sd p W (L.drop k) held=if (held || (rec_ (jak p a W).1).2) && sd then ((rec_ (jak p a W).1).1,held || (rec_ (jak p a W).1).2)
   else ((rec_ (jak p a W).1).1++(jaf E rec_ sd p W (L.drop (k+1)) (held || (rec_ (jak p a W).1).2)).1,(jaf E rec_ sd p W (L.drop (k+1)) (held || (rec_ (jak p a W).1).2)).2):=by
 rw[jt3 hj];simp only[jaf,h,ha,hm,Bool.false_eq_true,if_false,if_true]
theorem jvq {σ:Type} {tell:σ->Words->σ × Bool} {sk:σ} (hj:L[k]? = some j) (h:E.skip j=false) (ha:E.facts[j]? = some a) (hm:(jak p a W).2=true) :
  ((feed tell (rec_ (jak p a W).1).1 sk).2=false->feed tell (jaf E rec_ sd p W (L.drop k) held).1 sk=((feed tell (rec_ (jak p a W).1).1 sk).1,false)) /\
  ((feed tell (rec_ (jak p a W).1).1 sk).2=true->((held || (rec_ (jak p a W).1).2) && sd)=true->feed tell (jaf E rec_ sd p W (L.drop k) held).1 sk=((feed tell (rec_ (jak p a W).1).1 sk).1,true)/\(jaf E rec_ sd p W (L.drop k) held).2=(held || (rec_ (jak p a W).1).2)) /\
  ((feed tell (rec_ (jak p a W).1).1 sk).2=true->((held || (rec_ (jak p a W).1).2) && sd)=false->feed tell (jaf E rec_ sd p W (L.drop k) held).1 sk=feed tell (jaf E rec_ sd p W (L.drop (k+1)) (held || (rec_ (jak p a W).1).2)).1 (feed tell (rec_ (jak p a W).1).1 sk).1 /\
    (jaf E rec_ sd p W (L.drop k) held).2=(jaf E rec_ sd p W (L.drop (k+1)) (held || (rec_ (jak p a W).1).2)).2):=by
 rw[jvp hj h ha hm]
 generalize hr:rec_ (jak p a W).1=r
 rcases hf:feed tell r.1 sk with ⟨s2,b⟩
 refine⟨fun h1=>?_,fun h1 h2=>?_,fun h1 h2=>?_⟩
 . simp only at h1;subst h1
   split
   . exact hf
   simp only[jhv,hf];rfl
 . simp only at h1;subst h1
   rw[if_pos h2];exact⟨hf,rfl⟩
 simp only at h1;subst h1;rw[if_neg (by rw[h2];decide)];refine⟨?_,rfl⟩;simp only[jhv,hf];rfl
theorem jvr {σ:Type} {tell:σ->Words->σ × Bool} {rank:σ->Nat} {N:Nat} {sk:σ} (up:∀ st W,rank (tell st W).1<=rank st+1) (hj:L[k]? = some j) (h:E.skip j=false) (ha:E.facts[j]? = some a) (hm:(jak p a W).2=true)
  (hr:rank sk+(jaf E rec_ sd p W (L.drop k) held).1.length<=N) :
  rank sk+(rec_ (jak p a W).1).1.length<=N/\(((held || (rec_ (jak p a W).1).2) && sd)=false->rank (feed tell (rec_ (jak p a W).1).1 sk).1+(jaf E rec_ sd p W (L.drop (k+1)) (held || (rec_ (jak p a W).1).2)).1.length<=N):=by
 rw[jvp hj h ha hm] at hr;have h1:=jr1 up (rec_ (jak p a W).1).1 sk;split at hr
 . rename_i hc
   exact⟨hr,fun h2=>by rw[hc] at h2;cases h2⟩
 rename_i hc;simp only[List.length_append] at hr;exact⟨by omega,fun _=>by omega⟩
theorem jr6 {σ:Type} {rank:σ->Nat} {N:Nat} {sk:σ} (hj:L[k]? = some j) (h:E.skip j=false) (ha:E.facts[j]? = some a) (hm:(jak p a W).2=false)
  (hr:rank sk+(jaf E rec_ sd p W (L.drop k) held).1.length<=N):(held && sd)=false->rank sk+(jaf E rec_ sd p W (L.drop (k+1)) held).1.length<=N:=fun h2=>by
 rw[jr5 hj h ha hm,if_neg (by rw[h2];decide)] at hr;exact hr
theorem jr7 {σ:Type} {tell:σ->Words->σ × Bool} {sk:σ} (hj:L[k]? = some j) (h:E.skip j=false) (ha:E.facts[j]? = some a) (hm:(jak p a W).2=false) :
  ((held && sd)=true->feed tell (jaf E rec_ sd p W (L.drop k) held).1 sk=(sk,true)/\(jaf E rec_ sd p W (L.drop k) held).2=held) /\
  ((held && sd)=false->feed tell (jaf E rec_ sd p W (L.drop k) held).1 sk=feed tell (jaf E rec_ sd p W (L.drop (k+1)) held).1 sk/\(jaf E rec_ sd p W (L.drop k) held).2=(jaf E rec_ sd p W (L.drop (k+1)) held).2):=by
 rw[jr5 hj h ha hm];refine⟨fun h2=>?_,fun h2=>?_⟩
 . rw[if_pos h2];exact⟨rfl,rfl⟩
 rw[if_neg (by rw[h2];decide)];exact⟨rfl,rfl⟩
end
theorem jmo {S T:Sea} {l:List Nat} (h:je6 S T l) (hb:S.cnt<=S.bd.length) (hT:T.bd.length=12):S.cnt<=T.cnt/\T.cnt<=12/\∀ i,i<T.cnt->T.bd.getD i 0<12:=by
 have h1:=h.ok.len
 have h2:(T.bd.take T.cnt).length=T.cnt:=by
  rw[h.bd,List.length_append,List.length_take,h.cnt];omega
 refine⟨by rw[h.cnt];omega,by omega,fun i hi=>?_⟩;have h3:T.bd[i]? = some (T.bd[i]'(by omega)):=List.getElem?_eq_getElem _;rw[List.getD_eq_getElem?_getD,h3];have h4:(T.bd.take T.cnt)[i]? = some (T.bd[i]'(by omega)):=by rw[List.getElem?_take,if_pos hi,h3]
 exact (h.ok.2 _ (List.mem_of_getElem? h4)).1
theorem jvs {T Q:Sea} {c:Nat} (h:Same T Q) (hT:c<=T.cnt/\T.cnt<=12/\∀ i,i<T.cnt->T.bd.getD i 0<12):c<=Q.cnt/\Q.cnt<=12/\∀ i,i<Q.cnt->Q.bd.getD i 0<12:=by
 rw[h.cnt];refine⟨hT.1,hT.2.1,fun i hi=>?_⟩;have h1:=hT.2.2 i hi
 have h2:Q.bd[i]? = T.bd[i]? :=by
  have:=congrArg (fun l:List Nat=>l[i]?) h.bd;simpa [List.getElem?_take,hi] using this
 rw[List.getD_eq_getElem?_getD,h2,<- List.getD_eq_getElem?_getD];exact h1
end Go.Proofs.YthiflhkcpanaaaaGreatDoor
namespace Go.Proofs.YthiflhkcpanaaaaGreatDoor
open Go.RowKit
def Gok (W:Words):Prop:=W.length=12/\∀ x∈W,isNo x=true∨jaz x=true
theorem jzh:Gok (List.replicate 12 jcr):=⟨List.length_replicate,fun x hx=>.inl (by rw[List.eq_of_mem_replicate hx];rfl)⟩
theorem j14 {W:Words} {v:Nat} {x:ByteArray} (h:Gok W) (hx:jaz x=true):Gok (W.set v x):=⟨by rw[List.length_set];exact h.1,fun y hy=>by
 rcases List.mem_or_eq_of_mem_set hy with h1|h1
 . exact h.2 y h1
 exact .inr (h1▸hx)⟩
theorem j08 {W:Words} {s:GS} {x:ByteArray} (h:Gok W) (hx:jaz x=true):Gok (bindW W s x):=by
 unfold bindW
 cases s.v with
 | none=>exact h
 | some v=>exact j14 h hx
theorem jmp:∀ (ss:List GS) (ts:List GT) (W:Words),(∀ t∈ts,jaz t.n=true)->Gok W->Gok (jb9 ss ts W).1
 | [],ts,W,_,h=>by simp only[jb9];exact h
 | s :: ss,[],W,_,h=>by simp only[jb9];exact h
 | s :: ss,t :: ts,W,hts,h=>by
   simp only[jb9];have hr:∀ x∈ts,jaz x.n=true:=fun x hx=>hts x (List.mem_cons_of_mem _ hx)
   split
   . exact h
   split
   . exact jmp ss ts _ hr (j08 h (hts t List.mem_cons_self))
   split
   . exact jmp ss ts W hr h
   exact h
theorem jok {a:GA} (h:factB a=true):∀ t∈a.args,jaz t.n=true:=fun t ht=>by
 unfold factB jat at h;simp only[Bool.and_eq_true,List.all_eq_true] at h;have h1:=h.1.2 t ht;have h2:=h.2 t ht;unfold ja3 at h1;rw[if_neg (by simpa using h2)] at h1;exact h1
theorem jw4 {p:GPat} {a:GA} {W:Words} (ha:factB a=true) (h:Gok W):Gok (jak p a W).1:=by
 unfold jak;split
 . exact jmp _ _ _ (jok ha) h
 exact h
theorem j2p {W:Words} (h:Gok W) (v:Nat):isNo (W.at_ v)=true∨jaz (W.at_ v)=true:=by
 unfold Words.at_;rw[List.getD_eq_getElem?_getD]
 cases hg:W[v]? with
 | none=>exact .inl rfl
 | some x=>exact h.2 x (List.mem_of_getElem? hg)
theorem j2q {x:ByteArray} (h:isNo x=true∨jaz x=true):x.size<=8:=by
 rcases h with h|h
 . have:=of_decide_eq_true h;omega
 exact (jg3 h).2
structure PatOk (p:GPat):Prop where
 n:jaz p.n=true
 few:p.slots.length<=3
 slot:∀ s∈p.slots,jb2 12 s
 word:∀ s∈p.slots,s.v=none->jaz s.w=true
theorem jpt {a:GA} {vs:List ByteArray} (ha:jat a=true) (hm:∀ t∈a.args,t.v=true->t.n∈vs) (hv:vs.length<=12):PatOk (patOf vs a):=by
 obtain⟨h1,h2,h3⟩:=jck ha;refine⟨h1,by show (a.args.map (ja1 vs)).length<=3;rw[List.length_map];exact h2,fun s hs=>?_,fun s hs hn=>?_⟩
 . obtain ⟨t,ht,rfl⟩:=List.mem_map.1 hs
   unfold jb2 ja1;by_cases htv:t.v=true
   . rw [if_pos htv]
     simp only;obtain⟨i,hi⟩:=jcq (hm t ht htv);rw[hi];exact Nat.lt_of_lt_of_le (jc9 hi) hv
   rw[if_neg htv];exact jmh (h3 t ht)
 obtain⟨t,ht,rfl⟩:=List.mem_map.1 hs;by_cases htv:t.v=true
 . unfold ja1 at hn;rw[if_pos htv] at hn;cases hn
 have h4:=h3 t ht;unfold ja3 at h4;rw[if_neg htv] at h4;unfold ja1;rw[if_neg htv];exact h4
theorem jr8 {W:Words} {p:GPat} (hW:Gok W) (hp:PatOk p) {s:GS} (hs:s∈p.slots):isNo (jau W s)=true∨jaz (jau W s)=true:=by
 unfold jau
 cases hv:s.v with
 | none=>exact .inr (hp.word s hs hv)
 | some v=>exact j2p hW v
theorem jmq {W:Words} {p:GPat} (hW:Gok W) (hp:PatOk p):wAtom (factP W p)<=4194304:=by
 unfold wAtom jbz factP;have h1:=(jg3 hp.n).2;have h2:=hp.few
 have h3:∀ l:List GT,(∀ t∈l,t.n.size<=8)->(l.map wTerm).sum<=8*l.length:=by
  intro l
  induction l with
  | nil=>intro _;simp
  | cons t l ih =>
    intro h;have a1:=h t List.mem_cons_self;have a2:=ih (fun x hx=>h x (List.mem_cons_of_mem _ hx));rw[List.map_cons,List.sum_cons,List.length_cons];unfold wTerm at a2 ⊢;omega
 have h4:=h3 (p.slots.map fun s=>⟨false,jau W s⟩) (fun t ht=>by
  obtain⟨s,hs,rfl⟩:=List.mem_map.1 ht;exact j2q (jr8 hW hp hs))
 simp only[List.length_map] at h4 ⊢;omega
theorem jw5 {W:Words} {p:GPat} (hW:Gok W) (hp:PatOk p) (hk:∀ s∈p.slots,∀ v,s.v=some v->isNo (W.at_ v)=false):factB (factP W p)=true:=by
 unfold factB jat factP;simp only[Bool.and_eq_true,List.all_eq_true,List.length_map];refine⟨⟨⟨hp.n,decide_eq_true hp.few⟩,fun t ht=>?_⟩,fun t ht=>?_⟩
 . obtain ⟨s,hs,rfl⟩:=List.mem_map.1 ht
   unfold ja3;simp only[Bool.false_eq_true,if_false];rcases jr8 hW hp hs with h|h
   . unfold jau at h ⊢
     cases hv:s.v with
     | none=>exact hp.word s hs hv
     | some v=>rw[hv] at h;simp only at h;rw[hk s hs v hv] at h;cases h
   exact h
 obtain⟨s,hs,rfl⟩:=List.mem_map.1 ht
 rfl
theorem jr9 {a b:GA} (ha:factB a=true) (hb:factB b=true):decide (strOf (atomL a)=strOf (atomL b))=sameA a b:=by
 apply Bool.eq_iff_iff.2
 rw[decide_eq_true_iff,jgz]
 constructor
 . intro h
   have h1:atomL a=atomL b:=by
    have:=congrArg (fun x:ByteArray=>x.data.toList) h;simpa [strOf] using this
   rw[jve (jij ha) (jij hb) h1];exact⟨rfl,rfl⟩
 rintro ⟨h1,h2⟩
 have h3 : a=b:=by
  have key:∀ (l m:List GT),(∀ t∈l,t.v=false)->(∀ t∈m,t.v=false)->l.map (·.n)=m.map (·.n)->l=m:=by
   intro l
   induction l with
   | nil=>intro m _ _ h;cases m with
     | nil=>rfl
     | cons _ _=>simp at h
   | cons x l ih=>intro m hl hm h;cases m with
     | nil=>simp at h
     | cons y m =>
       simp only[List.map_cons,List.cons.injEq] at h;have e1:=hl x List.mem_cons_self;have e2:=hm y List.mem_cons_self;rw[ih m (fun t ht=>hl t (List.mem_cons_of_mem _ ht)) (fun t ht=>hm t (List.mem_cons_of_mem _ ht)) h.2];cases x;cases y;simp_all
  have h4:=key a.args b.args (fun t ht=>(jpr ha t ht).1) (fun t ht=>(jpr hb t ht).1) h2;cases a;cases b;simp_all
 rw[h3]
theorem jgt {facts:List GA} (hf:∀ a∈facts,factB a=true) {a:GA} (ha:factB a=true):jcg facts a=facts.any (sameA a):=by
 unfold jcg
 induction facts with
 | nil=>rfl
 | cons b l ih =>
   rw[List.any_cons,List.any_cons,ih (fun x hx=>hf x (List.mem_cons_of_mem _ hx)),jr9 ha (hf b List.mem_cons_self)]
theorem j2r {H:Hunt} (hG:H.G=Gok) (hf:∀ a∈H.E.facts,factB a=true) (hp:∀ p∈H.E.parts,PatOk p) (hn:∀ p∈H.E.nots,PatOk p) (few:H.E.parts.length<=4) (hr:H.E.rounds.length=H.E.facts.length) (hw:H.E.wanted.length=12)
  (hwn:∀ p∈H.E.nots,∀ s∈p.slots,∀ v,s.v=some v->H.E.wanted[v]? = some true)
  (nF:¬ H.F H.sb) (nP:¬ H.P H.sb) (nM:¬ H.M H.sb) (FM:∀ b,H.F b->¬ H.M b) (PM:∀ b,H.P b->¬ H.M b):H.Fit:=by
 refine⟨fun p h=>⟨(hp p h).slot,Nat.le_trans (hp p h).few (by omega)⟩,few,hr,hw,nF,nP,nM,FM,PM,fun W p j a hGW hpm hj hm=>?_,fun W hGW p h=>?_,fun W hGW hst=>?_⟩
 . rw [hG] at hGW ⊢
   exact jw4 (hf a (List.mem_of_getElem? hj)) hGW
 . rw [hG] at hGW
   exact⟨(hn p h).slot,Nat.le_trans (hn p h).few (by omega),jmq hGW (hn p h)⟩
 rw[hG] at hGW;unfold SE.hindered
 have hall:∀ p∈H.E.nots,jcg H.E.facts (factP W p)=H.E.facts.any (sameA (factP W p)):=fun p h =>
  jgt hf (jw5 hGW (hn p h) (fun s hs v hv=>jfo.1 hst v (hwn p h s hs v hv)))
 generalize H.E.nots=l at hall
 induction l with
 | nil=>rfl
 | cons p l ih=>rw[List.any_cons,List.any_cons,hall p List.mem_cons_self,ih (fun q hq=>hall q (List.mem_cons_of_mem _ hq))]
theorem jvt {E:SE} {rec_:Words->List Words × Bool} {sd:Bool} {p:GPat} {W:Words} {B:Nat} (hr:∀ W',(rec_ W').1.length<=B):∀ (l:List Nat) (held:Bool),(jaf E rec_ sd p W l held).1.length<=l.length*B
 | [],held=>by simp[jaf]
 | j :: l,held=>by
   have ih:=fun h=>jvt hr l h (E:=E) (sd:=sd) (p:=p) (W:=W)
   have hB:∀ h,(jaf E rec_ sd p W l h).1.length<=(l.length+1)*B:=fun h=>Nat.le_trans (ih h) (Nat.mul_le_mul_right _ (Nat.le_succ _))
   rw[List.length_cons];simp only[jaf];split
   . exact hB _
   split
   . exact hB _
   rename_i a _;have h2:=hr (jak p a W).1;have h3:=ih (held || (rec_ (jak p a W).1).2);rw[Nat.add_mul,Nat.one_mul];split
   . split
     . show (rec_ (jak p a W).1).1.length<=_;omega
     simp only[List.length_append];omega
   split
   . simp
   have:=ih held;omega
theorem jvu {E:SE} {m:Nat} (hm:E.facts.length<=m) (h1:1<=m):∀ (f left:Nat) (W:Words),(told E f left W).1.length<=m ^ f
 | 0,_,_=>by simp[told]
 | f + 1,left,W=>by
   have hp:1<=m ^ (f+1):=Nat.one_le_pow _ _ h1;simp only[told];split
   . simp
   split
   . simpa using hp
   split
   . simp
   rename_i i l hc;split
   . simp
   rename_i p hp2;obtain⟨_,q,_,hl⟩:=jh7 hc
   have hll:l.length<=m:=by
    have h2:=jjq l (List.range E.facts.length) (by rw[hl];exact jwh _ _ _) (fun j hj=>by
     rw[hl] at hj;obtain⟨a,ha,_⟩:=jya hj;exact List.mem_range.2 (List.getElem?_eq_some_iff.1 ha).1)
    rw[List.length_range] at h2;omega
   refine Nat.le_trans (jvt (B:=m ^ f) (fun W'=>jvu hm h1 f _ W') l false) ?_;rw[Nat.pow_succ,Nat.mul_comm (m ^ f)];exact Nat.mul_le_mul_right _ hll
theorem jt4 {E:SE} (hm:E.facts.length<=300) (hp:E.parts.length<=4):(jpl E).length<=2430000000000:=by
 have h1:=jvu hm (by omega) (E.parts.length+1) (2 ^ E.parts.length-1) (List.replicate 12 jcr);have h2:300 ^ (E.parts.length+1)<=300 ^ 5:=Nat.pow_le_pow_right (by omega) (by omega);have h3:(300:Nat) ^ 5=2430000000000:=by decide
 unfold jpl;omega
def Sat (list:List GA) (body:List GP) (σ:ByteArray->ByteArray):Prop:=∀ p∈body,(jff list p.atom σ↔p.no=false)
theorem j15 {list:List GA} {body:List GP} (ha:Asc list) {b:LB} (hb:b∈allN list body):Sat list body (sig b):=by
 have hst:∀ c∈ [(⟨[],[]⟩:LB)],c.ok:=fun c hc=>by
  have:c=⟨[],[]⟩:=by simpa using hc
  subst this;rfl
 obtain⟨hbm,hheld⟩:=List.mem_filter.1 hb;obtain⟨k1,_,k3⟩:=jg4 hst hbm;intro p hp
 cases hno:p.no with
 | false =>
   refine⟨fun _=>rfl,fun _=>?_⟩;obtain⟨f,hfm,hfn,hargs⟩:=k3 p hp hno;refine⟨f,hfm,hfn,?_⟩
   have e:(f.args.map (·.n)).map some=(p.atom.args.map (valS (sig b))).map some:=by
    rw[List.map_map,show (some ∘ fun x:GT=>x.n)=fun f:GT=>some f.n from rfl,<- hargs,List.map_map];refine List.map_congr_left fun t ht=>?_
    show valB b t=some (valS (sig b) t);unfold valB valS;by_cases hv:t.v=true
    . rw [if_pos hv,if_pos hv]
      have:valB b t∈f.args.map (fun f=>some f.n):=by rw[<- hargs];exact List.mem_map_of_mem ht
      obtain⟨g,_,hg⟩:=List.mem_map.1 this;unfold valB at hg;rw[if_pos hv] at hg;unfold sig;rw[<- hg];rfl
    rw[if_neg hv,if_neg hv]
   exact (List.map_inj_right (f:=some) (fun x y h=>Option.some.inj h)).1 e
 | true =>
   refine⟨fun h=>?_,fun h=>by cases h⟩;have h1:=(jn7 ha (b:=b) (fun t _ _=>rfl)).2 h;unfold heldB at hheld;have:=List.all_eq_true.1 hheld p hp;rw[hno,h1] at this;cases this
theorem j16 {list:List GA} {body:List GP} {vs:List ByteArray} (hb:jhq body vs) (ha:Asc list) {σ:ByteArray->ByteArray} (hs:Sat list body σ):∃ b∈allN list body,∀ x∈vs,sig b x=σ x:=by
 have hst:∀ c∈ [(⟨[],[]⟩:LB)],c.ok:=fun c hc=>by
  have:c=⟨[],[]⟩:=by simpa using hc
  subst this;rfl
 obtain⟨b,hbm,hbu⟩:=jjh (list:=list) (out:=[⟨[],[]⟩]) (c:=⟨[],[]⟩) hst (by simp) (fun x u h=>by cases h) (fun p hp hn=>(hs p hp).2 hn);obtain⟨k1,_,k3⟩:=jg4 hst hbm
 have hsig:∀ x∈vs,sig b x=σ x:=fun x hx=>by
  obtain⟨p,hp,hno,t,ht,htv,htn⟩:=hb.tight x hx;obtain⟨f,_,_,hfm⟩:=k3 p hp hno;have:valB b t∈f.args.map (fun f=>some f.n):=by rw[<- hfm];exact List.mem_map_of_mem ht
  obtain⟨g,_,hg⟩:=List.mem_map.1 this;unfold valB at hg;rw[if_pos htv,htn] at hg;unfold sig;rw[<- hg];exact hbu x g.n hg.symm
 refine⟨b,List.mem_filter.2 ⟨hbm,?_⟩,hsig⟩;unfold heldB;rw[List.all_eq_true];intro p hp
 cases hno:p.no with
 | false=>rfl
 | true =>
   cases hh:hasA list (fillN p.atom b) with
   | false=>rfl
   | true =>
     have:=(hs p hp).1 ((jn7 ha (fun t ht htv=>hsig t.n (hb.mem p hp t ht htv))).1 hh);rw[hno] at this;cases this
theorem jw6 {σ τ:ByteArray->ByteArray} {a:GA} (h:∀ t∈a.args,t.v=true->σ t.n=τ t.n):a.args.map (valS σ)=a.args.map (valS τ) :=
 List.map_congr_left fun t ht=>by
  unfold valS;by_cases hv:t.v=true
  . rw[if_pos hv,if_pos hv];exact h t ht hv
  rw[if_neg hv,if_neg hv]
theorem jt5 {list:List GA} {σ τ:ByteArray->ByteArray} {a:GA} (h:∀ t∈a.args,t.v=true->σ t.n=τ t.n):jff list a σ↔jff list a τ:=by
 unfold jff;rw[jw6 h]
structure Wants (vs:List ByteArray) (body:List GP) (head:GA) (wanted:List Bool):Prop where
 len:wanted.length=12
 low:∀ v,wanted[v]? = some true->v<vs.length
 nots:∀ p∈body,p.no=true->∀ t∈p.atom.args,t.v=true->∀ i,idxB vs t.n=some i->wanted[i]? = some true
 head:∀ t∈head.args,t.v=true->∀ i,idxB vs t.n=some i->wanted[i]? = some true
theorem j1x {list:List GA} {rounds:List Nat} {body:List GP} {vs:List ByteArray} {head:GA} {wanted:List Bool} (hb:jhq body vs) (hf:∀ a∈list,jlr a) (hw:Wants vs body head wanted):(seOf list rounds vs body wanted).Ok 12:=by
 have h0:=se_ok (rounds:=rounds) hb hf;refine⟨h0.parts,hf,rfl,hw.len,fun v hv=>h0.cover v ((jpk hb.few).2 (hw.low v hv)),fun p hp s hs v hv=>?_⟩;obtain⟨q,hq,rfl⟩:=List.mem_map.1 (show p∈jci vs body from hp);obtain⟨t,ht,rfl⟩:=List.mem_map.1 (show s∈q.atom.args.map (ja1 vs) from hs);obtain⟨hq1,hq2⟩:=List.mem_filter.1 hq;unfold ja1 at hv;split at hv
 . rename_i htv
   obtain⟨i,hi⟩:=jcq (hb.mem q hq1 t ht htv);rw[hi] at hv;simp only[Option.getD_some,Option.some.injEq] at hv;subst hv;exact hw.nots q hq1 hq2 t ht htv i hi
 cases hv
def fillS (σ:ByteArray->ByteArray) (a:GA):GA:=⟨a.n,a.args.map fun t=>⟨false,valS σ t⟩⟩
theorem jsa (vs:List ByteArray) (V:Words) (a:GA):factP V (patOf vs a)=fillS (sigW vs V) a:=by
 unfold factP patOf fillS;simp only[List.map_map]
 congr 1
 exact List.map_congr_left fun t _=>by
  show (⟨false,jau V (ja1 vs t)⟩:GT)=_;rw[jma]
theorem jol {σ τ:ByteArray->ByteArray} {a:GA} (h:∀ t∈a.args,t.v=true->σ t.n=τ t.n):fillS σ a=fillS τ a:=by
 unfold fillS
 congr 1
 exact List.map_congr_left fun t ht=>by
  congr 1
  unfold valS;by_cases hv:t.v=true
  . rw[if_pos hv,if_pos hv];exact h t ht hv
  rw[if_neg hv,if_neg hv]
theorem jzi (a:GA) (b:LB):fillN a b=fillS (sig b) a:=rfl
theorem j17 {list:List GA} {body:List GP} {vs:List ByteArray} {head:GA} (hb:jhq body vs) (ha:Asc list) (hh:∀ t∈head.args,t.v=true->t.n∈vs) {a:GA}:(∃ b∈allN list body,fillN head b=a)↔∃ σ,Sat list body σ/\fillS σ head=a:=by
 constructor
 . rintro ⟨b,hbm,rfl⟩
   exact⟨sig b,j15 ha hbm,(jzi head b).symm⟩
 rintro ⟨σ,hs,rfl⟩;obtain⟨b,hbm,hsig⟩:=j16 hb ha hs;refine⟨b,hbm,?_⟩;rw[jzi];exact jol fun t ht hv=>hsig _ (hh t ht hv)
theorem j2s {list:List GA} {body:List GP} {vs:List ByteArray} (hb:jhq body vs) {σ τ:ByteArray->ByteArray} (h:∀ x∈vs,σ x=τ x):Sat list body σ->Sat list body τ:=fun hs p hp =>
 (jt5 (fun t ht hv=>h _ (hb.mem p hp t ht hv))).symm.trans (hs p hp)
theorem j09 {list:List GA} {rounds:List Nat} {body:List GP} {vs:List ByteArray} {head:GA} {wanted:List Bool} (hb:jhq body vs) (hf:∀ a∈list,jlr a) (hw:Wants vs body head wanted) (hh:∀ t∈head.args,t.v=true->t.n∈vs) {a:GA} :
  (∃ V∈jpl (seOf list rounds vs body wanted),factP V (patOf vs head)=a)↔∃ σ,Sat list body σ/\fillS σ head=a:=by
 have hE:=j1x (rounds:=rounds) hb hf hw
 constructor
 . rintro ⟨V,hV,rfl⟩
   obtain⟨h1,h2,h3⟩:=ji6 hE _ _ _ V (by simp) jn8 hV;refine⟨sigW vs V,fun p hp=>?_,(jsa vs V head).symm⟩
   cases hno:p.no with
   | false=>exact⟨fun _=>rfl,fun _=>jil.1 (h2 _ (List.mem_map.2 ⟨p,List.mem_filter.2 ⟨hp,by simp[hno]⟩,rfl⟩)).2⟩
   | true =>
     refine⟨fun h=>?_,fun h=>by cases h⟩;rw[jkn.2 ⟨p,hp,hno,h⟩] at h3;cases h3
 rintro ⟨σ,hs,rfl⟩;obtain⟨R,hR⟩:∃ R:Words,R=vs.map σ++List.replicate (12-vs.length) jcr:=⟨_,rfl⟩
 have hRl:R.length=12:=by rw[hR];simp;have:=hb.few;omega
 have hRat:∀ i,i<vs.length->R.at_ i=(vs.map σ).getD i jcr:=fun i hi=>by
  unfold Words.at_;rw[hR,List.getD_eq_getElem?_getD,List.getD_eq_getElem?_getD,List.getElem?_append_left (by simpa using hi)]
 have hsig:∀ x∈vs,sigW vs R x=σ x:=fun x hx=>by
  obtain⟨i,hi⟩:=jcq hx;unfold sigW;rw[hi];simp only[Option.getD_some];rw[hRat i (jc9 hi),List.getD_eq_getElem?_getD,List.getElem?_map,jd6 hi];rfl
 have hS:Sat list body (sigW vs R):=j2s hb (fun x hx=>(hsig x hx).symm) hs
 have hknown:∀ p∈(seOf list rounds vs body wanted).parts,known R p/\Holds list p R:=fun p hp=>by
  obtain⟨q,hq,rfl⟩:=List.mem_map.1 (show p∈jcf vs body from hp);obtain⟨hq1,hq2⟩:=List.mem_filter.1 hq;have hno:q.no=false:=by simpa using hq2
  have hh2:=(hS q hq1).2 hno;refine⟨fun s hs=>?_,jil.2 hh2⟩;obtain⟨t,ht,rfl⟩:=List.mem_map.1 (show s∈q.atom.args.map (ja1 vs) from hs);rw[jma];obtain⟨f,hfm,_,hargs⟩:=hh2;have:valS (sigW vs R) t∈f.args.map (·.n):=by rw[hargs];exact List.mem_map_of_mem ht
  obtain⟨g,hg,hgn⟩:=List.mem_map.1 this;rw[<- hgn];exact (hf f hfm g hg).2
 have hnh:(seOf list rounds vs body wanted).hindered R=false:=by
  cases hh:(seOf list rounds vs body wanted).hindered R with
  | false=>rfl
  | true =>
    obtain⟨p,hp,hno,h⟩:=jkn.1 hh;have:=(hS p hp).1 h;rw[hno] at this;cases this
 obtain⟨V,hV,hVR⟩:=ju7 hE _ (2 ^ (seOf list rounds vs body wanted).parts.length-1) (List.replicate 12 jcr) R (by simp) (fun i hi=>by rw[jvg] at hi;simpa using hi) (Nat.lt_succ_of_le (jyj _)) jn8 (jto hRl) hknown hnh;refine⟨V,hV,?_⟩;rw[jsa];refine jol fun t ht hv=>?_
 rw[<- hsig _ (hh t ht hv)];unfold sigW;obtain⟨i,hi⟩:=jcq (hh t ht hv);rw[hi];exact hVR i (hw.head t ht hv i hi)
/-! ### Rules that are fine -/
def fineR (r:GR):Bool:=jba r && jca r
theorem jjv {body:List GP} {x:ByteArray} (h:jce body x=true):∃ q∈body,q.no=false/\∃ t∈q.atom.args,t.v=true/\t.n=x:=by
 unfold jce at h;obtain⟨q,hq,h6⟩:=List.any_eq_true.1 h;simp only[Bool.and_eq_true,Bool.not_eq_true'] at h6;obtain⟨t,ht,hv,hn⟩:=jdz.1 (jpc.1 h6.2);exact⟨q,hq,h6.1,t,ht,hv,hn⟩
structure Fine (r:GR):Prop where
 head:jat r.head=true
 body:∀ p∈r.body,jat p.atom=true
 few:r.body.length<=4
 tight:∀ p∈r.body,∀ t∈p.atom.args,t.v=true->jce r.body t.n=true
 bound:∀ t∈r.head.args,t.v=true->jce r.body t.n=true
theorem jzj {r:GR} (h:fineR r=true):Fine r:=by
 unfold fineR jba jca at h;simp only[Bool.and_eq_true,decide_eq_true_eq,List.all_eq_true] at h;obtain⟨⟨h1,h2,h3⟩,h4⟩:=h;have hr:∀ p∈r.body,p.atom∈jbd r:=fun p hp=>by unfold jbd;exact List.mem_cons_of_mem _ (List.mem_map_of_mem hp)
 have hh:r.head∈jbd r:=by unfold jbd;exact List.mem_cons_self
 exact⟨h2,h1,h3,fun p hp t ht hv=>h4 _ (hr p hp) _ (jdz.2 ⟨t,ht,hv,rfl⟩),fun t ht hv=>h4 _ hh _ (jdz.2 ⟨t,ht,hv,rfl⟩)⟩
theorem Fine.able {r:GR} (h:Fine r):jhq r.body (varsN r.body):=by
 refine⟨(jgq r.body).nodup,jy8 (fun p hp=>jjp (h.body p hp)) h.few,fun p hp t ht hv=>jfh.2 ⟨p,hp,jdz.2 ⟨t,ht,hv,rfl⟩⟩,fun x hx=>?_,fun p hp t ht _=>jmi (h.body p hp) t ht⟩;obtain⟨p,hp,hx⟩:=jfh.1 hx;obtain⟨t,ht,hv,rfl⟩:=jdz.1 hx;exact jjv (h.tight p hp t ht hv)
theorem Fine.hvars {r:GR} (h:Fine r):∀ t∈r.head.args,t.v=true->t.n∈varsN r.body:=fun t ht hv=>by
 obtain⟨q,hq,_,t',ht',hv',hn⟩:=jjv (h.bound t ht hv);exact jfh.2 ⟨q,hq,jdz.2 ⟨t',ht',hv',hn⟩⟩
def Cons (list:List GA) (r:GR) (a:GA):Prop:=∃ σ,Sat list r.body σ/\fillS σ r.head=a
theorem jmr {l l':List GA} (h:∀ a∈l,a∈l') {a:GA} {σ:ByteArray->ByteArray}:jff l a σ->jff l' a σ:=fun ⟨f,h1,h2⟩=>⟨f,h f h1,h2⟩
theorem jw7 {l l':List GA} (h:∀ a,a∈l↔a∈l') {r:GR} {a:GA}:Cons l r a↔Cons l' r a:=by
 have key:∀ x σ,jff l x σ↔jff l' x σ:=fun x σ=>⟨jmr fun a=>(h a).1,jmr fun a=>(h a).2⟩
 unfold Cons Sat
 constructor
 . rintro ⟨σ,hs,e⟩;exact⟨σ,fun p hp=>(key _ _).symm.trans (hs p hp),e⟩
 rintro ⟨σ,hs,e⟩;exact⟨σ,fun p hp=>(key _ _).trans (hs p hp),e⟩
theorem jip {l:List GA} {r:GR} {a:GA} (hr:Fine r) (hf:∀ a∈l,factB a=true) (h:Cons l r a):factB a=true:=by
 obtain⟨σ,hs,rfl⟩:=h;obtain⟨h1,h2,h3⟩:=jck hr.head;unfold factB jat fillS;simp only[Bool.and_eq_true,List.all_eq_true,List.length_map];refine⟨⟨⟨h1,decide_eq_true h2⟩,fun t ht=>?_⟩,fun t ht=>?_⟩
 . obtain ⟨s,hs',rfl⟩:=List.mem_map.1 ht
   unfold ja3;simp only[Bool.false_eq_true,if_false];unfold valS;by_cases hv:s.v=true
   . rw [if_pos hv]
     obtain⟨q,hq,hno,t',ht',hv',hn⟩:=jjv (hr.bound s hs' hv);obtain⟨f,hfm,_,hargs⟩:=(hs q hq).2 hno;have:valS σ t'∈f.args.map (·.n):=by rw[hargs];exact List.mem_map_of_mem ht'
     obtain⟨g,hg,hgn⟩:=List.mem_map.1 this;unfold valS at hgn;rw[if_pos hv',hn] at hgn;rw[<- hgn];exact jok (hf f hfm) g hg
   rw[if_neg hv];have h4:=h3 s hs';unfold ja3 at h4
   rwa [if_neg hv] at h4
 obtain⟨s,hs',rfl⟩:=List.mem_map.1 ht
 rfl
/-! ### One rule of the program's -/
def wantF (vs:List ByteArray) (r:GR):List Bool:=(List.range 12).map fun i=>(patOf vs r.head).slots.any (fun s=>s.v == some i) || (jci vs r.body).any fun p=>p.slots.any fun s=>s.v == some i
theorem jpu {vs:List ByteArray} {r:GR} {i:Nat}:(wantF vs r)[i]? = some true↔i<12/\((∃ s∈(patOf vs r.head).slots,s.v=some i)∨∃ p∈jci vs r.body,∃ s∈p.slots,s.v=some i):=by
 unfold wantF;rw[List.getElem?_map];by_cases hi:i<12
 . rw [List.getElem?_range hi]
   simp[hi]
 rw[List.getElem?_eq_none (by simp;omega)];simp[hi]
theorem jpv {r:GR} (h:Fine r):Wants (varsN r.body) r.body r.head (wantF (varsN r.body) r):=by
 have hb:=h.able
 have key:∀ t:GT,t.v=true->t.n∈varsN r.body->∀ i,(ja1 (varsN r.body) t).v=some i↔idxB (varsN r.body) t.n=some i:=fun t hv hm i=>by
  unfold ja1;rw[if_pos hv];obtain⟨j,hj⟩:=jcq hm;rw[hj];simp
 have hno:∀ t:GT,t.v=false->(ja1 (varsN r.body) t).v=none:=fun t hv=>by unfold ja1;rw[hv];rfl
 refine⟨by simp[wantF],fun v hv=>?_,fun p hp hpn t ht htv i hi=>?_,fun t ht htv i hi=>?_⟩
 . obtain ⟨_,hs|⟨p,hp,s,hs,hsv⟩⟩:=jpu.1 hv
   . obtain ⟨s,hs,hsv⟩:=hs
     obtain⟨t,ht,rfl⟩:=List.mem_map.1 (show s∈r.head.args.map (ja1 _) from hs);by_cases htv:t.v=true
     . exact jc9 ((key t htv (h.hvars t ht htv) v).1 hsv)
     rw[hno t (by simpa using htv)] at hsv;cases hsv
   obtain⟨q,hq,rfl⟩:=List.mem_map.1 hp;obtain⟨t,ht,rfl⟩:=List.mem_map.1 (show s∈q.atom.args.map (ja1 _) from hs);by_cases htv:t.v=true
   . exact jc9 ((key t htv (hb.mem q (List.mem_filter.1 hq).1 t ht htv) v).1 hsv)
   rw[hno t (by simpa using htv)] at hsv;cases hsv
 . have hm:=hb.mem p hp t ht htv
   exact jpu.2 ⟨Nat.lt_of_lt_of_le (jc9 hi) hb.few,.inr ⟨patOf _ p.atom,List.mem_map.2 ⟨p,List.mem_filter.2 ⟨hp,hpn⟩,rfl⟩,_,List.mem_map_of_mem ht,(key t htv hm i).2 hi⟩⟩
 have hm:=h.hvars t ht htv;exact jpu.2 ⟨Nat.lt_of_lt_of_le (jc9 hi) hb.few,.inl ⟨_,List.mem_map_of_mem ht,(key t htv hm i).2 hi⟩⟩
def seF (facts:List GA) (rounds:List Nat) (r:GR):SE:=seOf facts rounds (varsN r.body) r.body (wantF (varsN r.body) r)
def jcv (facts:List GA) (rounds:List Nat) (r:GR):List GA:=(jpl (seF facts rounds r)).map fun W=>factP W (patOf (varsN r.body) r.head)
theorem jg9 {facts:List GA} {rounds:List Nat} {r:GR} (h:Fine r) (hf:∀ a∈facts,factB a=true) {a:GA}:a∈jcv facts rounds r↔Cons facts r a:=by
 unfold jcv;rw[List.mem_map];exact j09 h.able (fun a ha=>jpr (hf a ha)) (jpv h) h.hvars
/-! ### One round of the program's -/
theorem jpw {a b:GA} (ha:factB a=true) (hb:factB b=true):sameA a b=true↔a=b:=by
 rw[<- jr9 ha hb,decide_eq_true_iff]
 constructor
 . intro h
   have h1:atomL a=atomL b:=by
    have:=congrArg (fun x:ByteArray=>x.data.toList) h;simpa [strOf] using this
   exact jve (jij ha) (jij hb) h1
 rintro rfl;rfl
theorem jha {l:List GA} (hl:∀ a∈l,factB a=true) {a:GA} (ha:factB a=true):l.any (sameA a)=true↔a∈l:=by
 rw[List.any_eq_true]
 constructor
 . rintro ⟨b,hb,h⟩;rw[(jpw ha (hl b hb)).1 h];exact hb
 intro h;exact⟨a,h,(jpw ha ha).2 rfl⟩
def jd8 (facts:List GA):List GA->List GA->Option (List GA)
 | fr,[]=>some fr
 | fr,a :: tl=>if facts.any (sameA a) || fr.any (sameA a) then jd8 facts fr tl else if facts.length+(fr.length+1)<=300 then jd8 facts (fr++[a]) tl else none
def jcl (facts:List GA) (rounds:List Nat):List GR->List GA->Option (List GA)
 | [],fr=>some fr
 | r :: rs,fr=>match jd8 facts fr (jcv facts rounds r) with
   | none=>none
   | some fr'=>jcl facts rounds rs fr'
structure News (facts:List GA) (P:GA->Prop) (fr:List GA):Prop where
 nd:fr.Nodup
 o:∀ a∈fr,a ∉ facts
 told:∀ a∈fr,P a
 fits:facts.length+fr.length<=300
 fact:∀ a∈fr,factB a=true
theorem jhb {facts:List GA} (hf:∀ a∈facts,factB a=true) {P:GA->Prop}:∀ {tl fr fr':List GA},News facts P fr->(∀ a∈tl,P a/\factB a=true)->jd8 facts fr tl=some fr'->News facts P fr'/\(∀ a∈fr,a∈fr')/\∀ a∈tl,a∈facts∨a∈fr'
 | [],fr,fr',hN,_,h=>by
   simp only[jd8,Option.some.injEq] at h;subst h;exact⟨hN,fun _ h=>h,fun a ha=>by cases ha⟩
 | a :: tl,fr,fr',hN,has,h=>by
   have ha:=has a List.mem_cons_self;have hr:∀ x∈tl,P x/\factB x=true:=fun x hx=>has x (List.mem_cons_of_mem _ hx)
   simp only[jd8] at h;split at h
   . rename_i hc
     rw[Bool.or_eq_true,jha hf ha.2,jha hN.fact ha.2] at hc;obtain⟨k1,k2,k3⟩:=jhb hf hN hr h;refine⟨k1,k2,fun x hx=>?_⟩;rcases List.mem_cons.1 hx with rfl|hx
     . exact hc.imp id (k2 _)
     exact k3 x hx
   rename_i hc;rw[Bool.or_eq_true,jha hf ha.2,jha hN.fact ha.2] at hc;split at h
   . rename_i hle
     have hN2:News facts P (fr++[a]):=by
      refine⟨List.nodup_append.2 ⟨hN.nd,by simp,fun x hx y hy=>by simp at hy;subst hy;exact fun e=>hc (.inr (e▸hx))⟩,fun x hx=>?_,fun x hx=>?_,by simp;omega,fun x hx=>?_⟩
      . rcases List.mem_append.1 hx with hx|hx
        . exact hN.o x hx
        simp at hx;subst hx;exact fun h=>hc (.inl h)
      . rcases List.mem_append.1 hx with hx|hx
        . exact hN.told x hx
        simp at hx;subst hx;exact ha.1
      rcases List.mem_append.1 hx with hx|hx
      . exact hN.fact x hx
      simp at hx;subst hx;exact ha.2
     obtain⟨k1,k2,k3⟩:=jhb hf hN2 hr h;refine⟨k1,fun x hx=>k2 x (List.mem_append_left _ hx),fun x hx=>?_⟩;rcases List.mem_cons.1 hx with rfl|hx
     . exact .inr (k2 _ (List.mem_append_right _ List.mem_cons_self))
     exact k3 x hx
   cases h
def Over (facts:List GA) (P:GA->Prop):Prop:=∃ fr:List GA,fr.Nodup/\(∀ a∈fr,a ∉ facts/\P a)/\300<facts.length+fr.length
theorem jjw {facts:List GA} (hf:∀ a∈facts,factB a=true) {P:GA->Prop}:∀ {tl fr:List GA},News facts P fr->(∀ a∈tl,P a/\factB a=true)->jd8 facts fr tl=none->Over facts P
 | [],fr,hN,_,h=>by simp[jd8] at h
 | a :: tl,fr,hN,has,h=>by
   have ha:=has a List.mem_cons_self;have hr:∀ x∈tl,P x/\factB x=true:=fun x hx=>has x (List.mem_cons_of_mem _ hx)
   simp only[jd8] at h;split at h
   . exact jjw hf hN hr h
   rename_i hc;rw[Bool.or_eq_true,jha hf ha.2,jha hN.fact ha.2] at hc;have hnd:(fr++[a]).Nodup:=List.nodup_append.2 ⟨hN.nd,by simp,fun x hx y hy=>by simp at hy;subst hy;exact fun e=>hc (.inr (e▸hx))⟩
   have hout:∀ x∈fr++[a],x ∉ facts/\P x:=fun x hx=>by
    rcases List.mem_append.1 hx with hx|hx
    . exact⟨hN.o x hx,hN.told x hx⟩
    simp at hx;subst hx;exact⟨fun h=>hc (.inl h),ha.1⟩
   split at h
   . rename_i hle
     have hN2:News facts P (fr++[a]):=⟨hnd,fun x hx=>(hout x hx).1,fun x hx=>(hout x hx).2,by simp;omega,fun x hx=>by
      rcases List.mem_append.1 hx with hx|hx
      . exact hN.fact x hx
      simp at hx;subst hx;exact ha.2⟩
     exact jjw hf hN2 hr h
   exact⟨fr++[a],hnd,hout,by simp;omega⟩
def jes (facts:List GA) (rs:List GR) (a:GA):Prop:=∃ r∈rs,Cons facts r a
theorem jjx {facts:List GA} {rounds:List Nat} (hf:∀ a∈facts,factB a=true) {all:List GR}:∀ {rs:List GR} {fr fr':List GA},(∀ r∈rs,Fine r/\r∈all)->News facts (jes facts all) fr->jcl facts rounds rs fr=some fr' ->
  News facts (jes facts all) fr'/\(∀ a∈fr,a∈fr')/\∀ a,jes facts rs a->a∈facts∨a∈fr'
 | [],fr,fr',_,hN,h=>by
   simp only[jcl,Option.some.injEq] at h;subst h;exact⟨hN,fun _ h=>h,fun a ⟨r,hr,_⟩=>by cases hr⟩
 | r :: rs,fr,fr',hrs,hN,h=>by
   obtain⟨hr1,hr2⟩:=hrs r List.mem_cons_self;simp only[jcl] at h;split at h
   . cases h
   rename_i fr1 he
   obtain ⟨k1,k2,k3⟩:=jhb hf hN (fun a ha=>by
    have:=(jg9 hr1 hf).1 ha;exact⟨⟨r,hr2,this⟩,jip hr1 hf this⟩) he
   obtain⟨m1,m2,m3⟩:=jjx hf (fun q hq=>hrs q (List.mem_cons_of_mem _ hq)) k1 h;refine⟨m1,fun a ha=>m2 a (k2 a ha),fun a ⟨q,hq,hc⟩=>?_⟩;rcases List.mem_cons.1 hq with rfl|hq
   . exact (k3 a ((jg9 hr1 hf).2 hc)).imp id (m2 a)
   exact m3 a ⟨q,hq,hc⟩
theorem jom {facts:List GA} {rounds:List Nat} (hf:∀ a∈facts,factB a=true) {all:List GR}:∀ {rs:List GR} {fr:List GA},(∀ r∈rs,Fine r/\r∈all)->News facts (jes facts all) fr->jcl facts rounds rs fr=none->Over facts (jes facts all)
 | [],fr,_,hN,h=>by simp[jcl] at h
 | r :: rs,fr,hrs,hN,h=>by
   obtain⟨hr1,hr2⟩:=hrs r List.mem_cons_self
   have hto:∀ a∈jcv facts rounds r,jes facts all a/\factB a=true:=fun a ha=>by
    have:=(jg9 hr1 hf).1 ha;exact⟨⟨r,hr2,this⟩,jip hr1 hf this⟩
   simp only[jcl] at h;split at h
   . rename_i he
     exact jjw hf hN hto he
   rename_i fr1 he;exact jom hf (fun q hq=>hrs q (List.mem_cons_of_mem _ hq)) (jhb hf hN hto he).1 h
theorem jvv {facts:List GA} {P:GA->Prop} (h:facts.length<=300):News facts P []:=⟨List.nodup_nil,fun _ h=>(by cases h),fun _ h=>(by cases h),(by simpa using h),fun _ h=>(by cases h)⟩
end Go.Proofs.YthiflhkcpanaaaaGreatDoor
