/- Own texts, joined. -/
import Derived.Test.YthdojieomhighaaGreatDoorCas01
import Derived.Test.YthdojieomhighaaGreatDoorCas02
import Derived.Test.YthdojieomhighaaGreatDoorCas04
set_option linter.unusedSimpArgs false
set_option linter.unusedVariables false
set_option maxHeartbeats 2000000
set_option maxRecDepth 100000
namespace Go.Proofs.YthdojieomhighaaGreatDoor
open Go.RowKit
/-! ### Patterns and words -/
structure GS where
 v:Option Nat
 w:ByteArray
structure GPat where
 n:ByteArray
 slots:List GS
abbrev Words:=List ByteArray
def jcq:ByteArray:=⟨#[]⟩
def Words.at_ (W:Words) (v:Nat):ByteArray:=W.getD v jcq
def jau (W:Words) (s:GS):ByteArray:=match s.v with
 | none=>s.w
 | some v=>W.at_ v
def isNo (s:ByteArray):Bool:=decide (s.size=0)
theorem jt9 {s:ByteArray}:isNo s=true↔s=jcq:=by
 unfold isNo jcq
 constructor
 · intro h
   have h1:=of_decide_eq_true h
   cases s with
   | mk d =>
     have:d.size=0:=h1;rw[Array.eq_empty_of_size_eq_zero this]
 intro h;subst h;rfl
def bindW (W:Words) (s:GS) (x:ByteArray):Words:=match s.v with
 | none=>W
 | some v=>W.set v x
def jb9:List GS→List GT→Words→Words × Bool
 | s :: ss,t :: ts,W =>
   if t.v || isNo t.n then (W,false)
   else if isNo (jau W s) then jb9 ss ts (bindW W s t.n)
   else if jau W s=t.n then jb9 ss ts W else (W,false)
 | _,_,W=>(W,true)
def jak (p:GPat) (a:GA) (W:Words):Words × Bool:=if p.n=a.n∧p.slots.length=a.args.length then jb9 p.slots a.args W else (W,false)
def factP (W:Words) (p:GPat):GA:=⟨p.n,p.slots.map fun s=>⟨false,jau W s⟩⟩
/-! ### Candidates -/
def under (facts:List GA) (n:ByteArray) (size:Nat) (at_:Option (Nat × ByteArray)) (j:Nat):Bool:=match facts[j]? with
 | none=>false
 | some a=>decide (a.n=n∧a.args.length=size) && match at_ with
   | none=>true
   | some (i,w)=>match a.args[i]? with
     | none=>false
     | some t=>decide (t.n=w)
def jam (facts:List GA) (n:ByteArray) (size:Nat) (at_:Option (Nat × ByteArray)):List Nat:=(List.range facts.length).filter (under facts n size at_)
def jb5 (facts:List GA) (p:GPat) (W:Words) (best:List Nat) (x:GS × Nat):List Nat :=
 if isNo (jau W x.1) then best
 else if (jam facts p.n p.slots.length (some (x.2,jau W x.1))).length<best.length then jam facts p.n p.slots.length (some (x.2,jau W x.1)) else best
def candP (facts:List GA) (p:GPat) (W:Words):List Nat:=p.slots.zipIdx.foldl (jb5 facts p W) (jam facts p.n p.slots.length none)
structure SE where
 facts:List GA
 rounds:List Nat
 parts:List GPat
 nots:List GPat
 wanted:List Bool
 inOrder:Bool
 ahead:Nat
def SE.settled (E:SE) (W:Words):Bool:=E.wanted.zipIdx.all fun x=> !x.1 || !isNo (W.at_ x.2)
def sameA (a b:GA):Bool:=decide (a.n=b.n∧a.args.map (·.n)=b.args.map (·.n))
def SE.hindered (E:SE) (W:Words):Bool:=E.nots.any fun p=>E.facts.any (sameA (factP W p))
def jav (E:SE) (left:Nat) (W:Words) (o:Option (Nat × List Nat)) (x:GPat × Nat):Option (Nat × List Nat) :=
 if left.testBit x.2 then match o with
  | none=>some (x.2,candP E.facts x.1 W)
  | some (b,l)=>if E.inOrder then some (b,l) else if (candP E.facts x.1 W).length<l.length then some (x.2,candP E.facts x.1 W) else some (b,l)
 else o
def SE.choose (E:SE) (left:Nat) (W:Words):Option (Nat × List Nat):=E.parts.zipIdx.foldl (jav E left W) none
def jaj (left i:Nat):Nat:=if left.testBit i then left ^^^ 2 ^ i else left
def SE.skip (E:SE) (j:Nat):Bool:=E.inOrder && decide (E.ahead≤E.rounds.getD j 0)
def jaf (E:SE) (rec_:Words→List Words × Bool) (settled:Bool) (p:GPat) (W:Words):List Nat→Bool→List Words × Bool
 | [],held=>([],held)
 | j :: l,held =>
   if E.skip j then jaf E rec_ settled p W l held
   else match E.facts[j]? with
    | none=>jaf E rec_ settled p W l held
    | some a =>
      if (jak p a W).2 then
       let r:=rec_ (jak p a W).1
       if (held || r.2) && settled then (r.1,held || r.2)
       else let q:=jaf E rec_ settled p W l (held || r.2);(r.1++q.1,q.2)
      else if held && settled then ([],held) else jaf E rec_ settled p W l held
def told (E:SE):Nat→Nat→Words→List Words × Bool
 | 0,_,_=>([],false)
 | f + 1,left,W =>
   if E.settled W && E.hindered W then ([],false)
   else if left=0 then ([W],true)
   else match E.choose left W with
    | none=>([],false)
    | some (i,l)=>match E.parts[i]? with
      | none=>([],false)
      | some p=>jaf E (told E f (jaj left i)) (E.settled W) p W l false
def feed {σ:Type} (tell:σ→Words→σ × Bool):List Words→σ→σ × Bool
 | [],st=>(st,true)
 | W :: l,st=>if (tell st W).2 then feed tell l (tell st W).1 else ((tell st W).1,false)
/-! ### What words say -/
def Words.below (W V:Words):Prop:=W.length=V.length∧∀ v,isNo (W.at_ v)=false→V.at_ v=W.at_ v
theorem jna (W:Words):W.below W:=⟨rfl,fun _ _=>rfl⟩
theorem jhb {U V W:Words} (h:U.below V) (k:V.below W):U.below W:=⟨h.1.trans k.1,fun v hv=>by
 have h1:=h.2 v hv;rw[← h1] at hv ⊢;exact k.2 v hv⟩
theorem jka (W:Words) (v:Nat) (x:ByteArray) (u:Nat):Words.at_ (W.set v x) u=if v=u∧v<W.length then x else W.at_ u:=by
 unfold Words.at_;rw[List.getD_eq_getElem?_getD,List.getD_eq_getElem?_getD,List.getElem?_set];by_cases h:v=u
 · subst h
   by_cases h2:v<W.length
   · simp[h2]
   simp[h2]
 simp[h]
def jb3 (m:Nat) (s:GS):Prop:=match s.v with
 | none=>isNo s.w=false
 | some v=>v<m
def jlg (a:GA):Prop:=∀ t∈a.args,t.v=false∧isNo t.n=false
theorem jnb {W:Words} {s:GS} {x:ByteArray} (hs:jb3 W.length s) (h:isNo (jau W s)=true):W.below (bindW W s x)∧jau (bindW W s x) s=x:=by
 unfold jb3 at hs;unfold jau at h ⊢;unfold bindW
 cases hv:s.v with
 | none=>rw[hv] at hs h;simp only at hs h;rw[h] at hs;cases hs
 | some v =>
   rw[hv] at hs h;simp only at hs h ⊢;refine⟨⟨(List.length_set).symm,fun u hu=>?_⟩,?_⟩
   · rw [jka]
     split
     · rename_i e
       rw[← e.1,h] at hu;cases hu
     rfl
   rw[jka,if_pos ⟨rfl,hs⟩]
theorem jc9 {W V:Words} {s:GS} (h:W.below V) (hk:isNo (jau W s)=false):jau V s=jau W s:=by
 unfold jau at hk ⊢
 cases hv:s.v with
 | none=>rfl
 | some v=>rw[hv] at hk;exact h.2 v hk
theorem jhc:∀ {ss:List GS} {ts:List GT} {W V:Words},(∀ s∈ss,jb3 W.length s)→ss.length=ts.length→jb9 ss ts W=(V,true) →
  W.below V∧(∀ s∈ss,isNo (jau V s)=false)∧ss.map (jau V)=ts.map (·.n)∧∀ v,isNo (W.at_ v)=true→isNo (V.at_ v)=false→∃ s∈ss,s.v=some v
 | [],[],W,V,_,_,h=>by
   simp only[jb9,Prod.mk.injEq,and_true] at h;subst h;exact⟨jna _,fun s hs=>(by cases hs),rfl,fun v h1 h2=>(by rw[h1] at h2;cases h2)⟩
 | [],_ :: _,_,_,_,hl,_=>by simp at hl
 | _ :: _,[],_,_,_,hl,_=>by simp at hl
 | s :: ss,t :: ts,W,V,hs,hl,h=>by
   have hl':ss.length=ts.length:=by simpa using hl
   simp only[jb9] at h;split at h
   · simp at h
   rename_i hbad
   have ht2:isNo t.n=false:=by
    cases h2:isNo t.n
    · rfl
    rw[h2,Bool.or_true] at hbad;exact absurd rfl hbad
   split at h
   · rename_i hno
     have hb:=jnb (x:=t.n) (hs s (by simp)) hno;have hlen:(bindW W s t.n).length=W.length:=hb.1.1.symm;obtain⟨h1,h2,h3,h4⟩:=jhc (fun s' hs'=>by rw[hlen];exact hs s' (List.mem_cons_of_mem _ hs')) hl' h;have hk:isNo (jau (bindW W s t.n) s)=false:=by rw[hb.2];exact ht2
     have hw:=jc9 h1 hk;refine⟨jhb hb.1 h1,fun s' hs'=>?_,?_,fun v hv1 hv2=>?_⟩
     · rcases List.mem_cons.1 hs' with rfl|hs'
       · rw[hw];exact hk
       exact h2 s' hs'
     · rw[List.map_cons,List.map_cons,h3,hw,hb.2]
     by_cases e:isNo ((bindW W s t.n).at_ v)=true
     · obtain ⟨s',hs',hv'⟩:=h4 v e hv2
       exact⟨s',List.mem_cons_of_mem _ hs',hv'⟩
     refine⟨s,by simp,?_⟩;unfold bindW at e
     cases hsv:s.v with
     | none=>rw[hsv] at e;exact absurd hv1 e
     | some u =>
       rw[hsv] at e;simp only at e;rw[jka] at e;split at e
       · rename_i e2;rw[e2.1]
       exact absurd hv1 e
   rename_i hno;have hk:isNo (jau W s)=false:=by simpa using hno
   split at h
   · rename_i heq
     obtain⟨h1,h2,h3,h4⟩:=jhc (fun s' hs'=>hs s' (List.mem_cons_of_mem _ hs')) hl' h;have hw:=jc9 h1 hk;refine⟨h1,fun s' hs'=>?_,?_,fun v hv1 hv2=>?_⟩
     · rcases List.mem_cons.1 hs' with rfl|hs'
       · rw[hw];exact hk
       exact h2 s' hs'
     · rw[List.map_cons,List.map_cons,h3,hw,heq]
     obtain⟨s',hs',hv'⟩:=h4 v hv1 hv2;exact⟨s',List.mem_cons_of_mem _ hs',hv'⟩
   simp at h
theorem jf7:∀ {ss:List GS} {ts:List GT} {W R:Words},(∀ s∈ss,jb3 W.length s)→ss.length=ts.length→W.below R→(∀ t∈ts,t.v=false∧isNo t.n=false)→ss.map (jau R)=ts.map (·.n) →
  ∃ V,jb9 ss ts W=(V,true)∧V.below R
 | [],[],W,R,_,_,hW,_,_=>⟨W,rfl,hW⟩
 | [],_ :: _,_,_,_,hl,_,_,_=>by simp at hl
 | _ :: _,[],_,_,_,hl,_,_,_=>by simp at hl
 | s :: ss,t :: ts,W,R,hs,hl,hW,ht,hm=>by
   have hl':ss.length=ts.length:=by simpa using hl
   obtain⟨ht1,ht2⟩:=ht t (by simp);rw[List.map_cons,List.map_cons] at hm;injection hm with hm1 hm2
   simp only[jb9];rw[if_neg (by rw[ht1,ht2];simp)];by_cases hno:isNo (jau W s)=true
   · rw [if_pos hno]
     have hb:=jnb (x:=t.n) (hs s (by simp)) hno;have hlen:(bindW W s t.n).length=W.length:=hb.1.1.symm;refine jf7 (fun s' hs'=>by rw[hlen];exact hs s' (List.mem_cons_of_mem _ hs')) hl' ⟨hlen.trans hW.1,fun v hv=>?_⟩ (fun t' ht'=>ht t' (List.mem_cons_of_mem _ ht')) hm2;unfold bindW at hv ⊢
     cases hsv:s.v with
     | none=>rw[hsv] at hv;exact hW.2 v hv
     | some u =>
       rw[hsv] at hv;simp only at hv ⊢;rw[jka] at hv ⊢;split
       · rename_i e
         rw[← hm1,← e.1];unfold jau;rw[hsv]
       rename_i e;rw[if_neg e] at hv;exact hW.2 v hv
   rw[if_neg hno];have hk:isNo (jau W s)=false:=by simpa using hno
   have hw:=jc9 hW hk;rw[if_pos (hw.symm.trans hm1)];exact jf7 (fun s' hs'=>hs s' (List.mem_cons_of_mem _ hs')) hl' hW (fun t' ht'=>ht t' (List.mem_cons_of_mem _ ht')) hm2
/-! ### Candidates are all that may match -/
def Holds (facts:List GA) (p:GPat) (V:Words):Prop:=∃ a∈facts,a.n=p.n∧a.args.map (·.n)=p.slots.map (jau V)
def known (V:Words) (p:GPat):Prop:=∀ s∈p.slots,isNo (jau V s)=false
theorem je6 {α β:Type} {f:β→α→β} {I:β→Prop}:∀ {l:List α} {b:β},(∀ b x,x∈l→I b→I (f b x))→I b→I (l.foldl f b)
 | [],_,_,h=>h
 | x :: l,b,hs,h=>je6 (l:=l) (b:=f b x) (fun b y hy=>hs b y (List.mem_cons_of_mem _ hy)) (hs b x (by simp) h)
theorem jgn {facts:List GA} {n:ByteArray} {size:Nat} {at_:Option (Nat × ByteArray)} {j:Nat}:j∈jam facts n size at_↔under facts n size at_ j=true:=by
 unfold jam;rw[List.mem_filter,List.mem_range]
 constructor
 · exact fun h=>h.2
 intro h;refine⟨?_,h⟩;unfold under at h
 cases hj:facts[j]? with
 | none=>rw[hj] at h;cases h
 | some a=>exact (List.getElem?_eq_some_iff.1 hj).1
theorem jzd {facts:List GA} {n:ByteArray} {size:Nat} {at_:Option (Nat × ByteArray)} {j:Nat} (h:under facts n size at_ j=true):∃ a,facts[j]? = some a∧a.n=n∧a.args.length=size:=by
 unfold under at h
 cases hj:facts[j]? with
 | none=>rw[hj] at h;cases h
 | some a =>
   rw[hj] at h;simp only[Bool.and_eq_true,decide_eq_true_eq] at h;exact⟨a,rfl,h.1⟩
theorem jw7 {facts:List GA} {p:GPat} {W:Words} {j:Nat} (h:j∈candP facts p W):∃ a,facts[j]? = some a∧a.n=p.n∧a.args.length=p.slots.length:=by
 have key:∀ j∈candP facts p W,∃ at_,under facts p.n p.slots.length at_ j=true:=by
  unfold candP;refine je6 (I:=fun b=>∀ j∈b,∃ at_,under facts p.n p.slots.length at_ j=true) (fun b x _ hb=>?_) (fun j hj=>⟨none,jgn.1 hj⟩);unfold jb5;split
  · exact hb
  split
  · exact fun j hj=>⟨_,jgn.1 hj⟩
  exact hb
 obtain⟨at_,hu⟩:=key j h;exact jzd hu
theorem jze {facts:List GA} {p:GPat} {W R:Words} {j:Nat} {a:GA} (hW:W.below R) (hj:facts[j]? = some a) (hn:a.n=p.n) (hm:a.args.map (·.n)=p.slots.map (jau R)):j∈candP facts p W:=by
 have hlen:a.args.length=p.slots.length:=by simpa using congrArg List.length hm
 unfold candP;refine je6 (I:=fun b=>j∈b) (fun b x hx hb=>?_) (jgn.2 (by unfold under;rw[hj];simp[hn,hlen]));unfold jb5;split
 · exact hb
 rename_i hno;split
 · refine jgn.2 ?_
   obtain⟨s,i⟩:=x;have hs:p.slots[i]? = some s:=List.mem_zipIdx_iff_getElem?.1 hx;have hk:isNo (jau W s)=false:=by simpa using hno
   have hw:=jc9 hW hk;have hi:(a.args.map (·.n))[i]? = some (jau R s):=by rw[hm,List.getElem?_map,hs];rfl
   rw[List.getElem?_map] at hi;unfold under;rw[hj]
   cases ht:a.args[i]? with
   | none=>rw[ht] at hi;cases hi
   | some t =>
     rw[ht] at hi;simp only[Option.map_some,Option.some.injEq] at hi;simp[hn,hlen,hi,hw,ht]
 exact hb
theorem jh2 {E:SE} {left:Nat} {W:Words} {i:Nat} {l:List Nat} (h:E.choose left W=some (i,l)):left.testBit i=true∧∃ p,E.parts[i]? = some p∧l=candP E.facts p W:=by
 unfold SE.choose at h
 have key:∀ i l,E.parts.zipIdx.foldl (jav E left W) none=some (i,l)→left.testBit i=true∧∃ p,E.parts[i]? = some p∧l=candP E.facts p W:=by
  refine je6 (I:=fun o=>∀ i l,o=some (i,l)→left.testBit i=true∧∃ p,E.parts[i]? = some p∧l=candP E.facts p W) (fun o x hx ho=>?_) (fun i l h=>by cases h);intro i l h;unfold jav at h;have hxp:E.parts[x.2]? = some x.1:=List.mem_zipIdx_iff_getElem?.1 hx;split at h
  · rename_i hb
    have mine:∀ {i l},(x.2,candP E.facts x.1 W)=(i,l)→left.testBit i=true∧∃ p,E.parts[i]? = some p∧l=candP E.facts p W:=fun {i l} e=>by
     injection e with e1 e2
     subst e1;subst e2;exact⟨hb,x.1,hxp,rfl⟩
    cases ho2:o with
    | none=>rw[ho2] at h;exact mine (Option.some.inj h)
    | some q =>
      obtain⟨b,m⟩:=q;rw[ho2] at h;simp only at h;split at h
      · exact ho i l (ho2.trans h)
      split at h
      · exact mine (Option.some.inj h)
      exact ho i l (ho2.trans h)
  exact ho i l h
 exact key i l h
theorem jsh {E:SE} {left:Nat} {W:Words} {i:Nat} (hi:i<E.parts.length) (hb:left.testBit i=true):E.choose left W≠none:=by
 unfold SE.choose;obtain⟨x,hx⟩:∃ x,E.parts[i]? = some x:=⟨_,List.getElem?_eq_getElem hi⟩
 have hm:(x,i)∈E.parts.zipIdx:=List.mem_zipIdx_iff_getElem?.2 hx;obtain⟨l1,l2,hl⟩:=List.append_of_mem hm;rw[hl,List.foldl_append,List.foldl_cons];refine je6 (I:=fun o=>o≠none) (fun o y _ ho=>?_) ?_
 · unfold jav
   split
   · cases o with
     | none=>exact fun h=>by cases h
     | some q =>
       simp only;split
       · exact fun h=>by cases h
       split<;>exact fun h=>by cases h
   exact ho
 unfold jav;rw[if_pos hb];split
 · exact fun h=>by cases h
 split
 · exact fun h=>by cases h
 split<;>exact fun h=>by cases h
/-! ### Through candidates -/
theorem je7 {E:SE} {rec_:Words→List Words × Bool} {settled:Bool} {p:GPat} {W:Words}:∀ {l:List Nat} {held:Bool} {V:Words},V∈(jaf E rec_ settled p W l held).1 →
  ∃ j∈l,∃ a,E.facts[j]? = some a∧(jak p a W).2=true∧V∈(rec_ (jak p a W).1).1
 | [],held,V,h=>by simp[jaf] at h
 | j :: l,held,V,h=>by
   have up:(∃ j∈l,∃ a,E.facts[j]? = some a∧(jak p a W).2=true∧V∈(rec_ (jak p a W).1).1)→∃ j'∈j :: l,∃ a,E.facts[j']? = some a∧(jak p a W).2=true∧V∈(rec_ (jak p a W).1).1:=fun ⟨j',h1,h2⟩=>⟨j',List.mem_cons_of_mem _ h1,h2⟩
   simp only[jaf] at h;split at h
   · exact up (je7 h)
   cases hj:E.facts[j]? with
   | none=>rw[hj] at h;exact up (je7 h)
   | some a =>
     rw[hj] at h;simp only at h;split at h
     · rename_i hm
       split at h
       · exact⟨j,by simp,a,hj,hm,h⟩
       rcases List.mem_append.1 h with h|h
       · exact⟨j,by simp,a,hj,hm,h⟩
       exact up (je7 h)
     split at h
     · cases h
     exact up (je7 h)
theorem jea {E:SE} {rec_:Words→List Words × Bool} {settled:Bool} {p:GPat} {W:Words} (hr:∀ W',(rec_ W').2 = !(rec_ W').1.isEmpty):∀ {l:List Nat} {held:Bool},(jaf E rec_ settled p W l held).2=(held || !(jaf E rec_ settled p W l held).1.isEmpty)
 | [],held=>by simp[jaf]
 | j :: l,held=>by
   simp only[jaf];split
   · exact jea hr
   cases hj:E.facts[j]? with
   | none=>exact jea hr
   | some a =>
     simp only;split
     · split
       · rw[hr]
       rw[jea hr,hr];cases held<;>cases (rec_ (jak p a W).1).1<;>simp
     split
     · rename_i h
       cases held<;>simp at h ⊢
     exact jea hr
theorem jkx {E:SE} {rec_:Words→List Words × Bool} {p:GPat} {W:Words} (ho:E.inOrder=false):∀ {l:List Nat} {held:Bool} {j:Nat} {a:GA} {V:Words},j∈l→E.facts[j]? = some a→(jak p a W).2=true→V∈(rec_ (jak p a W).1).1 →
  V∈(jaf E rec_ false p W l held).1
 | [],_,_,_,_,h,_,_,_=>by cases h
 | j :: l,held,j',a,V,h,hj,hm,hV=>by
   have hsk:E.skip j=false:=by unfold SE.skip;rw[ho];rfl
   simp only[jaf,hsk,Bool.false_eq_true,if_false,Bool.and_false];rcases List.mem_cons.1 h with rfl|h
   · rw [hj]
     simp only[hm,if_true];exact List.mem_append_left _ hV
   cases hj2:E.facts[j]? with
   | none=>exact jkx ho h hj hm hV
   | some b =>
     simp only;split
     · exact List.mem_append_right _ (jkx ho h hj hm hV)
     exact jkx ho h hj hm hV
theorem jh3 {E:SE} {rec_:Words→List Words × Bool} {settled:Bool} {p:GPat} {W:Words} (ho:E.inOrder=false) (hr:∀ W',(rec_ W').2 = !(rec_ W').1.isEmpty):∀ {l:List Nat} {held:Bool} {j:Nat} {a:GA} {V:Words},j∈l→E.facts[j]? = some a→(jak p a W).2=true→V∈(rec_ (jak p a W).1).1 →
  (jaf E rec_ settled p W l held).2=true
 | [],_,_,_,_,h,_,_,_=>by cases h
 | j :: l, held,j',a,V,h,hj,hm,hV=>by
   have hsk:E.skip j=false:=by unfold SE.skip;rw[ho];rfl
   simp only[jaf,hsk,Bool.false_eq_true,if_false];rcases List.mem_cons.1 h with rfl|h
   · rw [hj]
     have hne:(rec_ (jak p a W).1).2=true:=by
      rw[hr]
      cases hl:(rec_ (jak p a W).1).1 with
      | nil=>rw[hl] at hV;cases hV
      | cons _ _=>rfl
     simp only[hm,if_true,hne,Bool.or_true,Bool.true_and];split
     · rfl
     rw[jea hr];rfl
   cases hj2:E.facts[j]? with
   | none=>exact jh3 ho hr h hj hm hV
   | some b =>
     simp only;split
     · split
       · rename_i h2
         rw[Bool.and_eq_true] at h2;exact h2.1
       exact jh3 ho hr h hj hm hV
     split
     · rename_i h2
       rw[Bool.and_eq_true] at h2;exact h2.1
     exact jh3 ho hr h hj hm hV
/-! ### What is left -/
theorem jdn {left i j:Nat} (h:left.testBit i=true):(jaj left i).testBit j=(left.testBit j && !decide (i=j)):=by
 unfold jaj;rw[if_pos h,Nat.testBit_xor,Nat.testBit_two_pow];by_cases e:i=j
 · subst e;simp[h]
 simp[e]
def jh4 (n left:Nat):Nat:=(List.range n).countP left.testBit
theorem jf8 {n left i:Nat} (hi:i<n) (h:left.testBit i=true):jh4 n (jaj left i)+1≤jh4 n left:=by
 unfold jh4;have hm:i∈List.range n:=List.mem_range.2 hi;obtain⟨l1,l2,hl⟩:=List.append_of_mem hm
 have hle:∀ l:List Nat,l.countP (jaj left i).testBit≤l.countP left.testBit:=fun l=>List.countP_mono_left (fun x _ hx=>by
  rw[jdn h,Bool.and_eq_true] at hx;exact hx.1)
 rw[hl,List.countP_append,List.countP_append,List.countP_cons,List.countP_cons];have e1:(jaj left i).testBit i=false:=by rw[jdn h];simp
 simp only[e1,h,Bool.false_eq_true,if_false,if_true];have:=hle l1;have:=hle l2;omega
theorem jzf {left:Nat} (h:left≠0):∃ i,left.testBit i=true:=by
 refine Classical.byContradiction fun hn=>h ?_
 refine Nat.eq_of_testBit_eq fun i=>?_
 rw[Nat.zero_testBit]
 cases hi:left.testBit i with
 | false=>rfl
 | true=>exact absurd ⟨i,hi⟩ hn
/-! ### What is told -/
structure SE.Ok (E:SE) (m:Nat):Prop where
 parts:∀ p∈E.parts,∀ s∈p.slots,jb3 m s
 facts:∀ a∈E.facts,jlg a
 free:E.inOrder=false
 wlen:E.wanted.length=m
 cover:∀ v,E.wanted[v]? = some true→∃ p∈E.parts,∃ s∈p.slots,s.v=some v
 nots:∀ p∈E.nots,∀ s∈p.slots,∀ v,s.v=some v→E.wanted[v]? = some true
def SE.Done (E:SE) (left:Nat) (W:Words):Prop:=∀ i p,E.parts[i]? = some p→left.testBit i=false→known W p∧Holds E.facts p W
theorem jhd {facts:List GA} {p:GPat} {W V:Words} (h:W.below V) (hk:known W p) (hh:Holds facts p W):known V p∧Holds facts p V:=by
 have hm:p.slots.map (jau V)=p.slots.map (jau W):=List.map_congr_left fun s hs=>jc9 h (hk s hs)
 obtain⟨a,h1,h2,h3⟩:=hh;exact⟨fun s hs=>by rw[jc9 h (hk s hs)];exact hk s hs,a,h1,h2,by rw[hm];exact h3⟩
theorem jfm {E:SE} {W:Words}:E.settled W=true↔∀ v,E.wanted[v]? = some true→isNo (W.at_ v)=false:=by
 unfold SE.settled;rw[List.all_eq_true]
 constructor
 · intro h v hv
   have:=h (true,v) (List.mem_zipIdx_iff_getElem?.2 hv);simpa using this
 intro h x hx;have hx2:=List.mem_zipIdx_iff_getElem?.1 hx;obtain⟨b,v⟩:=x
 cases b with
 | false=>rfl
 | true=>simpa using h v hx2
theorem jgo {a b:GA}:sameA a b=true↔a.n=b.n∧a.args.map (·.n)=b.args.map (·.n):=by
 unfold sameA;exact decide_eq_true_iff
theorem jmu {E:SE} {m:Nat} (hE:E.Ok m) {V R:Words} (h:∀ v,E.wanted[v]? = some true→V.at_ v=R.at_ v):E.hindered V=E.hindered R:=by
 unfold SE.hindered
 have key:∀ p∈E.nots,factP V p=factP R p:=fun p hp=>by
  unfold factP
  congr 1
  refine List.map_congr_left fun s hs=>?_
  unfold jau
  cases hv:s.v with
  | none=>rfl
  | some v=>simp only[h v (hE.nots p hp s hs v hv)]
 rw[Bool.eq_iff_iff,List.any_eq_true,List.any_eq_true]
 constructor
 · rintro ⟨p,hp,h2⟩;exact⟨p,hp,by rw[← key p hp];exact h2⟩
 rintro ⟨p,hp,h2⟩;exact⟨p,hp,by rw[key p hp];exact h2⟩
theorem jhe {p:GPat} {a:GA} {W:Words} (hs:∀ s∈p.slots,jb3 W.length s) (h:(jak p a W).2=true) :
  p.n=a.n∧W.below (jak p a W).1∧known (jak p a W).1 p∧p.slots.map (jau (jak p a W).1)=a.args.map (·.n):=by
 unfold jak at h ⊢;split at h
 · rename_i hc
   rw[if_pos hc];obtain⟨h1,h2,h3,_⟩:=jhc (V:=(jb9 p.slots a.args W).1) hs hc.2 (by rw[← h]);exact⟨hc.1,h1,h2,h3⟩
 cases h
theorem jp6 {p:GPat} {a:GA} {W R:Words} (hs:∀ s∈p.slots,jb3 W.length s) (hn:p.n=a.n) (hW:W.below R) (ha:jlg a) (hm:p.slots.map (jau R)=a.args.map (·.n)) :
  (jak p a W).2=true∧(jak p a W).1.below R:=by
 have hlen:p.slots.length=a.args.length:=by simpa using congrArg List.length hm
 obtain⟨V,h1,h2⟩:=jf7 hs hlen hW ha hm;unfold jak;rw[if_pos ⟨hn,hlen⟩,h1];exact⟨rfl,h2⟩
theorem jlh (E:SE):∀ (f left:Nat) (W:Words),(told E f left W).2 = !(told E f left W).1.isEmpty
 | 0,_,_=>rfl
 | f + 1,left,W=>by
   simp only[told];split
   · rfl
   split
   · rfl
   cases hc:E.choose left W with
   | none=>rfl
   | some q =>
     obtain⟨i,l⟩:=q;simp only
     cases hp:E.parts[i]? with
     | none=>rfl
     | some p=>simpa using jea (jlh E f (jaj left i)) (held:=false)
theorem ji3 {E:SE} {m:Nat} (hE:E.Ok m):∀ (f left:Nat) (W V:Words),W.length=m→E.Done left W→V∈(told E f left W).1 →
  W.below V∧(∀ p∈E.parts,known V p∧Holds E.facts p V)∧E.hindered V=false
 | 0,_,_,_,_,_,h=>by cases h
 | f + 1, left,W,V,hlen,hd,h=>by
   simp only[told] at h;split at h
   · cases h
   rename_i hnh;split at h
   · rename_i h0
     subst h0;have hV:V=W:=by simpa using h
     subst hV
     have hall:∀ p∈E.parts,known V p∧Holds E.facts p V:=fun p hp=>by
      obtain⟨i,hi⟩:=List.getElem?_of_mem hp;exact hd i p hi (Nat.zero_testBit i)
     refine⟨jna _,hall,?_⟩
     have hst:E.settled V=true:=jfm.2 fun v hv=>by
      obtain⟨p,hp,s,hs,e⟩:=hE.cover v hv;have:=(hall p hp).1 s hs;unfold jau at this;rw[e] at this;exact this
     rw[hst,Bool.true_and] at hnh;simpa using hnh
   cases hc:E.choose left W with
   | none=>rw[hc] at h;cases h
   | some q =>
     obtain⟨i,l⟩:=q;rw[hc] at h;simp only at h;obtain⟨hbit,p,hp,hl⟩:=jh2 hc;rw[hp] at h;simp only at h;obtain⟨j,hj,a,ha,hm,hV⟩:=je7 h;have hs:∀ s∈p.slots,jb3 W.length s:=fun s hs=>by rw[hlen];exact hE.parts p (List.mem_of_getElem? hp) s hs
     obtain⟨h1,h2,h3,h4⟩:=jhe hs hm
     have hd2:E.Done (jaj left i) (jak p a W).1:=fun i' p' hp' hb'=>by
      rw[jdn hbit] at hb';by_cases e:i=i'
      · subst e
        have:p'=p:=Option.some.inj (hp'.symm.trans hp);subst this;exact⟨h3,a,List.mem_of_getElem? ha,h1.symm,h4.symm⟩
      have hb2:left.testBit i'=false:=by simpa [e] using hb'
      obtain⟨k1,k2⟩:=hd i' p' hp' hb2;exact jhd h2 k1 k2
     obtain⟨r1,r2,r3⟩:=ji3 hE f _ _ V (h2.1.symm.trans hlen) hd2 hV;exact⟨jhb h2 r1,r2,r3⟩
theorem jua {E:SE} {m:Nat} (hE:E.Ok m):∀ (f left:Nat) (W R:Words),W.length=m→(∀ i,left.testBit i=true→i<E.parts.length)→jh4 E.parts.length left<f→E.Done left W→W.below R →
  (∀ p∈E.parts,known R p∧Holds E.facts p R)→E.hindered R=false→∃ V∈(told E f left W).1,∀ v,E.wanted[v]? = some true→V.at_ v=R.at_ v
 | 0,_,_,_,_,_,hf,_,_,_,_=>by omega
 | f + 1, left,W,R,hlen,hbits,hf,hd,hW,hR,hh=>by
   simp only[told];split
   · rename_i h
     rw[Bool.and_eq_true] at h;have:E.hindered W=E.hindered R:=jmu hE fun v hv=>(hW.2 v (jfm.1 h.1 v hv)).symm
     rw[h.2,hh] at this;cases this
   split
   · rename_i h0
     subst h0;refine⟨W,by simp,fun v hv=>?_⟩;obtain⟨p,hp,s,hs,e⟩:=hE.cover v hv;obtain⟨i,hi⟩:=List.getElem?_of_mem hp;have:=(hd i p hi (Nat.zero_testBit i)).1 s hs;unfold jau at this;rw[e] at this;exact (hW.2 v this).symm
   rename_i h0;obtain⟨i0,hi0⟩:=jzf h0
   cases hc:E.choose left W with
   | none=>exact absurd hc (jsh (hbits i0 hi0) hi0)
   | some q =>
     obtain⟨i,l⟩:=q;simp only;obtain⟨hbit,p,hp,hl⟩:=jh2 hc;rw[hp];simp only;have hs:∀ s∈p.slots,jb3 W.length s:=fun s hs=>by rw[hlen];exact hE.parts p (List.mem_of_getElem? hp) s hs
     obtain⟨hk,a,ham,han,hargs⟩:=hR p (List.mem_of_getElem? hp);obtain⟨j,hj⟩:=List.getElem?_of_mem ham;have hjl:j∈l:=by rw[hl];exact jze hW hj han hargs
     obtain⟨hm,hb⟩:=jp6 hs han.symm hW (hE.facts a ham) hargs.symm;obtain⟨h1,h2,h3,h4⟩:=jhe hs hm
     have hd2:E.Done (jaj left i) (jak p a W).1:=fun i' p' hp' hb'=>by
      rw[jdn hbit] at hb';by_cases e:i=i'
      · subst e
        have:p'=p:=Option.some.inj (hp'.symm.trans hp);subst this;exact⟨h3,a,List.mem_of_getElem? hj,h1.symm,h4.symm⟩
      have hb2:left.testBit i'=false:=by simpa [e] using hb'
      obtain⟨k1,k2⟩:=hd i' p' hp' hb2;exact jhd h2 k1 k2
     have hb3:∀ i',(jaj left i).testBit i'=true→i'<E.parts.length:=fun i' h=>by
      rw[jdn hbit,Bool.and_eq_true] at h;exact hbits i' h.1
     have hcnt:=jf8 (hbits i hbit) hbit;obtain⟨V,hV,hVR⟩:=jua hE f _ _ R (h2.1.symm.trans hlen) hb3 (by omega) hd2 hb hR hh
     cases hst:E.settled W with
     | false=>exact⟨V,jkx hE.free hjl hj hm hV,hVR⟩
     | true =>
       have hne:=jh3 (settled:=true) (held:=false) (rec_:=told E f (jaj left i)) hE.free (jlh E f _) hjl hj hm hV;rw[jea (jlh E f _),Bool.false_or] at hne
       cases hq:(jaf E (told E f (jaj left i)) true p W l false).1 with
       | nil=>rw[hq] at hne;cases hne
       | cons U us =>
         refine⟨U,by simp,fun v hv=>?_⟩;obtain⟨j',hj',a',ha',hm',hU⟩:=je7 (by rw[hq];simp:U∈_);obtain⟨g1,g2,g3,g4⟩:=jhe hs hm'
         have hd3:E.Done (jaj left i) (jak p a' W).1:=fun i' p' hp' hb'=>by
          rw[jdn hbit] at hb';by_cases e:i=i'
          · subst e
            have:p'=p:=Option.some.inj (hp'.symm.trans hp);subst this;exact⟨g3,a',List.mem_of_getElem? ha',g1.symm,g4.symm⟩
          have hb2:left.testBit i'=false:=by simpa [e] using hb'
          obtain⟨k1,k2⟩:=hd i' p' hp' hb2;exact jhd g2 k1 k2
         have hUW:=(ji3 hE f _ _ U (g2.1.symm.trans hlen) hd3 hU).1;have hkw:=jfm.1 hst v hv;have e1:=(jhb g2 hUW).2 v hkw;exact e1.trans (hW.2 v hkw).symm
/-! ### Nothing is told twice -/
theorem jkb (facts:List GA) (n:ByteArray) (size:Nat) (at_:Option (Nat × ByteArray)):(jam facts n size at_).Nodup:=List.Pairwise.filter _ List.nodup_range
theorem jve (facts:List GA) (p:GPat) (W:Words):(candP facts p W).Nodup:=by
 unfold candP;refine je6 (I:=fun b:List Nat=>List.Nodup b) (fun b x _ hb=>?_) (jkb _ _ _ _);unfold jb5;split
 · exact hb
 split
 · exact jkb _ _ _ _
 exact hb
def jbb (l:List GA) (a:GA):Nat:=(l.takeWhile fun x=>ltA x a).length
def isAt (l:List GA) (k:Nat) (a:GA):Bool:=match l[k]? with|some x=>decide (cmpA x a=0)|none=>false
def hasA (l:List GA) (a:GA):Bool:=isAt l (jbb l a) a
theorem joi : ∀ (l : List GA) (a:GA) (k:Nat),((l.take k).all fun x=>ltA x a)=true→k≤l.length→(∀ x,l[k]? = some x→ltA x a=false)→jbb l a=k
 | [], a, k, _, hk, _ => by have:k=0:=by simpa using hk
                            subst this;rfl
 | x :: l,a,0,_,_,hx=>by
   have:=hx x rfl;unfold jbb;rw[List.takeWhile_cons,if_neg (by simp[this])];rfl
 | x :: l,a,k+1,h,hk,hx=>by
   simp only[List.take_succ_cons,List.all_cons,Bool.and_eq_true] at h;have ih:=joi l a k h.2 (by simpa using hk) (fun y hy=>hx y (by simpa using hy));unfold jbb at ih ⊢;rw[List.takeWhile_cons,if_pos h.1,List.length_cons,ih]
theorem jky (v u:Value) (xs:List GA) (a:GA) (w:World) {S T:Nat→Prop} (hv:jac S w v xs) (hu:jae T w u a.args) :
  Calls Tryz.prog 127 #[v,.agg #[.string a.n,u]] w fun e w'=>e=.returned (.tuple #[.int .i64 (jbb xs a),.bool (hasA xs a)])∧Ext w w':=by
 obtain⟨A,c,rfl,hc1,hc2⟩:=jaa.form hv;obtain⟨B,d,rfl,hd1,hd2⟩:=jaa.form hu;have HV:=zh (hv.ext ((Ext.refl w).alloc (.cells #[.string a.n,.slice B a.args.length d] 43)));have HU:=zh (hu.ext ((Ext.refl w).alloc (.cells #[.string a.n,.slice B a.args.length d] 43)));clear hv hu
 go_enter Tryz.func127,Tryz.ntmps127;go_wp2;go_loopw [6] (fun i wr=>∃ k:Nat,k≤xs.length∧i=.int .i64 k∧Hid (((xs.take k).all fun x=>ltA x a)=true)∧Ext (w.alloc (.cells #[.string a.n,.slice B a.args.length d] 43)) wr) (fun i _=>xs.length-(intOf i).toNat)
 case atStart=>exact⟨0,Nat.zero_le _,rfl,rfl,Ext.refl _⟩
 case round =>
  obtain⟨k,hk,rfl,hp,hx⟩:=hrel;obtain⟨hcc,hcf⟩:=hx.cells;have hz1:=hx.size;simp only[World.size_alloc] at hz1;have hz2:w.heap.size<wr.heap.size:=by omega
  have hk0:(0:Int)≤(k:Int):=Int.natCast_nonneg _;by_cases hlt:k<xs.length
  · obtain ⟨b,off,x,v1,rfl,hb,hxk,hxs,ht,hc0,hc1⟩:=jac.at_ (HV.out.ext hx) hlt
    have hk1:(k:Int)<(xs.length:Int):=by omega
    have HK:=zh hxk;have HC:=zh (fun (W:World) (h:Ext wr W)=>jpy x a v1 _ W (ht.ext h) (HU.out.ext (hx.trans' h)));have hg:decide (k<xs.length)=true:=decide_eq_true hlt;clear hxk ht hz1;by_cases hcmp:cmpA x a<0
    · have HA:=zh (show ((xs.take (k+1)).all fun x=>ltA x a)=true from by rw[jbo _ _ k x HK.out,hp.out];unfold ltA;simp[hcmp])
      go_wp2_with fail
      refine jar (by kernel_rfl) (by kernel_rfl) ?_;repeat (go_big_quiet_step ((go_at_call 171;exact jbg (HC.out _ (Later.ext _)))))
      refine wpQuiet_nil ?_;rintro w1 ⟨⟨_,hx1⟩,rfl⟩;go_wp2;go_roundw
      case rel=>exact⟨k+1,by omega,by go_num,HA,hx.trans' hx1⟩
      case measure=>simp[intOf];omega
    have HA:=zh (joi xs a k hp.out hk (fun y hy=>by rw[HK.out] at hy;injection hy with hy;subst hy;unfold ltA;simp[hcmp]));have HI:=zh (show hasA xs a=decide (cmpA x a=0) from by unfold hasA;rw[HA.out];unfold isAt;rw[HK.out]);go_wp2_with fail
    refine jar (by kernel_rfl) (by kernel_rfl) ?_;repeat (go_big_quiet_step ((go_at_call 171;exact jbg (HC.out _ (Later.ext _)))))
    refine wpQuiet_nil ?_;rintro w1 ⟨⟨_,hx1⟩,rfl⟩;have HC1:=zh (fun (W:World) (h:Ext w1 W)=>HC.out W (hx1.trans' h));obtain⟨hcc1,hcf1⟩:=hx1.cells;have hz3:=hx1.size;have hz4:w.heap.size<w1.heap.size:=by omega
    have hb1:b<w1.heap.size:=by omega
    clear HC hz3;go_wp2_with fail
    refine jar (by kernel_rfl) (by kernel_rfl) ?_;repeat (go_big_quiet_step ((go_at_call 171;exact jbg (HC1.out _ (Later.ext _)))))
    refine wpQuiet_nil ?_;rintro w2 ⟨⟨_,hx2⟩,rfl⟩;go_wp2;go_ret2;exact⟨by rw[HA.out,HI.out];simp;rw[Bool.eq_iff_iff];simp,(((Ext.refl _).alloc _).trans' (hx.trans' hx1)).trans' hx2⟩
  have HA:=zh (joi xs a k hp.out hk (fun y hy=>by rw[List.getElem?_eq_none (by omega)] at hy;cases hy));have HI:=zh (show hasA xs a=false from by unfold hasA;rw[HA.out];unfold isAt;rw[List.getElem?_eq_none (by omega)]);have hg:decide (k<xs.length)=false:=decide_eq_false hlt;clear hz1;go_wp2_with fail
  refine jar (by kernel_rfl) (by kernel_rfl) ?_;repeat (go_big_quiet_step (fail))
  refine wpQuiet_nil ?_;rintro w1 ⟨⟨_,hx1⟩,rfl⟩;obtain⟨hcc1,hcf1⟩:=hx1.cells;go_wp2_with fail
  refine jar (by kernel_rfl) (by kernel_rfl) ?_;repeat (go_big_quiet_step (fail))
  refine wpQuiet_nil ?_;rintro w2 ⟨⟨_,hx2⟩,rfl⟩;go_wp2;go_ret2;exact⟨by rw[HA.out,HI.out];rfl,(((Ext.refl _).alloc _).trans' (hx.trans' hx1)).trans' hx2⟩
theorem jeb (v u:Value) (xs:List GA) (a:GA) (w:World) {S T:Nat→Prop} (hv:jac S w v xs) (hu:jae T w u a.args) :
  Calls Tryz.prog 101 #[v,.agg #[.string a.n,u]] w fun e w'=>e=.returned (.bool (hasA xs a))∧Ext w w':=by
 obtain⟨A,c,rfl,hc1,hc2⟩:=jaa.form hv;obtain⟨B,d,rfl,hd1,hd2⟩:=jaa.form hu;have HV:=zh (hv.ext ((Ext.refl w).alloc (.cells #[.string a.n,.slice B a.args.length d] 43)));have HU:=zh (hu.ext ((Ext.refl w).alloc (.cells #[.string a.n,.slice B a.args.length d] 43)));clear hv hu
 go_enter Tryz.func101,Tryz.ntmps101;go_wp2_with (go_at_call 127;refine (jky _ _ xs a _ HV.out HU.out).mono ?_;rintro e w1 ⟨rfl,hx1⟩)
 go_ret;exact⟨rfl,((Ext.refl _).alloc _).trans' hx1⟩
def jdo (l m:List GA):Bool:=l.any fun x=>hasA m x
def ja4 (c:GC):Bool:=jbe c.comes 300 && jbe c.goes 300 && !jdo c.comes c.goes
theorem jkv (g:GC) (v u:Value) (w:World) {S T:Nat→Prop} (hv:jac S w v g.comes) (hu:jac T w u g.goes) :
  Calls Tryz.prog 41 #[.agg #[v,u]] w fun e w'=>e=.returned (.bool (ja4 g))∧Ext w w':=by
 obtain⟨A,c,rfl,hc1,hc2⟩:=jaa.form hv;obtain⟨B,d,rfl,hd1,hd2⟩:=jaa.form hu;have HV:=zh (hv.ext ((Ext.refl w).alloc (.cells #[.slice A g.comes.length c,.slice B g.goes.length d] 68)));have HU:=zh (hu.ext ((Ext.refl w).alloc (.cells #[.slice A g.comes.length c,.slice B g.goes.length d] 68)));clear hv hu;have hw1:=jai (jd8 _ g.comes _ HV.out);cases h1:jbe g.comes 300
 · have HF:=zh (show ja4 g=false from by unfold ja4;rw[h1];rfl)
   have HW:=zh (hw1.2 h1);clear hw1 h1
   go_enter Tryz.func41,Tryz.ntmps41;go_wp2_with (go_at_call 100;refine HW.out.mono ?_;rintro e w1 ⟨rfl,hx1⟩)
   go_ret;exact⟨by rw[HF.out];rfl,((Ext.refl _).alloc _).trans' hx1⟩
 have HW:=zh (hw1.1 h1);clear hw1;have tok:True:=trivial;cases h2:jbe g.goes 300
 · have HF:=zh (show ja4 g=false from by unfold ja4;rw[h2];simp)
   have H2:=zh h2;clear h1 h2
   go_enter Tryz.func41,Tryz.ntmps41
   go_wp2_with (first
    | (go_at_call 100;have _t:=tok;refine HW.out.mono ?_;clear tok _t;rintro e w1 ⟨rfl,hx1⟩;obtain⟨hcc,hcf⟩:=hx1.cells)
    | (go_at_call 100;refine ((jai (jd8 _ g.goes _ (HU.out.ext hx1))).2 H2.out).mono ?_;rintro e w2 ⟨rfl,hx2⟩))
   go_ret;exact⟨by rw[HF.out];rfl,(((Ext.refl _).alloc _).trans' hx1).trans' hx2⟩
 have HF:=zh (show ja4 g = !jdo g.comes g.goes from by unfold ja4;rw[h1,h2];rfl);have H2:=zh h2;clear h1 h2
 go_enter Tryz.func41,Tryz.ntmps41
 go_wp2_with (first
  | (go_at_call 100;have _t:=tok;refine HW.out.mono ?_;clear tok _t;rintro e w1 ⟨rfl,hx1⟩;obtain⟨hcc,hcf⟩:=hx1.cells)
  | (go_at_call 100;refine ((jai (jd8 _ g.goes _ (HU.out.ext hx1))).1 H2.out).mono ?_;rintro e w2 ⟨rfl,hx2⟩))
 go_loopw [3] (fun i wr=>∃ k:Nat,k≤g.comes.length∧i=.int .i64 k∧Hid (((g.comes.take k).all fun x=> !hasA g.goes x)=true)∧Ext (w.alloc (.cells #[.slice A g.comes.length c,.slice B g.goes.length d] 68)) wr) (fun i _=>g.comes.length-(intOf i).toNat)
 case atStart=>exact⟨0,Nat.zero_le _,rfl,rfl,hx1.trans' hx2⟩
 case round =>
  obtain⟨k,hk,rfl,hp,hx⟩:=hrel;clear hcc hcf;obtain⟨hcc,hcf⟩:=hx.cells;have hz1:=hx.size;simp only[World.size_alloc] at hz1;have hz2:w.heap.size<wr.heap.size:=by omega
  have hk0:(0:Int)≤(k:Int):=Int.natCast_nonneg _;by_cases hlt:k<g.comes.length
  · obtain ⟨b,off,x,v1,rfl,hb,hxk,hxs,ht,hc0,hc1⟩:=jac.at_ (HV.out.ext hx) hlt
    have hk1:(k:Int)<(g.comes.length:Int):=by omega
    have HK:=zh hxk;have HT:=zh ht;clear hxk ht hz1;cases hh:hasA g.goes x
    · have HC:=zh (fun (W:World) (h:Ext wr W)=>(jai (jeb _ v1 g.goes x W (HU.out.ext (hx.trans' h)) (HT.out.ext h))).2 hh)
      have HP:=zh (show ((g.comes.take (k+1)).all fun x=> !hasA g.goes x)=true from by rw[jbo _ _ k x HK.out,hp.out,hh];rfl);clear hh;go_wp2_with fail
      refine jar (by kernel_rfl) (by kernel_rfl) ?_;repeat (go_big_quiet_step ((go_at_call 101;exact jbg (HC.out _ (Later.ext _)))))
      refine wpQuiet_nil ?_;rintro w3 ⟨⟨_,hx3⟩,rfl⟩;go_wp2;go_roundw
      case rel=>exact⟨k+1,by omega,by go_num,HP,hx.trans' hx3⟩
      case measure=>simp[intOf];omega
    have HC:=zh (fun (W:World) (h:Ext wr W)=>(jai (jeb _ v1 g.goes x W (HU.out.ext (hx.trans' h)) (HT.out.ext h))).1 hh);have HP:=zh (show jdo g.comes g.goes=true from by unfold jdo;rw[List.any_eq_true];exact⟨x,List.mem_of_getElem? HK.out,hh⟩);clear hh;go_wp2_with fail
    refine jar (by kernel_rfl) (by kernel_rfl) ?_;repeat (go_big_quiet_step ((go_at_call 101;exact jbg (HC.out _ (Later.ext _)))))
    refine wpQuiet_nil ?_;rintro w3 ⟨⟨_,hx3⟩,rfl⟩;go_wp2;go_ret;exact⟨by rw[HF.out,HP.out];rfl,((Ext.refl _).alloc _).trans' (hx.trans' hx3)⟩
  have HP:=zh (show jdo g.comes g.goes=false from by
    have h:=jbm (fun x=> !hasA g.goes x) _ k hlt hp.out;unfold jdo;rw[List.any_eq_false];intro x hx1;have:=List.all_eq_true.1 h x hx1;simpa using this)
  go_wp2;go_ret;exact⟨by rw[HF.out,HP.out];rfl,((Ext.refl _).alloc _).trans' hx⟩
structure Total {α:Type} (c:α→α→Int):Prop where
 eq:∀ a b,c a b=0↔a=b
 neg:∀ a b,c b a = - c a b
 trans:∀ a b d,c a b<0→c b d<0→c a d<0
def lexC {α:Type} (c:α→α→Int):List α→List α→Int
 | [],[]=>0
 | [],_ :: _=> -1
 | _ :: _,[]=>1
 | a :: x,b :: y=>if c a b=0 then lexC c x y else c a b
theorem j0k {α:Type} {c:α→α→Int} (h:Total c):∀ x y:List α,lexC c x y=0↔x=y
 | [],[]=>by simp[lexC]
 | [],_ :: _=>by simp[lexC]
 | _ :: _,[]=>by simp[lexC]
 | a :: x,b :: y=>by
   have ih:=j0k h x y;unfold lexC;by_cases hc:c a b=0
   · rw[if_pos hc,ih];have:=(h.eq a b).1 hc;subst this;simp
   rw[if_neg hc];have:a≠b:=fun e=>hc ((h.eq a b).2 e)
   simp[hc,this]
theorem jw8 {α:Type} {c:α→α→Int} (h:Total c):∀ x y:List α,lexC c y x = - lexC c x y
 | [],[]=>by simp[lexC]
 | [],_ :: _=>by simp[lexC]
 | _ :: _,[]=>by simp[lexC]
 | a :: x,b :: y=>by
   have ih:=jw8 h x y;unfold lexC;by_cases hc:c a b=0
   · rw[if_pos hc,if_pos (by rw[h.neg a b];omega),ih]
   rw[if_neg hc,if_neg (by rw[h.neg a b];omega),h.neg a b]
theorem jp7 {α:Type} {c:α→α→Int} (h:Total c):∀ x y z:List α,lexC c x y<0→lexC c y z<0→lexC c x z<0
 | [],[],z=>by simp[lexC]
 | [],_ :: _,[]=>by simp[lexC]
 | [],_ :: _,_ :: _=>by simp[lexC]
 | _ :: _,[],z=>by simp[lexC]
 | _ :: _,_ :: _,[]=>by simp[lexC]
 | a :: x,b :: y,d :: z=>by
   have ih:=jp7 h x y z;unfold lexC;intro h1 h2;by_cases e1:c a b=0
   · rw [if_pos e1] at h1
     have e1':=(h.eq a b).1 e1;subst e1';by_cases e2:c a d=0
     · rw[if_pos e2] at h2 ⊢;exact ih h1 h2
     rw[if_neg e2] at h2 ⊢;exact h2
   rw[if_neg e1] at h1;by_cases e2:c b d=0
   · have e2':=(h.eq b d).1 e2
     subst e2';rw[if_neg e1];exact h1
   rw[if_neg e2] at h2;have h3:=h.trans a b d h1 h2;rw[if_neg (by omega)];exact h3
theorem jh5 {α:Type} {c:α→α→Int} (h:Total c):Total (lexC c):=⟨j0k h,fun a b=>jw8 h a b,jp7 h⟩
def cByte (a b:UInt8):Int:=if a.toNat<b.toNat then -1 else if b.toNat<a.toNat then 1 else 0
theorem jsi:Total cByte where
 eq a b:=by
  unfold cByte;rw[← UInt8.toNat_inj];split
  · constructor<;>intro h<;>omega
  split
  · constructor<;>intro h<;>omega
  constructor<;>intro h<;>omega
 neg a b:=by
  unfold cByte;split<;>split<;>omega
 trans a b d:=by
  unfold cByte;intro h1 h2;split at h1
  · split at h2
    · rw[if_pos (by omega)];omega
    split at h2<;>omega
  split at h1<;>omega
theorem jzg (a b:UInt8):cByte a b=if a<b then -1 else if b<a then 1 else 0:=by
 unfold cByte;by_cases h1:a<b
 · rw[if_pos h1,if_pos (UInt8.lt_iff_toNat_lt.1 h1)]
 rw[if_neg h1,if_neg (fun h=>h1 (UInt8.lt_iff_toNat_lt.2 h))];by_cases h2:b<a
 · rw[if_pos h2,if_pos (UInt8.lt_iff_toNat_lt.1 h2)]
 rw[if_neg h2,if_neg (fun h=>h2 (UInt8.lt_iff_toNat_lt.2 h))]
theorem jfz:∀ x y:List UInt8,Lib.compareBytes x y=lexC cByte x y
 | [],[]=>rfl
 | [],_ :: _=>rfl
 | _ :: _,[]=>rfl
 | a :: x,b :: y=>by
   have ih:=jfz x y;simp only[Lib.compareBytes,lexC,jzg];by_cases h1:a<b
   · simp[h1]
   by_cases h2:b<a
   · simp[h1,h2]
   simp[h1,h2,ih]
theorem jca:Total (Lib.compareBytes):=by
 have:=jh5 jsi;rw[show Lib.compareBytes=lexC cByte from funext fun x=>funext fun y=>jfz x y];exact this
def jli (l:List GT):List (List UInt8):=l.map fun t=>t.n.data.toList
def keyA (a:GA):List (List UInt8):=a.n.data.toList :: jli a.args
theorem jlj:∀ x y:List GT,jev x y=lexC Lib.compareBytes (jli x) (jli y)
 | [],[]=>rfl
 | [],_ :: _=>rfl
 | _ :: _,[]=>rfl
 | s :: x,t :: y=>by
   have ih:=jlj x y;unfold jev;simp only[jli,List.map_cons,lexC] at ih ⊢;rw[ih];rfl
theorem jgp (a b:GA):cmpA a b=lexC Lib.compareBytes (keyA a) (keyA b):=by
 unfold cmpA keyA lexC;rw[jlj];rfl
theorem jlk (a b:GA):cmpA a b=0↔keyA a=keyA b:=by rw[jgp];exact (jh5 jca).eq _ _
theorem jfn (a b:GA):cmpA b a = - cmpA a b:=by rw[jgp,jgp];exact (jh5 jca).neg _ _
theorem jd5 {a b d:GA} (h1:cmpA a b<0) (h2:cmpA b d<0):cmpA a d<0:=by
 rw[jgp] at *;exact (jh5 jca).trans _ _ _ h1 h2
def Asc (l:List GA):Prop:=l.Pairwise fun a b=>cmpA a b<0
theorem j0l:∀ (l:List GA),ascB l=true→Asc l
 | [],_=>List.Pairwise.nil
 | [a],_=>List.pairwise_singleton _ _
 | a :: b :: l,h=>by
   simp only[ascB,Bool.and_eq_true] at h;have ih:=j0l (b :: l) h.2;have hab:cmpA a b<0:=of_decide_eq_true h.1;refine List.Pairwise.cons ?_ ih;intro z hz;rcases List.mem_cons.1 hz with rfl|hz
   · exact hab
   exact jd5 hab ((List.pairwise_cons.1 ih).1 z hz)
theorem jkc {y:GA} {m:List GA} {x:GA} (h:cmpA y x<0):hasA (y :: m) x=hasA m x:=by
 have hp:jbb (y :: m) x=jbb m x+1:=by
  unfold jbb;rw[List.takeWhile_cons,if_pos (show ltA y x=true from decide_eq_true h)];rfl
 unfold hasA;rw[hp];unfold isAt;rw[List.getElem?_cons_succ]
theorem jkd {y:GA} {m:List GA} {x:GA} (h:¬ cmpA y x<0):hasA (y :: m) x=decide (cmpA y x=0):=by
 have hp:jbb (y :: m) x=0:=by
  unfold jbb;rw[List.takeWhile_cons,if_neg (by unfold ltA;simp;omega)];rfl
 unfold hasA;rw[hp];rfl
theorem jh6:∀ (m:List GA) (x:GA),Asc m→(hasA m x=true↔∃ y∈m,cmpA y x=0)
 | [],x,_=>by simp[hasA,isAt]
 | y :: m,x,h=>by
   have h1:=List.pairwise_cons.1 h;have ih:=jh6 m x h1.2;by_cases hlt:cmpA y x<0
   · rw [jkc hlt,ih]
     constructor
     · rintro ⟨z,hz,e⟩;exact⟨z,List.mem_cons_of_mem _ hz,e⟩
     rintro ⟨z,hz,e⟩;rcases List.mem_cons.1 hz with rfl|hz
     · omega
     exact⟨z,hz,e⟩
   rw[jkd hlt]
   constructor
   · intro e;exact⟨y,by simp,of_decide_eq_true e⟩
   rintro ⟨z,hz,e⟩;rcases List.mem_cons.1 hz with rfl|hz
   · exact decide_eq_true e
   have hyz:=h1.1 z hz
   have hxz:cmpA y x<0:=by
    have e1:=(jlk z x).1 e;have:cmpA y x=cmpA y z:=by rw[jgp,jgp,e1]
    omega
   exact absurd hxz hlt
theorem jec:∀ (xs:List P2),jah xs []=xs.map fun x=>⟨x.1,x.2,0⟩
 | []=>rfl
 | x :: xs=>by rw[jg8,jec xs];rfl
theorem jd1:∀ (ys:List P2),jah [] ys=ys.map fun y=>⟨y.1,y.2,1⟩
 | []=>rfl
 | y :: ys=>by rw[jf6,jd1 ys];rfl
theorem ji4:∀ (n:Nat) (xs ys:List P2),xs.length+ys.length≤n→Asc (xs.map (·.1))→Asc (ys.map (·.1)) →
  (jc8 (jah xs ys)=true↔∀ x∈xs,∀ y∈ys,¬ cmpA x.1 y.1=0)
 | _,[],ys,_,_,_=>by
   rw[jd1];simp[jc8]
 | _,x :: xs,[],_,_,_=>by
   rw[jec];simp[jc8]
 | 0,_ :: _,_ :: _,h,_,_=>by simp at h
 | n + 1, x :: xs,y :: ys,h,hx,hy=>by
   have h1:=List.pairwise_cons.1 (show Asc (x.1 :: xs.map (·.1)) from hx);have h2:=List.pairwise_cons.1 (show Asc (y.1 :: ys.map (·.1)) from hy);have ltx:∀ z∈xs,cmpA x.1 z.1<0:=fun z hz=>h1.1 z.1 (List.mem_map_of_mem hz)
   have lty:∀ z∈ys,cmpA y.1 z.1<0:=fun z hz=>h2.1 z.1 (List.mem_map_of_mem hz)
   rcases Int.lt_trichotomy (cmpA x.1 y.1) 0 with hc|hc|hc
   · have ih:=ji4 n xs (y :: ys) (by simp at h ⊢;omega) h1.2 hy
     rw[jhy _ _ hc];have:jc8 (⟨x.1,x.2,0⟩ :: jah xs (y :: ys))=jc8 (jah xs (y :: ys)):=by simp[jc8]
     rw[this,ih]
     constructor
     · intro hh z hz w hw
       rcases List.mem_cons.1 hz with rfl|hz
       · rcases List.mem_cons.1 hw with rfl|hw
         · omega
         have:=jd5 hc (lty w hw);omega
       exact hh z hz w hw
     intro hh z hz w hw;exact hh z (List.mem_cons_of_mem _ hz) w hw
   · rw [jh0 _ _ hc]
     have:jc8 (⟨x.1,x.2,2⟩ :: jah xs ys)=false:=by simp[jc8]
     rw[this]
     constructor
     · intro hh;cases hh
     intro hh;exact absurd hc (hh x (by simp) y (by simp))
   have ih:=ji4 n (x :: xs) ys (by simp at h ⊢;omega) hx h2.2;rw[jhz _ _ hc];have:jc8 (⟨y.1,y.2,1⟩ :: jah (x :: xs) ys)=jc8 (jah (x :: xs) ys):=by simp[jc8]
   rw[this,ih];have hc':cmpA y.1 x.1<0:=by rw[jfn];omega
   constructor
   · intro hh z hz w hw
     rcases List.mem_cons.1 hw with rfl|hw
     · rcases List.mem_cons.1 hz with rfl|hz
       · omega
       have h3:=jd5 hc' (ltx z hz);rw[jfn] at h3;omega
     exact hh z hz w hw
   intro hh z hz w hw;exact hh z hz w (List.mem_cons_of_mem _ hw)
theorem joj {ps qs:List P2} (hx:Asc (ps.map (·.1))) (hy:Asc (qs.map (·.1))):(!jc8 (jah ps qs))=jdo (ps.map (·.1)) (qs.map (·.1)):=by
 have h:=ji4 _ ps qs (Nat.le_refl _) hx hy
 have hc:jdo (ps.map (·.1)) (qs.map (·.1))=true↔∃ x∈ps,∃ y∈qs,cmpA x.1 y.1=0:=by
  unfold jdo;rw[List.any_eq_true]
  constructor
  · rintro ⟨a,ha,hh⟩
    obtain⟨x,hx1,rfl⟩:=List.mem_map.1 ha;obtain⟨b,hb,e⟩:=(jh6 _ _ hy).1 hh;obtain⟨y,hy1,rfl⟩:=List.mem_map.1 hb;exact⟨x,hx1,y,hy1,by rw[jfn] at e;omega⟩
  rintro ⟨x,hx1,y,hy1,e⟩;exact⟨x.1,List.mem_map_of_mem hx1,(jh6 _ _ hy).2 ⟨y.1,List.mem_map_of_mem hy1,by rw[jfn];omega⟩⟩
 cases hn:jc8 (jah ps qs)
 · symm
   show jdo _ _=true;rw[hc];rw[hn] at h;apply Classical.byContradiction
   intro hne;have:false=true:=h.2 (fun x hx1 y hy1 e=>hne ⟨x,hx1,y,hy1,e⟩);cases this
 symm
 show jdo _ _=false;rw[Bool.eq_false_iff];intro ht;obtain⟨x,hx1,y,hy1,e⟩:=hc.1 ht;exact h.1 hn x hx1 y hy1 e
theorem jgq {l:List GA} {n:Nat} (h:jbe l n=true):Asc l:=by
 unfold jbe at h;simp only[Bool.and_eq_true] at h;exact j0l l h.1.2
end Go.Proofs.YthdojieomhighaaGreatDoor
