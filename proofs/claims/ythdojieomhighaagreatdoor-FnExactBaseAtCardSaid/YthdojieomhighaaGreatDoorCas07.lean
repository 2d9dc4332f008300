/- Own texts, joined. -/
import Derived.Test.YthdojieomhighaaGreatDoorCas06
import Derived.Test.YthdojieomhighaaGreatDoorCas01
import Derived.Test.YthdojieomhighaaGreatDoorCas05
import Derived.Test.YthdojieomhighaaGreatDoorCas04
import Derived.Lib.ItoaNum
set_option linter.unusedSimpArgs false
set_option linter.unusedVariables false
namespace Go.Proofs.YthdojieomhighaaGreatDoor
open Go.RowKit
structure LB where
 ns:List ByteArray
 vs:List ByteArray
def LB.get (b:LB) (x:ByteArray):Option ByteArray:=match idxB b.ns x with
 | some i=>b.vs[i]?
 | none=>none
def LB.plus (b:LB) (n v:ByteArray):LB:=⟨b.ns++[n],b.vs++[v]⟩
def jqf:ByteArray:=⟨#[]⟩
def jcw (t f:GT) (b:LB):LB × Bool :=
 if t.v then match b.get t.n with
  | none=>(b.plus t.n f.n,true)
  | some v=>(b,decide (v=f.n))
 else (b,decide (t.n=f.n))
def jcf:List GT→List GT→LB→LB × Bool
 | t :: ts,f :: fs,b=>if (jcw t f b).2 then jcf ts fs (jcw t f b).1 else ((jcw t f b).1,false)
 | _,_,b=>(b,true)
def jcy (a fact:GA) (b:LB):LB × Bool:=if a.n=fact.n∧a.args.length=fact.args.length then jcf a.args fact.args b else (b,false)
def fillT (b:LB) (t:GT):GT:=⟨false,if t.v then (b.get t.n).getD jqf else t.n⟩
def fillN (a:GA) (b:LB):GA:=⟨a.n,a.args.map (fillT b)⟩
def jbs (a:GA) (list:List GA) (b:LB):List LB:=list.filterMap fun f=>if (jcy a f b).2 then some (jcy a f b).1 else none
def jbi (list:List GA) (out:List LB) (p:GP):List LB:=if p.no then out else out.flatMap (jbs p.atom list)
def heldB (list:List GA) (body:List GP) (b:LB):Bool:=body.all fun p=> !p.no || !hasA list (fillN p.atom b)
def allN (list:List GA) (body:List GP):List LB:=(body.foldl (jbi list) [⟨[],[]⟩]).filter (heldB list body)
def jbk (levels:List Nat) (level:Nat) (list:List GA) (out:List GA) (x:GR × Nat):List GA :=
 if at0 levels x.2=level then (allN list x.1.body).foldl (fun o b=>putA o (fillN x.1.head b)) out else out
def onceN (rules:List GR) (levels:List Nat) (level:Nat) (list:List GA):List GA:=rules.zipIdx.foldl (jbk levels level list) []
structure RL where
 list:List GA
 round:List Nat
def RL.put (r:RL) (n:Nat) (a:GA):RL:=if hasA r.list a then r else ⟨putA r.list a,r.round.take (jbb r.list a)++[n]++r.round.drop (jbb r.list a)⟩
def RL.puts (r:RL) (n:Nat) (l:List GA):RL:=l.foldl (fun r a=>r.put n a) r
def jd3 (rules:List GR) (levels:List Nat) (level:Nat):Nat→RL→Nat→RL × Nat × Bool
 | 0,r,n=>(r,n,true)
 | f + 1,r,n =>
   let r2:=r.puts (n+1) (onceN rules levels level r.list)
   if 300<r2.list.length then (r2,n+1,false) else if r2.list.length=r.list.length then (r2,n,true) else jd3 rules levels level f r2 (n+1)
def runL (rules:List GR) (levels:List Nat):Nat→Nat→RL→Nat→RL × Bool
 | 0,_,r,_=>(r,true)
 | k + 1,level,r,n=>match jd3 rules levels level (302-r.list.length) r n with
   | (r2,n2,ok)=>if ok then runL rules levels k (level+1) r2 n2 else (r2,false)
def runN (rules:List GR) (given:List GA):RL × Bool:=runL rules (jaq rules) (rules.length+1) 0 ⟨given,List.replicate given.length 0⟩ 0
def fitB (rules:List GR) (list:List GA):Bool:=list.all fun a=>(jap rules).all fun b=> !(decide (b.n=a.n)) || decide (b.args.length=a.args.length)
noncomputable def jbx (rules:List GR) (given:List GA):Bool:=decide (jag rules=0) && jbe given 40 && fitB rules given
theorem RL.put_len (r:RL) (n:Nat) (a:GA):r.list.length≤(r.put n a).list.length∧(r.put n a).list.length≤r.list.length+1:=by
 unfold RL.put;split
 · exact⟨Nat.le_refl _,Nat.le_succ _⟩
 rename_i h;unfold putA;rw[if_neg h];have:=jgc r.list a;simp only[List.length_append,List.length_take,List.length_drop,List.length_cons,List.length_nil];omega
theorem RL.puts_len (n:Nat):∀ (l:List GA) (r:RL),r.list.length≤(r.puts n l).list.length∧(r.puts n l).list.length≤r.list.length+l.length
 | [],r=>⟨Nat.le_refl _,Nat.le_refl _⟩
 | a :: l,r=>by
   have h1:=r.put_len n a;have h2:=RL.puts_len n l (r.put n a);simp only[RL.puts,List.foldl_cons,List.length_cons] at *;omega
theorem RL.put_round {r:RL} {n:Nat} {a:GA} (h:r.round.length=r.list.length):(r.put n a).round.length=(r.put n a).list.length:=by
 unfold RL.put;split
 · exact h
 rename_i hh;unfold putA;rw[if_neg hh];simp only[List.length_append,List.length_take,List.length_drop,List.length_cons,List.length_nil,h]
theorem RL.puts_round (n:Nat):∀ (l:List GA) (r:RL),r.round.length=r.list.length→(r.puts n l).round.length=(r.puts n l).list.length
 | [],r,h=>h
 | a :: l,r,h=>RL.puts_round n l _ (RL.put_round h)
theorem jlq (rules:List GR) (levels:List Nat) (level:Nat):∀ (f g:Nat) (r:RL) (n:Nat),r.list.length≤301→302-r.list.length≤f→f≤g→jd3 rules levels level f r n=jd3 rules levels level g r n
 | 0,g,r,n,h1,h2,h3=>by omega
 | f+1,0,r,n,h1,h2,h3=>by omega
 | f + 1,g+1,r,n,h1,h2,h3=>by
   simp only[jd3];split
   · rfl
   split
   · rfl
   rename_i h4 h5;have h6:=RL.puts_len (n+1) (onceN rules levels level r.list) r;exact jlq rules levels level f g _ _ (by omega) (by omega) (by omega)
theorem jlr (rules:List GR) (levels:List Nat) (level:Nat) (r:RL) (n:Nat) (h:r.list.length≤300) :
  jd3 rules levels level (302-r.list.length) r n =
   (let r2:=r.puts (n+1) (onceN rules levels level r.list)
    if 300<r2.list.length then (r2,n+1,false) else if r2.list.length=r.list.length then (r2,n,true) else jd3 rules levels level (302-r2.list.length) r2 (n+1)):=by
 obtain⟨f,hf⟩:∃ f,302-r.list.length=f+1:=⟨301-r.list.length,by omega⟩
 rw[hf];simp only[jd3];split
 · rfl
 split
 · rfl
 rename_i h4 h5;have h6:=RL.puts_len (n+1) (onceN rules levels level r.list) r;exact (jlq rules levels level (302-(r.puts (n+1) (onceN rules levels level r.list)).list.length) f (r.puts (n+1) (onceN rules levels level r.list)) (n+1) (by omega) (Nat.le_refl _) (by omega)).symm
theorem je8 {α β:Type} (f:β→α→β) (o:β) (l:List α) (k:Nat) (x:α) (h:l[k]? = some x):(l.take (k+1)).foldl f o=f ((l.take k).foldl f o) x:=by
 obtain⟨hk,rfl⟩:=List.getElem?_eq_some_iff.1 h;rw[List.take_succ_eq_append_getElem hk,List.foldl_append];rfl
theorem jvm (a:GA) (list:List GA) (b:LB):(jbs a list b).length≤list.length:=List.length_filterMap_le _ _
theorem juc {α β:Type} (f:α→List β) (n:Nat):∀ (l:List α),(∀ x∈l,(f x).length≤n)→(l.flatMap f).length≤l.length*n
 | [],_=>by simp
 | x :: l,h=>by
   have h1:=h x (by simp);have h2:=juc f n l (fun x hx=>h x (List.mem_cons_of_mem _ hx));rw[List.flatMap_cons,List.length_append,List.length_cons,Nat.add_mul,Nat.one_mul];omega
theorem jsm (list:List GA) (out:List LB) (p:GP):(jbi list out p).length≤out.length*(list.length+1):=by
 unfold jbi;split
 · exact Nat.le_mul_of_pos_right _ (Nat.succ_pos _)
 refine Nat.le_trans (juc _ list.length out fun b _=>jvm _ _ _) (Nat.mul_le_mul_left _ (Nat.le_succ _))
theorem jhf (list:List GA):∀ (body:List GP) (out:List LB),(body.foldl (jbi list) out).length≤out.length*(list.length+1) ^ body.length
 | [],out=>by simp
 | p :: body,out=>by
   have h1:=jsm list out p;have h2:=jhf list body (jbi list out p);rw[List.foldl_cons,List.length_cons,Nat.pow_succ];refine Nat.le_trans h2 ?_;rw[Nat.mul_comm ((list.length+1) ^ body.length),← Nat.mul_assoc];exact Nat.mul_le_mul_right _ h1
def strOf (l:List UInt8):ByteArray:=⟨l.toArray⟩
theorem jdq (l:List UInt8):(strOf l).size=l.length:=by simp[strOf,ByteArray.size]
def jcx:List GT→List UInt8
 | []=>[]
 | [t]=>t.n.data.toList
 | t :: u :: l=>t.n.data.toList++[44]++jcx (u :: l)
def atomL (a:GA):List UInt8:=a.n.data.toList++[40]++jcx a.args++[41]
theorem jls:∀ (l:List GT) (t:GT),jcx (l++[t])=(if l=[] then [] else jcx l++[44])++t.n.data.toList
 | [],t=>rfl
 | [u],t=>by simp[jcx]
 | u :: v :: l,t=>by
   have ih:=jls (v :: l) t;simp only[List.cons_append] at ih ⊢;simp only[jcx,ih];simp
theorem jsn {l:List GT} {k:Nat} {t:GT} (h:l[k]? = some t):jcx (l.take (k+1))=(if k=0 then [] else jcx (l.take k)++[44])++t.n.data.toList:=by
 obtain⟨hk,rfl⟩:=List.getElem?_eq_some_iff.1 h;rw[List.take_succ_eq_append_getElem hk,jls]
 congr 1
 by_cases h0:k=0
 · subst h0;rfl
 rw[if_neg h0,if_neg];rw[List.take_eq_nil_iff];rintro (e|e)
 · exact h0 e
 subst e;simp at hk
theorem ji9:∀ (l:List GT),(jcx l).length≤jbt l
 | []=>Nat.zero_le _
 | [t]=>by simp[jcx,jbt,wTerm]
 | t :: u :: l=>by
   have ih:=ji9 (u :: l);simp only[jcx,jbt,wTerm,List.length_append,List.length_cons,List.map_cons,List.sum_cons,List.length_nil] at ih ⊢;have:t.n.data.toList.length=t.n.size:=by simp
   omega
theorem jso (l:List GT) (k:Nat):jbt (l.take k)≤jbt l:=by
 unfold jbt;have h:(l.map wTerm).sum=((l.take k++l.drop k).map wTerm).sum:=by rw[List.take_append_drop]
 rw[h,List.map_append,List.sum_append,List.length_take];omega
theorem jlt (a:GA):(atomL a).length≤wAtom a+2:=by
 have:=ji9 a.args;have h:a.n.data.toList.length=a.n.size:=by simp
 unfold atomL wAtom;simp only[List.length_append,List.length_cons,List.length_nil];omega
def je9 (c:UInt8):List UInt8→List (List UInt8)
 | []=>[[]]
 | x :: l=>if x=c then [] :: je9 c l else match je9 c l with | []=>[[x]]|p :: ps=>(x :: p) :: ps
theorem jhg {c:UInt8}:∀ {l:List UInt8},c ∉ l→je9 c l=[l]
 | [],_=>rfl
 | x :: l,h=>by
   have h1:x≠c:=fun e=>h (by simp[e])
   have h2:c ∉ l:=fun e=>h (List.mem_cons_of_mem _ e)
   unfold je9;rw[if_neg h1,jhg h2]
theorem jja {c:UInt8}:∀ {p l:List UInt8},c ∉ p→je9 c (p++c :: l)=p :: je9 c l
 | [],l,_=>by simp[je9]
 | x :: p,l,h=>by
   have h1:x≠c:=fun e=>h (by simp[e])
   have h2:c ∉ p:=fun e=>h (List.mem_cons_of_mem _ e)
   have ih:=jja (l:=l) h2;show (if x=c then [] :: je9 c (p++c :: l) else match je9 c (p++c :: l) with | []=>[[x]]|p :: ps=>(x :: p) :: ps)=_;rw[if_neg h1,ih]
def jkf (c:UInt8):Bool:=jj2 c || upper c
theorem jic {c:UInt8} (h:jkf c=true) (d:UInt8) (hd:jkf d=false):c≠d:=fun e=>by rw[e,hd] at h;cases h
theorem jud {l:List UInt8} (h:jc3 l=true):∀ c∈l,jkf c=true:=fun c hc=>by
 have:=List.all_eq_true.1 h c hc;unfold jkf;rw[this];rfl
theorem jxb {s:ByteArray} (h:jay s=true):∀ c∈s.data.toList,jkf c=true:=by
 unfold jay jbu at h;simp only[Bool.and_eq_true] at h;exact jud h.1.1
theorem jgs {s:ByteArray} (h:jay s=true):1≤s.size∧s.size≤8:=by
 unfold jay jbu at h;simp only[Bool.and_eq_true] at h;have:=of_decide_eq_true h.1.2;omega
theorem joo {t:GT} (h:ja1 t=true):∀ c∈t.n.data.toList,jkf c=true:=by
 unfold ja1 at h;split at h
 · unfold jch at h
   simp only[Bool.and_eq_true] at h;intro c hc;unfold capB at h
   cases hl:t.n.data.toList with
   | nil=>rw[hl] at hc;cases hc
   | cons x l =>
     rw[hl] at h hc;rcases List.mem_cons.1 hc with rfl|hc
     · have hu:upper c=true:=h.1.1
       unfold jkf;rw[hu,Bool.or_true]
     exact jud h.2 c (by simpa using hc)
 exact jxb h
theorem jzi {t:GT} (h:ja1 t=true):t.n.data.toList≠ []:=by
 unfold ja1 at h;split at h
 · unfold jch capB at h
   simp only[Bool.and_eq_true] at h;intro e;rw[e] at h;exact absurd h.1.1 (by simp)
 intro e;have:=jgs h;have hl:t.n.data.toList.length=t.n.size:=by simp
 rw[e] at hl;simp at hl;omega
theorem jue {t:GT} (h:ja1 t=true):t.v=capB t.n:=by
 unfold ja1 at h;split at h
 · rename_i hv
   unfold jch at h;simp only[Bool.and_eq_true] at h;rw[hv,h.1.1]
 rename_i hv;have hv':t.v=false:=by simpa using hv
 rw[hv'];unfold jay jbu at h;simp only[Bool.and_eq_true] at h;unfold capB
 cases hl:t.n.data.toList with
 | nil=>rfl
 | cons x l =>
   rw[hl] at h;have h1:jj2 x=true:=List.all_eq_true.1 h.1.1 x (by simp);have h2:=jiy h1;show false=upper x;unfold upper;rw[decide_eq_false (by omega)]
theorem jqg:∀ {l:List GT},(∀ t∈l,ja1 t=true)→∀ c∈jcx l,jkf c=true∨c=44
 | [],_,c,hc=>by simp[jcx] at hc
 | [t],h,c,hc=>.inl (joo (h t (by simp)) c hc)
 | t :: u :: l,h,c,hc=>by
   unfold jcx at hc;simp only[List.mem_append,List.mem_singleton] at hc;rcases hc with (hc|hc)|hc
   · exact .inl (joo (h t (by simp)) c hc)
   · exact .inr hc
   exact jqg (l:=u :: l) (fun t ht=>h t (List.mem_cons_of_mem _ ht)) c hc
theorem jgd:∀ {l:List GT},(∀ t∈l,ja1 t=true)→l≠ []→je9 44 (jcx l)=l.map fun t=>t.n.data.toList
 | [],_,h=>absurd rfl h
 | [t],h,_=>jhg (fun hc=>jic (joo (h t (by simp)) 44 hc) 44 rfl rfl)
 | t :: u :: l,h,_=>by
   have ih:=jgd (l:=u :: l) (fun t ht=>h t (List.mem_cons_of_mem _ ht)) (by simp);show je9 44 (t.n.data.toList++[44]++jcx (u :: l))=_;rw[List.append_assoc,List.singleton_append,jja (fun hc=>jic (joo (h t (by simp)) 44 hc) 44 rfl rfl),ih]
   rfl
theorem jnh {l:List GT} (h:∀ t∈l,ja1 t=true) (hl:l≠ []):jcx l≠ []:=by
 match l,hl with
 | [t],_=>exact jzi (h t (by simp))
 | t :: u :: l,_=>simp[jcx]
theorem jcj {a:GA} (h:jat a=true):jay a.n=true∧a.args.length≤3∧∀ t∈a.args,ja1 t=true:=by
 unfold jat at h;simp only[Bool.and_eq_true,decide_eq_true_eq] at h;exact⟨h.1.1,h.1.2,List.all_eq_true.1 h.2⟩
theorem jni {a:GA} (h:jat a=true):je9 40 (atomL a)=[a.n.data.toList,jcx a.args++[41]]:=by
 obtain⟨h1,h2,h3⟩:=jcj h;unfold atomL;rw[List.append_assoc,List.append_assoc,List.singleton_append,jja (fun hc=>jic (jxb h1 40 hc) 40 rfl rfl),jhg];intro hc;rcases List.mem_append.1 hc with hc|hc
 · rcases jqg h3 40 hc with hc|hc
   · exact jic hc 40 rfl rfl
   cases hc
 simp at hc
theorem jge {a b:ByteArray} (h:a.data.toList=b.data.toList):a=b:=by
 apply ByteArray.ext
 exact Array.toList_inj.1 h
theorem jqh:∀ {l m:List GT},(∀ t∈l,ja1 t=true)→(∀ t∈m,ja1 t=true)→(l.map fun t=>t.n.data.toList)=(m.map fun t=>t.n.data.toList)→l=m
 | [],[],_,_,_=>rfl
 | [],_ :: _,_,_,h=>by simp at h
 | _ :: _,[],_,_,h=>by simp at h
 | t :: l,u :: m,hl,hm,h=>by
   simp only[List.map_cons,List.cons.injEq] at h;have hn:=jge h.1;have hv:t.v=u.v:=by rw[jue (hl t (by simp)),jue (hm u (by simp)),hn]
   have:t=u:=by cases t;cases u;simp_all
   rw[this,jqh (fun t ht=>hl t (List.mem_cons_of_mem _ ht)) (fun t ht=>hm t (List.mem_cons_of_mem _ ht)) h.2]
theorem jxc {l m:List GT} (hl:∀ t∈l,ja1 t=true) (hm:∀ t∈m,ja1 t=true) (h:jcx l=jcx m):l=m:=by
 by_cases h1:l=[]
 · subst h1
   by_cases h2:m=[]
   · exact h2.symm
   exact absurd h.symm (jnh hm h2)
 by_cases h2:m=[]
 · subst h2;exact absurd h (jnh hl h1)
 exact jqh hl hm (by rw[← jgd hl h1,← jgd hm h2,h])
theorem juf {a b:GA} (ha:jat a=true) (hb:jat b=true) (h:atomL a=atomL b):a=b:=by
 have h1:=jni ha;have h2:=jni hb;rw[h,h2] at h1;simp only[List.cons.injEq,and_true] at h1;have e1:=jge h1.1;have e2:=jxc (jcj hb).2.2 (jcj ha).2.2 (List.append_cancel_right h1.2);cases a;cases b;simp_all
theorem jid {a:GA} (h:factB a=true):jat a=true:=by
 unfold factB at h;simp only[Bool.and_eq_true] at h;exact h.1
/-! ### The reference's bindings -/
def LB.ok (b:LB):Prop:=b.ns.length=b.vs.length
theorem jzj {b:LB} (h:b.ok) {x:ByteArray}:b.get x=none↔idxB b.ns x=none:=by
 unfold LB.get
 cases hi:idxB b.ns x with
 | none=>simp
 | some i =>
   have:i<b.vs.length:=by rw[← h];exact jc6 hi
   simp[List.getElem?_eq_getElem this]
theorem jop {b:LB} (h:b.ok) (n v x:ByteArray):(b.plus n v).get x=match b.get x with|some u=>some u|none=>if n=x then some v else none:=by
 cases hg:b.get x with
 | none =>
   have hi:=(jzj h).1 hg;unfold LB.get LB.plus;simp only[jia,hi];by_cases e:n=x
   · simp only [if_pos e]
     rw[h];simp
   · simp only[if_neg e]
 | some u =>
   unfold LB.get at hg
   cases hi:idxB b.ns x with
   | none=>rw[hi] at hg;cases hg
   | some i =>
     rw[hi] at hg;unfold LB.get LB.plus;simp only[jia,hi];have hlt:i<b.vs.length:=by rw[← h];exact jc6 hi
     rw[List.getElem?_append_left hlt];exact hg
theorem jxd {b:LB} (h:b.ok) (n v:ByteArray):(b.plus n v).ok:=by
 unfold LB.ok LB.plus at *;simp[h]
def LB.more (b c:LB):Prop:=∀ x u,b.get x=some u→c.get x=some u
theorem jie (b:LB):b.more b:=fun _ _ h=>h
theorem jnj {a b c:LB} (h:a.more b) (k:b.more c):a.more c:=fun x u hx=>k x u (h x u hx)
def valB (b:LB) (t:GT):Option ByteArray:=if t.v then b.get t.n else some t.n
theorem jqi {b c:LB} (h:b.more c) {t:GT} {u:ByteArray} (ht:valB b t=some u):valB c t=some u:=by
 unfold valB at *;split at ht
 · rename_i e;rw[if_pos e];exact h _ _ ht
 rename_i e;rw[if_neg e];exact ht
theorem jlu {t f:GT} {b:LB} (hb:b.ok) (h:(jcw t f b).2=true):(jcw t f b).1.ok∧b.more (jcw t f b).1∧valB (jcw t f b).1 t=some f.n:=by
 unfold jcw at h ⊢;by_cases hv:t.v=true
 · simp only [if_pos hv] at h ⊢
   cases hg:b.get t.n with
   | none =>
     simp only;refine⟨jxd hb _ _,fun x u hx=>?_,?_⟩
     · rw[jop hb,hx]
     · unfold valB;rw[if_pos hv,jop hb,hg];simp
   | some v =>
     rw[hg] at h;simp only[decide_eq_true_eq] at h;simp only;exact⟨hb,jie _,by unfold valB;rw[if_pos hv,hg,h]⟩
 simp only[if_neg hv,decide_eq_true_eq] at h ⊢;exact⟨hb,jie _,by unfold valB;rw[if_neg hv,h]⟩
theorem jlv:∀ {ts fs:List GT} {b:LB},b.ok→ts.length=fs.length→(jcf ts fs b).2=true→(jcf ts fs b).1.ok∧b.more (jcf ts fs b).1∧ts.map (valB (jcf ts fs b).1)=fs.map (fun f=>some f.n)
 | [],[],b,hb,_,_=>⟨hb,jie _,rfl⟩
 | [],_ :: _,_,_,hl,_=>by simp at hl
 | _ :: _,[],_,_,hl,_=>by simp at hl
 | t :: ts,f :: fs,b,hb,hl,h=>by
   simp only[jcf] at h ⊢;split at h
   · rename_i ht
     rw[if_pos ht];obtain⟨h1,h2,h3⟩:=jlu hb ht;obtain⟨k1,k2,k3⟩:=jlv h1 (by simpa using hl) h;refine⟨k1,jnj h2 k2,?_⟩;rw[List.map_cons,List.map_cons,k3,jqi k2 h3]
   cases h
def LB.under (b:LB) (σ:ByteArray→ByteArray):Prop:=∀ x u,b.get x=some u→u=σ x
def valS (σ:ByteArray→ByteArray) (t:GT):ByteArray:=if t.v then σ t.n else t.n
theorem jkg {σ:ByteArray→ByteArray}:∀ {ts fs:List GT} {b:LB},b.ok→b.under σ→ts.map (valS σ)=fs.map (·.n)→(jcf ts fs b).2=true∧(jcf ts fs b).1.under σ
 | [],[],b,hb,hu,_=>⟨rfl,hu⟩
 | [],_ :: _,_,_,_,hm=>by simp at hm
 | _ :: _,[],_,_,_,hm=>by simp at hm
 | t :: ts, f :: fs,b,hb,hu,hm=>by
   rw[List.map_cons,List.map_cons] at hm;injection hm with hm1 hm2
   have key : (jcw t f b).2=true∧(jcw t f b).1.under σ:=by
    unfold jcw;unfold valS at hm1;by_cases hv:t.v=true
    · rw [if_pos hv] at hm1
      simp only[if_pos hv]
      cases hg:b.get t.n with
      | none =>
        refine⟨rfl,fun x u hx=>?_⟩;simp only at hx;rw[jop hb] at hx
        cases hg2:b.get x with
        | some y=>rw[hg2] at hx;injection hx with hx;rw[← hx];exact hu x y hg2
        | none =>
          rw[hg2] at hx;simp only at hx;split at hx
          · rename_i e;injection hx with hx;rw[← hx,← e];exact hm1.symm
          · cases hx
      | some v =>
        simp only[decide_eq_true_eq];exact⟨(hu _ _ hg).trans hm1,hu⟩
    rw[if_neg hv] at hm1;simp only[if_neg hv,decide_eq_true_eq];exact⟨hm1,hu⟩
   have hok:(jcw t f b).1.ok:=(jlu hb key.1).1;simp only[jcf,if_pos key.1];exact jkg hok key.2 hm2
def jug (list:List GA) (a:GA) (b:LB):Prop:=∃ f∈list,f.n=a.n∧a.args.map (valB b)=f.args.map (fun f=>some f.n)
def jfa (list:List GA) (a:GA) (σ:ByteArray→ByteArray):Prop:=∃ f∈list,f.n=a.n∧f.args.map (·.n)=a.args.map (valS σ)
theorem jsp {list:List GA} {a:GA} {b c:LB} (h:jug list a b) (k:b.more c):jug list a c:=by
 obtain⟨f,h1,h2,h3⟩:=h;refine⟨f,h1,h2,?_⟩;rw[← h3];refine List.map_congr_left fun t ht=>?_
 have:valB b t∈f.args.map (fun f=>some f.n):=by rw[← h3];exact List.mem_map_of_mem ht
 obtain⟨g,_,hg⟩:=List.mem_map.1 this;rw[← hg];exact jqi k hg.symm
theorem joq {a:GA} {list:List GA} {b c:LB} (hb:b.ok) (h:c∈jbs a list b):c.ok∧b.more c∧jug list a c:=by
 unfold jbs at h;obtain⟨f,hf,h⟩:=List.mem_filterMap.1 h;split at h
 · rename_i hm
   injection h with h
   subst h;unfold jcy at hm ⊢;split at hm
   · rename_i hc
     rw[if_pos hc];obtain⟨h1,h2,h3⟩:=jlv hb hc.2 hm;exact⟨h1,h2,f,hf,hc.1.symm,h3⟩
   cases hm
 cases h
theorem jgt {list:List GA}:∀ {body:List GP} {out:List LB} {b:LB},(∀ c∈out,c.ok)→b∈body.foldl (jbi list) out→b.ok∧(∃ c∈out,c.more b)∧∀ p∈body,p.no=false→jug list p.atom b
 | [],out,b,ho,h=>⟨ho b h,⟨b,h,jie b⟩,fun p hp=>by cases hp⟩
 | p :: body,out,b,ho,h=>by
   rw[List.foldl_cons] at h;by_cases hno:p.no=true
   · have he:jbi list out p=out:=by unfold jbi;rw[if_pos hno]
     rw[he] at h;obtain⟨h1,h2,h3⟩:=jgt ho h;refine⟨h1,h2,fun q hq hn=>?_⟩;rcases List.mem_cons.1 hq with rfl|hq
     · rw[hno] at hn;cases hn
     exact h3 q hq hn
   have he:jbi list out p=out.flatMap (jbs p.atom list):=by unfold jbi;rw[if_neg hno]
   rw[he] at h
   have ho2:∀ c∈out.flatMap (jbs p.atom list),c.ok:=fun c hc=>by
    obtain⟨d,hd,hc⟩:=List.mem_flatMap.1 hc;exact (joq (ho d hd) hc).1
   obtain⟨h1,⟨c,hc,hcb⟩,h3⟩:=jgt ho2 h;obtain⟨d,hd,hc⟩:=List.mem_flatMap.1 hc;obtain⟨g1,g2,g3⟩:=joq (ho d hd) hc;refine⟨h1,⟨d,hd,jnj g2 hcb⟩,fun q hq hn=>?_⟩;rcases List.mem_cons.1 hq with rfl|hq
   · exact jsp g3 hcb
   exact h3 q hq hn
theorem jjb {list:List GA} {σ:ByteArray→ByteArray}:∀ {body:List GP} {out:List LB} {c:LB},(∀ c∈out,c.ok)→c∈out→c.under σ→(∀ p∈body,p.no=false→jfa list p.atom σ)→∃ b∈body.foldl (jbi list) out,b.under σ
 | [],out,c,_,hc,hu,_=>⟨c,hc,hu⟩
 | p :: body,out,c,ho,hc,hu,hh=>by
   rw[List.foldl_cons];by_cases hno:p.no=true
   · have he:jbi list out p=out:=by unfold jbi;rw[if_pos hno]
     rw[he];exact jjb ho hc hu (fun q hq=>hh q (List.mem_cons_of_mem _ hq))
   have he:jbi list out p=out.flatMap (jbs p.atom list):=by unfold jbi;rw[if_neg hno]
   rw[he];obtain⟨f,hf,hn,hm⟩:=hh p (by simp) (by simpa using hno)
   have hlen:p.atom.args.length=f.args.length:=by
    have:=congrArg List.length hm;simpa using this.symm
   obtain⟨k1,k2⟩:=jkg (ho c hc) hu hm.symm
   have hmem:(jcf p.atom.args f.args c).1∈out.flatMap (jbs p.atom list):=by
    refine List.mem_flatMap.2 ⟨c,hc,?_⟩;unfold jbs;refine List.mem_filterMap.2 ⟨f,hf,?_⟩;have e:jcy p.atom f c=jcf p.atom.args f.args c:=by unfold jcy;rw[if_pos ⟨hn.symm,hlen⟩]
    rw[e,if_pos k1]
   have ho2:∀ c∈out.flatMap (jbs p.atom list),c.ok:=fun c hc=>by
    obtain⟨d,hd,hc⟩:=List.mem_flatMap.1 hc;exact (joq (ho d hd) hc).1
   exact jjb ho2 hmem k2 (fun q hq=>hh q (List.mem_cons_of_mem _ hq))
/-! ### Rows -/
def sig (b:LB) (x:ByteArray):ByteArray:=(b.get x).getD jqf
def ja0 (vs:List ByteArray) (t:GT):GS:=if t.v then ⟨some ((idxB vs t.n).getD 0),jcq⟩ else ⟨none,t.n⟩
def patOf (vs:List ByteArray) (a:GA):GPat:=⟨a.n,a.args.map (ja0 vs)⟩
def jcc (vs:List ByteArray) (body:List GP):List GPat:=(body.filter fun p=> !p.no).map fun p=>patOf vs p.atom
def jcg (vs:List ByteArray) (body:List GP):List GPat:=(body.filter fun p=>p.no).map fun p=>patOf vs p.atom
def seOf (list:List GA) (rounds:List Nat) (vs:List ByteArray) (body:List GP) (wanted:List Bool):SE:=⟨list,rounds,jcc vs body,jcg vs body,wanted,false,0⟩
def sigW (vs:List ByteArray) (V:Words) (x:ByteArray):ByteArray:=V.at_ ((idxB vs x).getD 0)
theorem jlw (vs:List ByteArray) (V:Words) (t:GT):jau V (ja0 vs t)=valS (sigW vs V) t:=by
 unfold ja0 valS;split<;>rfl
theorem jif {facts:List GA} {vs:List ByteArray} {a:GA} {V:Words}:Holds facts (patOf vs a) V↔jfa facts a (sigW vs V):=by
 have e:(patOf vs a).slots.map (jau V)=a.args.map (valS (sigW vs V)):=by
  unfold patOf;rw[List.map_map];exact List.map_congr_left fun t _=>jlw vs V t
 unfold Holds jfa;rw[e];exact Iff.rfl
theorem jqj {a b:GA}:keyA a=keyA b↔sameA a b=true:=by
 rw[jgo];unfold keyA jli
 constructor
 · intro h
   injection h with h1 h2
   refine⟨jge h1,?_⟩;have e:∀ l:List GT,l.map (fun t=>t.n.data.toList)=(l.map (·.n)).map (fun s=>s.data.toList):=fun l=>by rw[List.map_map];rfl
   rw[e,e] at h2;refine List.map_inj_right (f:=fun s:ByteArray=>s.data.toList) (fun x y h=>jge h) |>.1 h2
 rintro ⟨h1,h2⟩;have e:∀ l:List GT,l.map (fun t=>t.n.data.toList)=(l.map (·.n)).map (fun s=>s.data.toList):=fun l=>by rw[List.map_map];rfl
 rw[h1,e,e,h2]
theorem jqk {list:List GA} (ha:Asc list) {x:GA}:hasA list x=true↔∃ y∈list,sameA y x=true:=by
 rw[jh6 list x ha]
 constructor
 · rintro ⟨y,h1,h2⟩;exact⟨y,h1,jqj.1 ((jlk y x).1 h2)⟩
 rintro ⟨y,h1,h2⟩;exact⟨y,h1,(jlk y x).2 (jqj.2 h2)⟩
theorem jnk {list:List GA} (ha:Asc list) {a:GA} {b:LB} {σ:ByteArray→ByteArray} (hs:∀ t∈a.args,t.v=true→sig b t.n=σ t.n):hasA list (fillN a b)=true↔jfa list a σ:=by
 rw[jqk ha]
 have e:(fillN a b).args.map (·.n)=a.args.map (valS σ):=by
  unfold fillN;rw[List.map_map];refine List.map_congr_left fun t ht=>?_
  show (fillT b t).n=valS σ t;unfold fillT valS;by_cases hv:t.v=true
  · simp only[if_pos hv];exact hs t ht hv
  simp only[if_neg hv]
 constructor
 · rintro ⟨y,h1,h2⟩
   obtain⟨h3,h4⟩:=jgo.1 h2;exact⟨y,h1,h3,h4.trans e⟩
 rintro ⟨y,h1,h3,h4⟩;exact⟨y,h1,jgo.2 ⟨h3,h4.trans e.symm⟩⟩
structure jhh (body:List GP) (vs:List ByteArray):Prop where
 nodup:vs.Nodup
 few:vs.length≤12
 mem:∀ p∈body,∀ t∈p.atom.args,t.v=true→t.n∈vs
 tight:∀ x∈vs,∃ p∈body,p.no=false∧∃ t∈p.atom.args,t.v=true∧t.n=x
 word:∀ p∈body,∀ t∈p.atom.args,t.v=false→isNo t.n=false
theorem jlx:∀ {vs:List ByteArray} {i:Nat} {x:ByteArray},vs.Nodup→vs[i]? = some x→idxB vs x=some i
 | y :: l,0,x,_,h=>by
   have:y=x:=by simpa using h
   unfold idxB;rw[if_pos this]
 | y :: l,i+1,x,hn,h=>by
   obtain⟨h1,h2⟩:=List.nodup_cons.1 hn;have hx:l[i]? = some x:=by simpa using h
   have hne:¬ y=x:=fun e=>h1 (e▸List.mem_of_getElem? hx)
   unfold idxB;rw[if_neg hne,jlx h2 hx];rfl
def jor (n:Nat):List Bool:=(List.range 12).map fun i=>decide (i<n)
theorem jos {n v:Nat} (h:n≤12):(jor n)[v]? = some true↔v<n:=by
 unfold jor;rw[List.getElem?_map];by_cases hv:v<12
 · rw[List.getElem?_range hv];simp
 rw[List.getElem?_eq_none (by simp;omega)];simp;omega
theorem se_ok {list:List GA} {rounds:List Nat} {body:List GP} {vs:List ByteArray} (hb:jhh body vs) (hf:∀ a∈list,jlg a):(seOf list rounds vs body (jor vs.length)).Ok 12:=by
 have hslot:∀ p∈body,∀ t∈p.atom.args,jb3 12 (ja0 vs t):=fun p hp t ht=>by
  unfold jb3 ja0;by_cases hv:t.v=true
  · rw [if_pos hv]
    simp only;obtain⟨i,hi⟩:=jcp (hb.mem p hp t ht hv);rw[hi];exact Nat.lt_of_lt_of_le (jc6 hi) hb.few
  rw[if_neg hv];simp only;exact hb.word p hp t ht (by simpa using hv)
 refine⟨?_,hf,rfl,by simp[seOf,jor],?_,?_⟩
 · intro p hp s hs
   obtain⟨q,hq,rfl⟩:=List.mem_map.1 (show p∈jcc vs body from hp);obtain⟨t,ht,rfl⟩:=List.mem_map.1 (show s∈q.atom.args.map (ja0 vs) from hs);exact hslot q (List.mem_filter.1 hq).1 t ht
 · intro v hv
   have hlt:=(jos hb.few).1 hv;obtain⟨p,hp,hno,t,ht,htv,htn⟩:=hb.tight vs[v] (List.getElem_mem hlt);refine⟨patOf vs p.atom,List.mem_map.2 ⟨p,List.mem_filter.2 ⟨hp,by simp[hno]⟩,rfl⟩,ja0 vs t,List.mem_map_of_mem ht,?_⟩;unfold ja0;rw[if_pos htv,htn,jlx hb.nodup (List.getElem?_eq_getElem hlt)];rfl
 intro p hp s hs v hv;obtain⟨q,hq,rfl⟩:=List.mem_map.1 (show p∈jcg vs body from hp);obtain⟨t,ht,rfl⟩:=List.mem_map.1 (show s∈q.atom.args.map (ja0 vs) from hs);unfold ja0 at hv;split at hv
 · rename_i htv
   obtain⟨i,hi⟩:=jcp (hb.mem q (List.mem_filter.1 hq).1 t ht htv);rw[hi] at hv;simp only[Option.getD_some,Option.some.injEq] at hv;subst hv;exact (jos hb.few).2 (jc6 hi)
 cases hv
theorem jkh {list:List GA} {rounds:List Nat} {body:List GP} {vs:List ByteArray} {wanted:List Bool} {V:Words}:(seOf list rounds vs body wanted).hindered V=true↔∃ p∈body,p.no=true∧jfa list p.atom (sigW vs V):=by
 unfold SE.hindered;rw[List.any_eq_true]
 constructor
 · rintro ⟨p,hp,h⟩
   obtain⟨q,hq,rfl⟩:=List.mem_map.1 (show p∈jcg vs body from hp);obtain⟨hq1,hq2⟩:=List.mem_filter.1 hq;obtain⟨a,ha,hs⟩:=List.any_eq_true.1 h;obtain⟨h1,h2⟩:=jgo.1 hs;refine⟨q,hq1,hq2,jif.1 ⟨a,ha,h1.symm,?_⟩⟩;rw[← h2];unfold factP;rw[List.map_map];rfl
 rintro ⟨q,hq1,hq2,hh⟩;refine⟨patOf vs q.atom,List.mem_map.2 ⟨q,List.mem_filter.2 ⟨hq1,hq2⟩,rfl⟩,List.any_eq_true.2 ?_⟩;obtain⟨a,ha,h1,h2⟩:=jif.2 hh;refine⟨a,ha,jgo.2 ⟨h1.symm,?_⟩⟩;rw[h2];unfold factP;rw[List.map_map];rfl
def jot (E:SE):List Words:=(told E (E.parts.length+1) (2 ^ E.parts.length-1) (List.replicate 12 jcq)).1
theorem juh {n i:Nat}:(2 ^ n-1).testBit i=decide (i<n):=Nat.testBit_two_pow_sub_one n i
theorem jxe (n:Nat):jh4 n (2 ^ n-1)≤n:=by
 unfold jh4;refine Nat.le_trans List.countP_le_length ?_;simp
theorem jzk (v:Nat):isNo (Words.at_ (List.replicate 12 jcq) v)=true:=by
 unfold Words.at_;rw[List.getD_eq_getElem?_getD,List.getElem?_replicate];split<;>rfl
theorem jnl {E:SE} {W:Words}:E.Done (2 ^ E.parts.length-1) W:=fun i p hp hb=>by
 rw[juh] at hb;have:=(List.getElem?_eq_some_iff.1 hp).1;simp[this] at hb
theorem jsq {R:Words} (h:R.length=12):Words.below (List.replicate 12 jcq) R:=⟨by simp[h],fun v hv=>by rw[jzk] at hv;cases hv⟩
end Go.Proofs.YthdojieomhighaaGreatDoor
namespace Go.Proofs.YthdojieomhighaaGreatDoor
open Go.RowKit
/-! ### Strictly ascending -/
section
variable {α:Type} {c:α→α→Int}
def AscC (c:α→α→Int) (l:List α):Prop:=l.Pairwise fun a b=>c a b<0
theorem jql (h:Total c) (a:α):c a a=0:=(h.eq a a).2 rfl
theorem jxf (h:Total c):∀ {l m:List α},AscC c l→AscC c m→(∀ x,x∈l↔x∈m)→l=m
 | [],[],_,_,_=>rfl
 | [],y :: m,_,_,hm=>absurd ((hm y).2 (by simp)) (by simp)
 | x :: l,[],_,_,hm=>absurd ((hm x).1 (by simp)) (by simp)
 | x :: l,y :: m,hl,hm,he=>by
   obtain⟨h1,h2⟩:=List.pairwise_cons.1 hl;obtain⟨k1,k2⟩:=List.pairwise_cons.1 hm
   have hxy:x=y:=by
    rcases List.mem_cons.1 ((he x).1 (by simp)) with e|e
    · exact e
    rcases List.mem_cons.1 ((he y).2 (by simp)) with e2|e2
    · exact e2.symm
    have a1:=k1 x e;have a2:=h1 y e2;rw[h.neg] at a1;omega
   subst hxy
   congr 1
   refine jxf h h2 k2 fun z=>?_
   constructor
   · intro hz
     rcases List.mem_cons.1 ((he z).1 (List.mem_cons_of_mem _ hz)) with e|e
     · subst e
       have:=h1 z hz;rw[jql h] at this;omega
     exact e
   intro hz;rcases List.mem_cons.1 ((he z).2 (List.mem_cons_of_mem _ hz)) with e|e
   · subst e
     have:=k1 z hz;rw[jql h] at this;omega
   exact e
end
/-! ### Rows -/
theorem jvn:Total cmpS where
 eq a b:=by
  unfold cmpS;rw[jca.eq];exact⟨fun h=>jge h,fun h=>by rw[h]⟩
 neg a b:=by unfold cmpS;exact jca.neg _ _
 trans a b d h1 h2:=by unfold cmpS at *;exact jca.trans _ _ _ h1 h2
end Go.Proofs.YthdojieomhighaaGreatDoor
namespace Go.Proofs.YthdojieomhighaaGreatDoor
open Go.RowKit
def varsN (body:List GP):List ByteArray:=body.foldl (fun o p=>ja9 o p.atom) []
theorem jgf (body:List GP):AscS (varsN body):=(jkz body [] List.Pairwise.nil).1
theorem jfb {body:List GP} {x:ByteArray}:x∈varsN body↔∃ p∈body,x∈jc2 p.atom:=by
 unfold varsN;rw[(jkz body [] List.Pairwise.nil).2];simp
theorem jdr {a:GA} {x:ByteArray}:x∈jc2 a↔∃ t∈a.args,t.v=true∧t.n=x:=by
 unfold jc2;simp only[List.mem_map,List.mem_filter]
 constructor
 · rintro ⟨t,⟨h1,h2⟩,h3⟩;exact⟨t,h1,h2,h3⟩
 rintro ⟨t,h1,h2,h3⟩;exact⟨t,⟨h1,h2⟩,h3⟩
theorem jsr {s:ByteArray} (h:jay s=true):isNo s=false:=by
 unfold jay jbu inB at h;simp only[Bool.and_eq_true,decide_eq_true_eq] at h;unfold isNo;refine decide_eq_false fun e=>?_
 have:=h.1.2.1;rw[e] at this;omega
theorem jvo {s:ByteArray} (h:jch s=true):isNo s=false:=by
 unfold jch at h;simp only[Bool.and_eq_true] at h;unfold isNo;refine decide_eq_false fun e=>?_
 have h1:=h.1.1;unfold capB at h1;have:s.data.toList=[]:=List.eq_nil_of_length_eq_zero (by simpa using e);rw[this] at h1;cases h1
theorem jly {t:GT} (h:ja1 t=true):isNo t.n=false:=by
 unfold ja1 at h;split at h
 · exact jvo h
 exact jsr h
theorem jlz {a:GA} (h:jat a=true):∀ t∈a.args,isNo t.n=false:=fun t ht=>by
 unfold jat at h;simp only[Bool.and_eq_true] at h;exact jly (List.all_eq_true.1 h.2 t ht)
theorem jou {a:GA} (h:factB a=true):jlg a:=fun t ht=>by
 unfold factB at h;simp only[Bool.and_eq_true] at h;have h2:=List.all_eq_true.1 h.2 t ht;exact⟨by simpa using h2,jlz h.1 t ht⟩
theorem jvp {body:List GP} (h:∀ p∈body,p.atom.args.length≤3):(body.flatMap fun p=>jc2 p.atom).length≤3*body.length:=by
 induction body with
 | nil=>simp
 | cons p body ih =>
   have h1:=ih (fun q hq=>h q (List.mem_cons_of_mem _ hq));have h2:=h p (by simp)
   have h3:(jc2 p.atom).length≤p.atom.args.length:=by
    unfold jc2;rw[List.length_map];exact List.length_filter_le _ _
   rw[List.flatMap_cons,List.length_append,List.length_cons];omega
theorem jjc {a:GA} (h:jat a=true):a.args.length≤3:=by
 unfold jat at h;simp only[Bool.and_eq_true,decide_eq_true_eq] at h;exact h.1.2
theorem jxg {body:List GP} (h:∀ p∈body,p.atom.args.length≤3) (hb:body.length≤4):(varsN body).length≤12:=by
 have h1:=jed (varsN body) (body.flatMap fun p=>jc2 p.atom) (jgf body).nodup (fun x hx=>by
  obtain⟨p,hp,hx⟩:=jfb.1 hx;exact List.mem_flatMap.2 ⟨p,hp,hx⟩)
 have h2:=jvp h;omega
end Go.Proofs.YthdojieomhighaaGreatDoor
namespace Go.Proofs.YthdojieomhighaaGreatDoor
open Go.RowKit
structure jab (S:Nat→Prop) (w w':World):Prop where
 os:w'.os=w.os
 tape:w'.tape=w.tape
 output:w'.output=w.output
 size:w.heap.size≤w'.heap.size
 block:∀ b,b<w.heap.size→¬ S b→w'.heap[b]? = w.heap[b]?
section
variable {S T:Nat→Prop} {a b c:World}
theorem jab.refl (S:Nat→Prop) (w:World):jab S w w:=⟨rfl,rfl,rfl,Nat.le_refl _,fun _ _ _=>rfl⟩
theorem jab.of_ext (h:Ext a b):jab S a b:=⟨h.os,h.tape,h.output,h.size,fun k hk _=>h.block k hk⟩
theorem jab.trans' (h:jab S a b) (k:jab S b c):jab S a c :=
 ⟨k.os.trans h.os,k.tape.trans h.tape,k.output.trans h.output,Nat.le_trans h.size k.size,fun i hi hn=>(k.block i (Nat.lt_of_lt_of_le hi h.size) hn).trans (h.block i hi hn)⟩
theorem jab.sub (h:jab S a b) (hS:∀ i,S i→i<a.heap.size→T i):jab T a b:=⟨h.os,h.tape,h.output,h.size,fun k hk hn=>h.block k hk (fun hs=>hn (hS k hs hk))⟩
theorem jab.set (w:World) (p:Addr) (u:Value) (h:S p.block):jab S w (w.setCell p u) :=
 ⟨rfl,rfl,rfl,by simp[World.setCell],fun k _ hn=>Below.heap_setCell w p u k (fun e=>hn (e▸h))⟩
theorem jab.toExt (h:jab S b c) (hx:Ext a b) (hS:∀ i,S i→a.heap.size≤i):Ext a c :=
 ⟨h.os.trans hx.os,h.tape.trans hx.tape,h.output.trans hx.output,Nat.le_trans hx.size h.size,fun k hk=>(h.block k (Nat.lt_of_lt_of_le hk hx.size) (fun hs=>absurd (hS k hs) (Nat.not_le.2 hk))).trans (hx.block k hk)⟩
theorem jab.blk {g:Nat} {t:TypeId} {cs:Array Value} (h:jab S a b) (hb:Blk a g t cs) (hg:¬ S g):Blk b g t cs:=(h.block g hb.lt hg).trans hb
end
end Go.Proofs.YthdojieomhighaaGreatDoor
