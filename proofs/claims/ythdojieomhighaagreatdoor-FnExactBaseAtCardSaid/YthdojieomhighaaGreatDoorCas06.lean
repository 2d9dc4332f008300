/- Own texts, joined. -/
import Derived.Test.YthdojieomhighaaGreatDoorCas05
import Derived.Maps.OwnSet
import Derived.Maps.OwnOps
import Derived.Maps.Views
import Derived.StringKeys
import Derived.Test.YthdojieomhighaaGreatDoorRows
import Derived.Test.YthdojieomhighaaGreatDoorCas01
import Derived.Test.YthdojieomhighaaGreatDoorCas04
import Derived.Deep.RegionHeld3
set_option linter.unusedSimpArgs false
set_option linter.unusedVariables false
set_option maxHeartbeats 2000000
set_option maxRecDepth 100000
namespace Go.Proofs.YthdojieomhighaaGreatDoor
open Go.RowKit
/-! ### Lists -/
theorem jed {α:Type} [DecidableEq α]:∀ (a b:List α),a.Nodup→(∀ x∈a,x∈b)→a.length≤b.length
 | [],_,_,_=>Nat.zero_le _
 | x :: a,b,h,hs=>by
   have hx:=hs x (by simp);obtain⟨h1,h2⟩:=List.nodup_cons.1 h;have ih:=jed a (b.erase x) h2 (fun y hy=>(List.mem_erase_of_ne (fun (e:y=x)=>h1 (by rw[← e];exact hy))).2 (hs y (List.mem_cons_of_mem _ hy)));have hl:=List.length_erase_of_mem hx;have hp:0<b.length:=List.length_pos_of_mem hx;simp only[List.length_cons];omega
/-! ### Atoms of rules, and how many terms a name has -/
def jbh (r:GR):List GA:=r.head :: r.body.map (·.atom)
def jap (l:List GR):List GA:=(l.map jbh).flatten
def jbd (r:GR):Bool:=(r.body.all fun p=>jat p.atom) && (jat r.head && decide (r.body.length≤4))
def jax:List GA→ByteArray→Option Nat
 | [],_=>none
 | a :: l,x=>if a.n=x then some a.args.length else jax l x
def argsB (l:List GA):Bool:=l.all fun a=>decide (jax l a.n=some a.args.length)
theorem jc1:∀ (l:List GA) (a:GA) (x:ByteArray),jax (l++[a]) x=match jax l x with|some n=>some n|none=>if a.n=x then some a.args.length else none
 | [],a,x=>rfl
 | b :: l,a,x=>by
   simp only[List.cons_append,jax,jc1 l a x];by_cases h:b.n=x
   · simp[h]
   simp[h]
theorem jfo:∀ {l:List GA} {x:ByteArray} {n:Nat},jax l x=some n→∃ a∈l,a.n=x∧a.args.length=n
 | b :: l,x,n,h=>by
   simp only[jax] at h;split at h
   · injection h with h
     exact⟨b,by simp,by assumption,h⟩
   obtain⟨a,h1,h2⟩:=jfo h;exact⟨a,List.mem_cons_of_mem _ h1,h2⟩
theorem jf9:∀ {l:List GA} {a:GA},a∈l→∃ n,jax l a.n=some n
 | b :: l,a,h=>by
   simp only[jax];by_cases e:b.n=a.n
   · exact⟨_,if_pos e⟩
   rw[if_neg e];rcases List.mem_cons.1 h with rfl|h
   · exact absurd rfl e
   exact jf9 h
theorem jvf (l:List GA) (a:GA):argsB (l++[a])=(argsB l && match jax l a.n with|some n=>n == a.args.length|none=>true):=by
 have key:∀ b∈l,jax (l++[a]) b.n=jax l b.n:=fun b hb=>by
  obtain⟨n,hn⟩:=jf9 hb;rw[jc1,hn]
 have h1:(l.all fun b=>decide (jax (l++[a]) b.n=some b.args.length))=argsB l:=by
  unfold argsB;rw[Bool.eq_iff_iff,List.all_eq_true,List.all_eq_true];exact⟨fun h b hb=>by rw[← key b hb];exact h b hb,fun h b hb=>by rw[key b hb];exact h b hb⟩
 unfold argsB at h1 ⊢;rw[List.all_append,h1]
 congr 1
 simp only[List.all_cons,List.all_nil,Bool.and_true];rw[jc1]
 cases jax l a.n with
 | none=>rw[if_pos rfl];exact decide_eq_true rfl
 | some n =>
   show decide (some n=some a.args.length)=(n == a.args.length)
   rw[Bool.eq_iff_iff,decide_eq_true_eq,beq_iff_eq,Option.some.injEq]
theorem jll (l:List GA):argsB l=true↔∀ (i k:Nat) (a b:GA),l[i]? = some a→l[k]? = some b→k<i→a.n=b.n→a.args.length=b.args.length:=by
 have hall:argsB l=true↔∀ a∈l,∀ b∈l,a.n=b.n→a.args.length=b.args.length:=by
  unfold argsB;rw[List.all_eq_true]
  constructor
  · intro h a ha b hb e
    have h1:=of_decide_eq_true (h a ha);have h2:=of_decide_eq_true (h b hb);rw[e,h2] at h1;injection h1 with h1
    exact h1.symm
  intro h a ha;obtain⟨n,hn⟩:=jf9 ha;obtain⟨b,hb,e1,e2⟩:=jfo hn;exact decide_eq_true (by rw[hn,← e2,h b hb a ha e1])
 rw[hall]
 constructor
 · intro h i k a b ha hb _ e
   exact h a (List.mem_of_getElem? ha) b (List.mem_of_getElem? hb) e
 intro h a ha b hb e;obtain⟨i,hi,rfl⟩:=List.mem_iff_getElem.1 ha;obtain⟨k,hk,rfl⟩:=List.mem_iff_getElem.1 hb;rcases Nat.lt_trichotomy k i with hlt|rfl|hlt
 · exact h i k _ _ (List.getElem?_eq_getElem hi) (List.getElem?_eq_getElem hk) hlt e
 · rfl
 exact (h k i _ _ (List.getElem?_eq_getElem hk) (List.getElem?_eq_getElem hi) hlt e.symm).symm
/-! ### Loose variables -/
def jc2 (a:GA):List ByteArray:=(a.args.filter (·.v)).map (·.n)
def memS (x:ByteArray) (l:List ByteArray):Bool:=l.any fun y=>decide (y=x)
theorem jok {x:ByteArray} {l:List ByteArray}:memS x l=true↔x∈l:=by
 unfold memS;rw[List.any_eq_true]
 constructor
 · rintro ⟨y,hy,h⟩
   exact of_decide_eq_true h▸hy
 intro h;exact⟨x,h,decide_eq_true rfl⟩
def jcb (body:List GP) (x:ByteArray):Bool:=body.any fun p=> !p.no && memS x (jc2 p.atom)
def jce (r:GR):Bool:=(jbh r).all fun a=>(jc2 a).all (jcb r.body)
def ltS (a b:ByteArray):Bool:=decide (Lib.compareBytes a.data.toList b.data.toList<0)
theorem jlm (a:ByteArray):ltS a a=false:=by
 unfold ltS;rw[(jca.eq _ _).2 rfl];rfl
theorem jga {a b c:ByteArray} (h:ltS a b=true) (k:ltS b c=true):ltS a c=true:=decide_eq_true (jca.trans _ _ _ (of_decide_eq_true h) (of_decide_eq_true k))
theorem jp8 {a b:ByteArray} (h:ltS a b=false) (hn:a≠b):ltS b a=true:=by
 have h1:¬ Lib.compareBytes a.data.toList b.data.toList<0:=of_decide_eq_false h
 have h2:Lib.compareBytes a.data.toList b.data.toList≠0:=fun e=>by
  have e2:=(jca.eq _ _).1 e
  have e3:a.data=b.data:=by
   rw[← Array.toList_inj];exact e2
  exact hn (by cases a;cases b;simp at e3;rw[e3])
 have h3:=jca.neg b.data.toList a.data.toList;exact decide_eq_true (by omega)
def putS:List ByteArray→ByteArray→List ByteArray
 | [],s=>[s]
 | x :: l,s=>if ltS x s=true then x :: putS l s else if x=s then x :: l else s :: x :: l
def jdw:List ByteArray→ByteArray→Nat
 | [],_=>0
 | x :: l,s=>if ltS x s=true then jdw l s+1 else 0
theorem jp9:∀ (l:List ByteArray) (s:ByteArray),jdw l s≤l.length
 | [],_=>Nat.le_refl _
 | x :: l,s=>by
   have:=jp9 l s;unfold jdw;split<;>simp<;>omega
theorem jqa:∀ {l:List ByteArray} {s:ByteArray} {i:Nat} {x:ByteArray},i<jdw l s→l[i]? = some x→ltS x s=true
 | y :: l,s,i,x,h,hx=>by
   unfold jdw at h;split at h
   · cases i with
     | zero=>simp at hx;subst hx;assumption
     | succ i=>exact jqa (l:=l) (s:=s) (i:=i) (by omega) (by simpa using hx)
   omega
theorem jnc:∀ {l:List ByteArray} {s:ByteArray} {x:ByteArray},l[jdw l s]? = some x→ltS x s=false
 | y :: l,s,x,hx=>by
   unfold jdw at hx;split at hx
   · exact jnc (by simpa using hx)
   rename_i h;simp at hx;subst hx;exact Bool.not_eq_true _▸h
theorem jqb {l:List ByteArray} {s:ByteArray} {k:Nat} (hk:k≤l.length) (h1:∀ i x,i<k→l[i]? = some x→ltS x s=true) (h2:∀ x,l[k]? = some x→ltS x s=false):jdw l s=k:=by
 rcases Nat.lt_trichotomy (jdw l s) k with h|h|h
 · have hl:jdw l s<l.length:=by omega
   have e1:=h1 _ _ h (List.getElem?_eq_getElem hl);rw[jnc (List.getElem?_eq_getElem hl)] at e1;cases e1
 · exact h
 have hl:k<l.length:=by have:=jp9 l s;omega
 have e1:=h2 _ (List.getElem?_eq_getElem hl);rw[jqa h (List.getElem?_eq_getElem hl)] at e1;cases e1
theorem jsj:∀ (l:List ByteArray) (s:ByteArray),putS l s=if l[jdw l s]? = some s then l else l.take (jdw l s)++[s]++l.drop (jdw l s)
 | [],s=>rfl
 | x :: l,s=>by
   have ih:=jsj l s;unfold putS jdw;by_cases h:ltS x s=true
   · rw [if_pos h,if_pos h,ih]
     simp only[List.getElem?_cons_succ,List.take_succ_cons,List.drop_succ_cons];split<;>simp
   rw[if_neg h,if_neg h];simp only[List.getElem?_cons_zero,Option.some.injEq,List.take_zero,List.drop_zero,List.nil_append]
   rfl
theorem jol:∀ {l:List ByteArray} {s x:ByteArray},x∈putS l s↔x∈l∨x=s
 | [],s,x=>by simp[putS]
 | y :: l,s,x=>by
   have ih:=jol (l:=l) (s:=s) (x:=x);unfold putS;split
   · simp only[List.mem_cons,ih,or_assoc]
   split
   · rename_i h;subst h;simp only[List.mem_cons]
     constructor
     · exact fun h=>.inl h
     rintro (h|h)
     · exact h
     exact .inl h
   simp only[List.mem_cons]
   constructor
   · rintro (h|h|h)
     · exact .inr h
     · exact .inl (.inl h)
     exact .inl (.inr h)
   rintro ((h|h)|h)
   · exact .inr (.inl h)
   · exact .inr (.inr h)
   exact .inl h
def AscS (l:List ByteArray):Prop:=l.Pairwise fun a b=>ltS a b=true
theorem AscS.put:∀ {l:List ByteArray} {s:ByteArray},AscS l→AscS (putS l s)
 | [],s,_=>by unfold putS;exact List.pairwise_singleton _ _
 | y :: l,s,h=>by
   obtain⟨h1,h2⟩:=List.pairwise_cons.1 h;unfold putS;split
   · rename_i hlt
     refine List.pairwise_cons.2 ⟨fun z hz=>?_,AscS.put h2⟩;rcases jol.1 hz with hz|rfl
     · exact h1 z hz
     exact hlt
   rename_i hlt;split
   · exact h
   rename_i hne;have hsy:=jp8 (Bool.not_eq_true _▸hlt) hne;refine List.pairwise_cons.2 ⟨fun z hz=>?_,h⟩;rcases List.mem_cons.1 hz with rfl|hz
   · exact hsy
   exact jga hsy (h1 z hz)
theorem AscS.nodup {l:List ByteArray} (h:AscS l):l.Nodup:=by
 refine List.Pairwise.imp (fun {a b} hab=>?_) h;intro e;rw[e,jlm] at hab;cases hab
def ja9 (out:List ByteArray) (a:GA):List ByteArray:=(jc2 a).foldl putS out
theorem jh7:∀ {vs out:List ByteArray} {x:ByteArray},x∈vs.foldl putS out↔x∈out∨x∈vs
 | [],out,x=>by simp
 | v :: vs,out,x=>by rw[List.foldl_cons,jh7,jol,List.mem_cons,or_assoc]
theorem jh8:∀ {vs out:List ByteArray},AscS out→AscS (vs.foldl putS out)
 | [],_,h=>h
 | v :: vs,out,h=>by rw[List.foldl_cons];exact jh8 h.put
def ji5 (r:GR):List ByteArray:=r.body.foldl (fun o p=>ja9 o p.atom) (ja9 [] r.head)
def jee (r:GR):List ByteArray:=r.body.foldl (fun o p=>if p.no then o else ja9 o p.atom) []
theorem jkz:∀ (ps:List GP) (o:List ByteArray),AscS o→AscS (ps.foldl (fun o p=>ja9 o p.atom) o)∧∀ x,x∈ps.foldl (fun o p=>ja9 o p.atom) o↔x∈o∨∃ p∈ps,x∈jc2 p.atom
 | [],o,h=>⟨h,fun x=>by simp⟩
 | p :: ps,o,h=>by
   obtain⟨h1,h2⟩:=jkz ps (ja9 o p.atom) (jh8 h);refine⟨h1,fun x=>?_⟩;rw[List.foldl_cons,h2,ja9,jh7,or_assoc];simp[or_and_right,exists_or]
theorem ji6:∀ (ps:List GP) (o:List ByteArray),AscS o→AscS (ps.foldl (fun o p=>if p.no then o else ja9 o p.atom) o)∧∀ x,x∈ps.foldl (fun o p=>if p.no then o else ja9 o p.atom) o↔x∈o∨jcb ps x=true
 | [],o,h=>⟨h,fun x=>by simp[jcb]⟩
 | p :: ps,o,h=>by
   have e:∀ x,jcb (p :: ps) x=((!p.no && memS x (jc2 p.atom)) || jcb ps x):=fun x=>rfl
   by_cases hn:p.no=true
   · obtain ⟨h1,h2⟩:=ji6 ps o h
     rw[List.foldl_cons,if_pos hn];exact⟨h1,fun x=>by rw[h2,e,hn];simp⟩
   obtain⟨h1,h2⟩:=ji6 ps (ja9 o p.atom) (jh8 h);rw[List.foldl_cons,if_neg hn];refine⟨h1,fun x=>?_⟩;have hn':p.no=false:=Bool.not_eq_true _▸hn;rw[h2,e,hn',ja9,jh7,or_assoc,Bool.or_eq_true,Bool.not_false,Bool.true_and,jok]
theorem jw9 (r:GR):jce r=((ji5 r).length == (jee r).length):=by
 obtain⟨a1,a2⟩:=jkz r.body (ja9 [] r.head) (jh8 List.Pairwise.nil);obtain⟨b1,b2⟩:=ji6 r.body [] List.Pairwise.nil
 have ha:∀ x,x∈ji5 r↔∃ a∈jbh r,x∈jc2 a:=fun x=>by
  unfold ji5;rw[a2,ja9,jh7]
  constructor
  · rintro ((h|h)|⟨p,hp,h⟩)
    · cases h
    · exact⟨r.head,by unfold jbh;simp,h⟩
    exact⟨p.atom,List.mem_cons_of_mem _ (List.mem_map_of_mem hp),h⟩
  rintro ⟨a,ha,h⟩;rcases List.mem_cons.1 ha with rfl|ha
  · exact .inl (.inr h)
  obtain⟨p,hp,rfl⟩:=List.mem_map.1 ha;exact .inr ⟨p,hp,h⟩
 have hb:∀ x,x∈jee r↔jcb r.body x=true:=fun x=>by unfold jee;rw[b2];simp
 have hsub:∀ x∈jee r,x∈ji5 r:=fun x hx=>by
  have h:=(hb x).1 hx;unfold jcb at h;rw[List.any_eq_true] at h;obtain⟨p,hp,h⟩:=h;simp only[Bool.and_eq_true,jok] at h;exact (ha x).2 ⟨p.atom,List.mem_cons_of_mem _ (List.mem_map_of_mem hp),h.2⟩
 have hN:(ji5 r).Nodup:=AscS.nodup a1;have hM:(jee r).Nodup:=AscS.nodup b1;have hle:=jed _ _ hM hsub;rw[Bool.eq_iff_iff,beq_iff_eq];unfold jce;rw[List.all_eq_true]
 constructor
 · intro h
   have:=jed _ _ hN (fun x hx=>(hb x).2 (by
    obtain⟨a,h1,h2⟩:=(ha x).1 hx;exact List.all_eq_true.1 (h a h1) x h2))
   omega
 intro h a haa;rw[List.all_eq_true];intro x hx;have hxa:=(ha x).2 ⟨a,haa,hx⟩;by_cases hxb:x∈jee r
 · exact (hb x).1 hxb
 have:=jed (x :: jee r) (ji5 r) (List.nodup_cons.2 ⟨hxb,hM⟩) (fun y hy=>by
   rcases List.mem_cons.1 hy with rfl|hy
   · exact hxa
   exact hsub y hy)
 simp only[List.length_cons] at this;omega
/-! ### Strata -/
def one (b:Bool):Nat:=if b then 1 else 0
def dep (l:List GR) (f:ByteArray→Nat):Prop:=∀ r∈l,∀ p∈r.body,(∃ r'∈l,r'.head.n=p.atom.n)→f p.atom.n+one p.no≤f r.head.n
def Strat (l:List GR):Prop:=∃ f,dep l f
def jke (hs:List ByteArray) (f:ByteArray→Nat) (x:ByteArray):Nat:=((List.range (f x)).filter fun v=>decide (v∈hs.map f)).length
theorem jxa {hs:List ByteArray} {f:ByteArray→Nat} {x y:ByteArray} (h:f x≤f y):jke hs f x≤jke hs f y :=
 ((List.range_sublist.2 h).filter _).length_le
theorem j0r {hs:List ByteArray} {f:ByteArray→Nat} {x y:ByteArray} (hx:x∈hs) (h:f x<f y):jke hs f x+1≤jke hs f y:=by
 have h1:=((List.range_sublist.2 (show f x+1≤f y from h)).filter (fun v=>decide (v∈hs.map f))).length_le;rw[List.range_succ,List.filter_append,List.length_append] at h1
 have h2:([f x].filter fun v=>decide (v∈hs.map f)).length=1:=by
  rw[List.filter_cons_of_pos (by simpa using ⟨x,hx,rfl⟩)];rfl
 unfold jke;omega
theorem jvg {hs:List ByteArray} {f:ByteArray→Nat} {x:ByteArray} (hx:x∈hs):jke hs f x<hs.length:=by
 have h:=jed (f x :: (List.range (f x)).filter fun v=>decide (v∈hs.map f)) (hs.map f) (List.nodup_cons.2 ⟨fun hm=>by
  have:=(List.mem_filter.1 hm).1;rw[List.mem_range] at this;omega,List.nodup_range.filter _⟩) (fun y hy=>by
  rcases List.mem_cons.1 hy with rfl|hy
  · exact List.mem_map_of_mem hx
  exact of_decide_eq_true (List.mem_filter.1 hy).2)
 simp only[List.length_cons,List.length_map] at h;unfold jke;omega
theorem jln {l:List GR} {hs:List ByteArray} (hh:∀ r∈l,r.head.n∈hs) (h:Strat l):∃ f,dep l f∧∀ x∈hs,f x<hs.length:=by
 obtain⟨f,hf⟩:=h;refine⟨jke hs f,fun r hr p hp he=>?_,fun x hx=>jvg hx⟩;have h1:=hf r hr p hp he;obtain⟨r',hr',e⟩:=he;have hm:p.atom.n∈hs:=e▸hh r' hr';unfold one at h1 ⊢
 cases hn:p.no with
 | true =>
   rw[hn] at h1;have h2:f p.atom.n+1≤f r.head.n:=h1;exact j0r hm h2
 | false =>
   rw[hn] at h1;exact jxa (by simpa using h1)
/-! #### as the reference works them out -/
def at0 (o:List Nat) (i:Nat):Nat:=o.getD i 0
def stepH (a b:GR) (i k:Nat) (o:List Nat):List Nat:=if b.head.n=a.head.n∧at0 o i<at0 o k then o.set i (at0 o k) else o
def stepJ (n:Nat) (b:GR) (i k:Nat) (o:List Nat) (p:GP):List Nat:=if p.atom.n=b.head.n∧at0 o i<at0 o k+one p.no∧at0 o i≤n then o.set i (at0 o k+one p.no) else o
def stepK (l:List GR) (a:GR) (i:Nat) (o:List Nat) (k:Nat):List Nat:=match l[k]? with
 | none=>o
 | some b=>a.body.foldl (stepJ l.length b i k) (stepH a b i k o)
def stepI (l:List GR) (o:List Nat) (i:Nat):List Nat:=match l[i]? with
 | none=>o
 | some a=>(List.range l.length).foldl (stepK l a i) o
def passL (l:List GR) (o:List Nat):List Nat:=(List.range l.length).foldl (stepI l) o
def jaz (l:List GR):Nat→List Nat
 | 0=>List.replicate l.length 0
 | n+1=>passL l (jaz l n)
def jaq (l:List GR):List Nat:=jaz l ((l.length+1)*(l.length+2))
def Up (o o':List Nat):Prop:=o'.length=o.length∧∀ i,at0 o i≤at0 o' i
theorem Up.refl (o:List Nat):Up o o:=⟨rfl,fun _=>Nat.le_refl _⟩
theorem Up.trans {a b c:List Nat} (h:Up a b) (k:Up b c):Up a c:=⟨k.1.trans h.1,fun i=>Nat.le_trans (h.2 i) (k.2 i)⟩
theorem jde {o:List Nat} {i:Nat} (h:i<o.length):o[i]? = some (at0 o i):=by
 unfold at0;rw[List.getD_eq_getElem?_getD,List.getElem?_eq_getElem h];rfl
theorem Up.antisymm {a b:List Nat} (h:Up a b) (k:Up b a):a=b:=by
 apply List.ext_getElem?
 intro i;by_cases hi:i<a.length
 · rw [jde hi,jde (by have:=h.1;omega)]
   have h1:=h.2 i;have h2:=k.2 i;rw[show at0 a i=at0 b i from by omega]
 rw[List.getElem?_eq_none (by omega),List.getElem?_eq_none (by have:=h.1;omega)]
theorem jfp {o:List Nat} {i j v:Nat} (h:i<o.length):at0 (o.set i v) j=if i=j then v else at0 o j:=by
 unfold at0;rw[List.getD_eq_getElem?_getD,List.getD_eq_getElem?_getD,List.getElem?_set];by_cases e:i=j
 · subst e;simp[h]
 simp[e]
theorem Up.set {o:List Nat} {i v:Nat} (h:at0 o i≤v):Up o (o.set i v):=by
 refine⟨List.length_set,fun j=>?_⟩;by_cases hi:i<o.length
 · rw [jfp hi]
   split
   · rename_i e;subst e;exact h
   exact Nat.le_refl _
 rw[List.set_eq_of_length_le (by omega)];exact Nat.le_refl _
theorem jk0 (a b:GR) (i k:Nat) (o:List Nat):Up o (stepH a b i k o):=by
 unfold stepH;split
 · rename_i h;exact Up.set (by omega)
 exact Up.refl _
theorem jgr (n:Nat) (b:GR) (i k:Nat) (o:List Nat) (p:GP):Up o (stepJ n b i k o p):=by
 unfold stepJ;split
 · rename_i h;exact Up.set (by omega)
 exact Up.refl _
theorem jex {β:Type} {f:List Nat→β→List Nat} (hf:∀ o x,Up o (f o x)):∀ (xs:List β) (o:List Nat),Up o (xs.foldl f o)
 | [],o=>Up.refl _
 | x :: xs,o=>by rw[List.foldl_cons];exact (hf o x).trans (jex hf xs _)
theorem jdp {β:Type} {f:List Nat→β→List Nat} (hf:∀ o x,Up o (f o x)):∀ (xs:List β) (o:List Nat),xs.foldl f o=o→∀ x∈xs,f o x=o
 | x :: xs,o,h,y,hy=>by
   rw[List.foldl_cons] at h;have h1:=hf o x;have h2:=jex hf xs (f o x);rw[h] at h2;have e:f o x=o:=h2.antisymm h1;rcases List.mem_cons.1 hy with rfl|hy
   · exact e
   rw[e] at h;exact jdp hf xs o h y hy
theorem jk1 (l:List GR) (a:GR) (i:Nat) (o:List Nat) (k:Nat):Up o (stepK l a i o k):=by
 unfold stepK;split
 · exact Up.refl _
 exact (jk0 _ _ _ _ _).trans (jex (jgr _ _ _ _) _ _)
theorem jk2 (l:List GR) (o:List Nat) (i:Nat):Up o (stepI l o i):=by
 unfold stepI;split
 · exact Up.refl _
 exact jex (jk1 _ _ _) _ _
theorem jom (l:List GR) (o:List Nat):Up o (passL l o):=jex (jk2 l) _ _
theorem ji7 (l:List GR):∀ {m n:Nat},m≤n→Up (jaz l m) (jaz l n)
 | m,0,h=>by rw[show m=0 from by omega];exact Up.refl _
 | m,n+1,h=>by
   rcases Nat.lt_or_ge m (n+1) with h1|h1
   · exact (ji7 l (show m≤n from by omega)).trans (jom l _)
   rw[show m=n+1 from by omega];exact Up.refl _
theorem jco (l:List GR) (n:Nat):(jaz l n).length=l.length:=by
 have:=(ji7 l (Nat.zero_le n)).1;rw[this];exact List.length_replicate
def Under (l:List GR) (f:ByteArray→Nat) (o:List Nat):Prop:=o.length=l.length∧∀ i a,l[i]? = some a→at0 o i≤f a.head.n
theorem Under.set {l:List GR} {f:ByteArray→Nat} {o:List Nat} {i v:Nat} {a:GR} (h:Under l f o) (ha:l[i]? = some a) (hv:v≤f a.head.n):Under l f (o.set i v):=by
 refine⟨List.length_set.trans h.1,fun j b hb=>?_⟩;have hi:=(List.getElem?_eq_some_iff.1 ha).1;rw[jfp (by rw[h.1];exact hi)];split
 · rename_i e;subst e
   rw[ha] at hb;injection hb with hb;subst hb;exact hv
 exact h.2 j b hb
theorem jk3 {β:Type} {f:List Nat→β→List Nat} {I:List Nat→Prop}:∀ (xs:List β) (o:List Nat),(∀ o x,x∈xs→I o→I (f o x))→I o→I (xs.foldl f o)
 | [],o,_,h=>h
 | x :: xs,o,hf,h=>by rw[List.foldl_cons];exact jk3 xs _ (fun o y hy=>hf o y (List.mem_cons_of_mem _ hy)) (hf o x (by simp) h)
theorem Under.pass {l:List GR} {f:ByteArray→Nat} (hd:dep l f) {o:List Nat} (h:Under l f o):Under l f (passL l o):=by
 refine jk3 _ _ (fun o i _ h=>?_) h;unfold stepI;split
 · exact h
 rename_i a ha;refine jk3 _ _ (fun o k _ h=>?_) h;unfold stepK;split
 · exact h
 rename_i b hb;refine jk3 _ _ (fun o p hp h=>?_) ?_
 · unfold stepJ
   split
   · rename_i hc
     refine h.set ha ?_;have h1:=hd a (List.mem_of_getElem? ha) p hp ⟨b,List.mem_of_getElem? hb,hc.1.symm⟩;have h2:=h.2 k b hb;rw[hc.1] at h1;omega
   exact h
 unfold stepH;split
 · rename_i hc
   refine h.set ha ?_;have h2:=h.2 k b hb;rw[hc.1] at h2;exact h2
 exact h
theorem jep {l:List GR} {f:ByteArray→Nat} (hd:dep l f):∀ n,Under l f (jaz l n)
 | 0 => ⟨List.length_replicate,fun i a _=>by
     show at0 (List.replicate l.length 0) i≤_;unfold at0;rw[List.getD_eq_getElem?_getD,List.getElem?_replicate];split<;>simp⟩
 | n+1=>(jep hd n).pass hd
theorem jsk {l:List GR} {o:List Nat} (hl:o.length=l.length) (hs:passL l o=o) (hlow:∀ i,i<l.length→at0 o i<l.length):Strat l:=by
 have hi:=jdp (jk2 l) _ o hs
 have key:∀ (i:Nat) (a:GR) (k:Nat) (b:GR),l[i]? = some a→l[k]? = some b→stepH a b i k o=o∧∀ p∈a.body,stepJ l.length b i k o p=o:=by
  intro i a k b ha hb;have hil:=(List.getElem?_eq_some_iff.1 ha).1;have hkl:=(List.getElem?_eq_some_iff.1 hb).1;have h1:=hi i (by simpa using hil);unfold stepI at h1;rw[ha] at h1;have h2:=jdp (jk1 l a i) _ o h1 k (by simpa using hkl);unfold stepK at h2;rw[hb] at h2;have h3:Up o (stepH a b i k o):=jk0 _ _ _ _ _;have h4:=jex (jgr l.length b i k) a.body (stepH a b i k o);have h2':a.body.foldl (stepJ l.length b i k) (stepH a b i k o)=o:=h2;rw[h2'] at h4;have e:=h4.antisymm h3;rw[e] at h2';exact⟨e,jdp (jgr l.length b i k) _ o h2'⟩
 have hH:∀ (i:Nat) (a:GR) (k:Nat) (b:GR),l[i]? = some a→l[k]? = some b→b.head.n=a.head.n→at0 o k≤at0 o i:=by
  intro i a k b ha hb e;have hil:=(List.getElem?_eq_some_iff.1 ha).1;have h1:=(key i a k b ha hb).1;unfold stepH at h1;split at h1
  · have h2:=congrArg (fun x=>at0 x i) h1
    simp only[jfp (show i<o.length from by omega),if_pos] at h2;omega
  rename_i h; 
  have:¬ at0 o i<at0 o k:=fun hc=>h ⟨e,hc⟩
  omega
 have hf:∀ (i:Nat) (a:GR),l[i]? = some a→∃ k b,l.findIdx? (fun r=>decide (r.head.n=a.head.n))=some k∧l[k]? = some b∧b.head.n=a.head.n:=by
  intro i a ha
  cases hfi:l.findIdx? (fun r=>decide (r.head.n=a.head.n)) with
  | none =>
    rw[List.findIdx?_eq_none_iff] at hfi;have:=hfi a (List.mem_of_getElem? ha);simp at this
  | some k =>
    rw[List.findIdx?_eq_some_iff_getElem] at hfi;obtain⟨hk,h1,_⟩:=hfi;exact⟨k,l[k],rfl,List.getElem?_eq_getElem hk,of_decide_eq_true h1⟩
 let f:ByteArray→Nat:=fun x=>match l.findIdx? (fun r=>decide (r.head.n=x)) with|some k=>at0 o k|none=>0
 have hfa:∀ (i:Nat) (a:GR),l[i]? = some a→f a.head.n=at0 o i:=by
  intro i a ha;obtain⟨k,b,h1,h2,h3⟩:=hf i a ha;show (match l.findIdx? (fun r=>decide (r.head.n=a.head.n)) with|some k=>at0 o k|none=>0)=_;rw[h1];have h4:=hH i a k b ha h2 h3;have h5:=hH k b i a h2 ha h3.symm;show at0 o k=at0 o i;omega
 refine⟨f,fun r hr p hp ⟨r',hr',e⟩=>?_⟩;obtain⟨i,hil,rfl⟩:=List.mem_iff_getElem.1 hr;obtain⟨k,hkl,rfl⟩:=List.mem_iff_getElem.1 hr';have ha:=List.getElem?_eq_getElem hil;have hb:=List.getElem?_eq_getElem hkl;rw[← e,hfa k _ hb,hfa i _ ha];have h1:=(key i _ k _ ha hb).2 p hp;unfold stepJ at h1;split at h1
 · have h2:=congrArg (fun x=>at0 x i) h1
   simp only[jfp (show i<o.length from by omega),if_pos] at h2;omega
 rename_i h;have h2:=hlow i hil;have:¬ at0 o i<at0 o k+one p.no:=fun hc=>h ⟨e.symm,hc,by omega⟩
 omega
theorem j0m {o o':List Nat} (h:Up o o'):o.sum≤o'.sum∧(o.sum=o'.sum→o'=o):=by
 induction o generalizing o' with
 | nil =>
   have:o'=[]:=List.eq_nil_of_length_eq_zero h.1;subst this;exact⟨Nat.le_refl _,fun _=>rfl⟩
 | cons x o ih =>
   cases o' with
   | nil=>exact absurd h.1 (by simp)
   | cons y o' =>
     have h0:x≤y:=h.2 0;have hr:Up o o':=⟨by have:=h.1;simpa using this,fun i=>by have:=h.2 (i+1);simpa [at0] using this⟩
     obtain⟨h1,h2⟩:=ih hr;simp only[List.sum_cons];refine⟨by omega,fun e=>?_⟩;rw[h2 (by omega),show y=x from by omega]
theorem jon {n:Nat}:∀ {o:List Nat},(∀ x∈o,x<n)→o.sum≤o.length*n
 | [],_=>by simp
 | x :: o,h=>by
   have h1:=jon (o:=o) (fun y hy=>h y (List.mem_cons_of_mem _ hy));have h2:=h x (by simp);simp only[List.sum_cons,List.length_cons,Nat.add_mul];omega
theorem jqc (l:List GR):((jaq l).any fun x=>decide (l.length≤x))=true↔¬ Strat l:=by
 constructor
 · intro h hs
   obtain⟨f,hd,hb⟩:=jln (hs:=l.map (·.head.n)) (fun r hr=>List.mem_map_of_mem hr) hs;rw[List.any_eq_true] at h;obtain⟨x,hx,hge⟩:=h;obtain⟨i,hi,rfl⟩:=List.mem_iff_getElem.1 hx;have hil:i<l.length:=by have:=jco l ((l.length+1)*(l.length+2));unfold jaq at hi;omega
   have h1:=(jep hd ((l.length+1)*(l.length+2))).2 i _ (List.getElem?_eq_getElem hil);have h2:=hb l[i].head.n (List.mem_map_of_mem (List.getElem_mem hil));rw[List.length_map] at h2;have h3:=jde hi;rw[List.getElem?_eq_getElem hi] at h3;injection h3 with h3
   have h4:=of_decide_eq_true hge;unfold jaq at h3 h4;omega
 intro hs;by_cases h:((jaq l).any fun x=>decide (l.length≤x))=true
 · exact h
 exfalso
 apply hs
 have hlow:∀ x∈jaq l,x<l.length:=fun x hx=>by
  rcases Nat.lt_or_ge x l.length with h1|h1
  · exact h1
  exact absurd (List.any_eq_true.2 ⟨x,hx,decide_eq_true h1⟩) h
 have hlowN:∀ n,n≤(l.length+1)*(l.length+2)→∀ i,i<l.length→at0 (jaz l n) i<l.length:=fun n hn i hi=>by
  have h1:=(ji7 l hn).2 i;have h2:at0 (jaq l) i<l.length:=hlow _ (List.mem_of_getElem? (jde (by unfold jaq;rw[jco];exact hi)));unfold jaq at h2;omega
 -- some pass leaves all as it is
 have hex:∃ n,n<(l.length+1)*(l.length+2)∧passL l (jaz l n)=jaz l n:=by
  apply Classical.byContradiction
  intro hno
  have hgrow:∀ n,n≤(l.length+1)*(l.length+2)→n≤(jaz l n).sum:=by
   intro n
   induction n with
   | zero=>intro _;exact Nat.zero_le _
   | succ n ih =>
     intro hn;have h1:=ih (by omega);obtain⟨h2,h3⟩:=j0m (jom l (jaz l n));have h4:(jaz l n).sum≠(passL l (jaz l n)).sum:=fun e=>hno ⟨n,by omega,h3 e⟩
     show n+1≤(passL l (jaz l n)).sum;omega
  have h1:=hgrow _ (Nat.le_refl _);have h2:(jaq l).sum≤(jaq l).length*l.length:=jon hlow;unfold jaq at h2;rw[jco] at h2
  have h3:(l.length+1)*(l.length+2)=l.length*l.length+3*l.length+2:=by
   rw[Nat.add_mul,Nat.mul_add];omega
  omega
 obtain⟨n,hn,he⟩:=hex;exact jsk (jco l n) he (hlowN n (by omega))
open Classical in
noncomputable def jdk (l:List GR):Bool:=decide (¬ Strat l)
theorem jh9 (l:List GR):((jaq l).any fun x=>decide (l.length≤x))=jdk l:=by
 rw[Bool.eq_iff_iff,jqc];unfold jdk;simp
noncomputable def jag (l:List GR):Nat :=
 if l.all jbd=false then 1 else if 8<l.length then 2 else if argsB (jap l)=false then 3 else if l.all jce=false then 4 else if jdk l=true then 5 else 0
end Go.Proofs.YthdojieomhighaaGreatDoor
namespace Go.Proofs.YthdojieomhighaaGreatDoor
open Go.RowKit
/-! ### The places of names -/
def idxB:List ByteArray→ByteArray→Option Nat
 | [],_=>none
 | y :: l,x=>if y=x then some 0 else (idxB l x).map (· +1)
theorem jdx:∀ {l:List ByteArray} {x:ByteArray} {i:Nat},idxB l x=some i→l[i]? = some x
 | y :: l,x,i,h=>by
   unfold idxB at h;split at h
   · rename_i e;injection h with h;subst h;rw[e];rfl
   cases hi:idxB l x with
   | none=>rw[hi] at h;cases h
   | some j =>
     rw[hi] at h;injection h with h;subst h
     rw[List.getElem?_cons_succ];exact jdx hi
theorem jc6 {l:List ByteArray} {x:ByteArray} {i:Nat} (h:idxB l x=some i):i<l.length:=(List.getElem?_eq_some_iff.1 (jdx h)).1
theorem jzh {l:List ByteArray} {x y:ByteArray} {i:Nat} (h:idxB l x=some i) (k:idxB l y=some i):x=y:=by
 have h1:=jdx h;rw[jdx k] at h1;injection h1 with h1;exact h1.symm
theorem jcp:∀ {l:List ByteArray} {x:ByteArray},x∈l→∃ i,idxB l x=some i
 | y :: l,x,h=>by
   unfold idxB;by_cases e:y=x
   · exact⟨0,by rw[if_pos e]⟩
   rcases List.mem_cons.1 h with h|h
   · exact absurd h.symm e
   obtain⟨i,hi⟩:=jcp h;exact⟨i+1,by rw[if_neg e,hi];rfl⟩
theorem jia:∀ (l:List ByteArray) (y x:ByteArray),idxB (l++[y]) x=match idxB l x with|some i=>some i|none=>if y=x then some l.length else none
 | [],y,x=>by simp[idxB]
 | z :: l,y,x=>by
   simp only[List.cons_append,idxB,jia l y x];by_cases e:z=x
   · simp[e]
   simp only[if_neg e]
   cases idxB l x with
   | some i=>rfl
   | none =>
     by_cases e2:y=x
     · simp[e2]
     simp[e2]
def jf0:List GR→List ByteArray→List ByteArray
 | [],hs=>hs
 | r :: l,hs=>jf0 l (if (idxB hs r.head.n).isSome then hs else hs++[r.head.n])
def heads (l:List GR):List ByteArray:=jf0 l []
theorem jlo:∀ (l:List GR) (r:GR) (hs:List ByteArray),jf0 (l++[r]) hs=if (idxB (jf0 l hs) r.head.n).isSome then jf0 l hs else jf0 l hs++[r.head.n]
 | [],r,hs=>rfl
 | x :: l,r,hs=>by
   simp only[List.cons_append,jf0];exact jlo l r _
theorem jvh (l:List GR) (r:GR):heads (l++[r])=if (idxB (heads l) r.head.n).isSome then heads l else heads l++[r.head.n]:=jlo l r []
theorem jnd:∀ (l:List GR) (hs:List ByteArray),(jf0 l hs).length≤hs.length+l.length
 | [],hs=>Nat.le_refl _
 | x :: l,hs=>by
   have:=jnd l (if (idxB hs x.head.n).isSome then hs else hs++[x.head.n]);simp only[jf0];split at this
   · rename_i e;rw[if_pos e,List.length_cons];omega
   rename_i e;rw[if_neg e,List.length_cons];rw[List.length_append,List.length_singleton] at this;omega
theorem jqd (l:List GR):(heads l).length≤l.length:=by
 have:=jnd l [];simpa [heads] using this
theorem jne:∀ {l:List GR} {hs:List ByteArray} {x:ByteArray},x∈jf0 l hs↔x∈hs∨∃ r∈l,r.head.n=x
 | [],hs,x=>by simp[jf0]
 | y :: l,hs,x=>by
   simp only[jf0];rw[jne];by_cases e:(idxB hs y.head.n).isSome
   · rw [if_pos e]
     obtain⟨i,hi⟩:=Option.isSome_iff_exists.1 e;have hm:y.head.n∈hs:=List.mem_of_getElem? (jdx hi)
     constructor
     · rintro (h|⟨r,hr,h⟩)
       · exact .inl h
       exact .inr ⟨r,List.mem_cons_of_mem _ hr,h⟩
     rintro (h|⟨r,hr,h⟩)
     · exact .inl h
     rcases List.mem_cons.1 hr with rfl|hr
     · exact .inl (h▸hm)
     exact .inr ⟨r,hr,h⟩
   rw[if_neg e]
   constructor
   · rintro (h|⟨r,hr,h⟩)
     · rcases List.mem_append.1 h with h|h
       · exact .inl h
       exact .inr ⟨y,by simp,(List.mem_singleton.1 h).symm⟩
     exact .inr ⟨r,List.mem_cons_of_mem _ hr,h⟩
   rintro (h|⟨r,hr,h⟩)
   · exact .inl (List.mem_append_left _ h)
   rcases List.mem_cons.1 hr with rfl|hr
   · exact .inl (List.mem_append_right _ (by simp[h]))
   exact .inr ⟨r,hr,h⟩
theorem jcr {l:List GR} {x:ByteArray}:x∈heads l↔∃ r∈l,r.head.n=x:=by
 unfold heads;rw[jne];simp
/-! ### Levels by places -/
def Low (l:List GR) (o:List Nat):Prop:=o.length=(heads l).length∧(∀ i,i<o.length→at0 o i<o.length)∧∀ f:ByteArray→Nat,dep l f→(∀ x∈heads l,f x<(heads l).length)→∀ x i,idxB (heads l) x=some i→at0 o i≤f x
theorem jub (n i:Nat):at0 (List.replicate n 0) i=0:=by
 unfold at0;rw[List.getD_eq_getElem?_getD,List.getElem?_replicate];split<;>rfl
theorem Low.start (l:List GR):Low l (List.replicate (heads l).length 0):=by
 refine⟨List.length_replicate,fun i hi=>?_,fun f _ _ x i _=>?_⟩
 · rw[jub];omega
 rw[jub];exact Nat.zero_le _
theorem Low.least {l:List GR} {o:List Nat} (h:Low l o) {f:ByteArray→Nat} (hd:dep l f) (hb:∀ x∈heads l,f x<(heads l).length) {r:GR} {p:GP} (hr:r∈l) (hp:p∈r.body) {j:Nat} (hj:idxB (heads l) p.atom.n=some j):at0 o j+one p.no≤f r.head.n:=by
 have h1:=h.2.2 f hd hb _ _ hj;have h2:=hd r hr p hp (jcr.1 (List.mem_of_getElem? (jdx hj)));omega
theorem Low.set {l:List GR} {o:List Nat} (h:Low l o) {r:GR} {p:GP} (hr:r∈l) (hp:p∈r.body) {j own:Nat} (hj:idxB (heads l) p.atom.n=some j) (ho:idxB (heads l) r.head.n=some own) (hlt:at0 o j+one p.no<(heads l).length):Low l (o.set own (at0 o j+one p.no)):=by
 have hown:own<o.length:=by rw[h.1];exact jc6 ho
 refine⟨List.length_set.trans h.1,fun i hi=>?_,fun f hd hb x i hx=>?_⟩
 · rw [List.length_set] at hi ⊢
   rw[jfp hown];split
   · rw[h.1];exact hlt
   exact h.2.1 i hi
 rw[jfp hown];split
 · rename_i e
   subst e;have:=jzh hx ho;subst this;exact h.least hd hb hr hp hj
 exact h.2.2 f hd hb x i hx
open Classical in
theorem Low.cycle {l:List GR} {o:List Nat} (h:Low l o) {r:GR} {p:GP} (hr:r∈l) (hp:p∈r.body) {j:Nat} (hj:idxB (heads l) p.atom.n=some j) (hge:(heads l).length≤at0 o j+one p.no):jdk l=true:=by
 unfold jdk;refine decide_eq_true fun hs=>?_
 obtain⟨f,hd,hb⟩:=jln (hs:=heads l) (fun r hr=>jcr.2 ⟨r,hr,rfl⟩) hs;have h1:=h.least hd hb hr hp hj;have h2:=hb _ (jcr.2 ⟨r,hr,rfl⟩);omega
def metB (l:List GR) (o:List Nat) (r:GR) (p:GP):Prop:=∀ j own,idxB (heads l) p.atom.n=some j→idxB (heads l) r.head.n=some own→at0 o j+one p.no≤at0 o own
open Classical in
theorem jqe {l:List GR} {o:List Nat} (h:∀ r∈l,∀ p∈r.body,metB l o r p):jdk l=false:=by
 unfold jdk
 refine decide_eq_false fun hn=>hn ⟨fun x=>match idxB (heads l) x with|some i=>at0 o i|none=>0,fun r hr p hp he=>?_⟩
 obtain⟨own,ho⟩:=jcp (jcr.2 ⟨r,hr,rfl⟩);obtain⟨j,hj⟩:=jcp (jcr.2 he);have:=h r hr p hp j own hj ho;simp only[hj,ho];exact this
theorem j0s {o:List Nat}:∀ {i v:Nat},i<o.length→at0 o i<v→o.sum<(o.set i v).sum:=by
 induction o with
 | nil=>intro i v h _;exact absurd h (Nat.not_lt_zero _)
 | cons x o ih =>
   intro i v h hv
   cases i with
   | zero =>
     have hv':x<v:=hv;simp only[List.set_cons_zero,List.sum_cons];omega
   | succ i =>
     have:=ih (i:=i) (v:=v) (by simpa using h) hv;simp only[List.set_cons_succ,List.sum_cons];omega
theorem Low.sum_le {l:List GR} {o:List Nat} (h:Low l o):o.sum≤(heads l).length*(heads l).length:=by
 have:=jon (o:=o) (n:=o.length) (fun x hx=>by
  obtain⟨i,hi,rfl⟩:=List.getElem_of_mem hx;have:=h.2.1 i hi;have e:=jde hi;rw[List.getElem?_eq_getElem hi] at e;injection e with e
  rw[e];exact this)
 rw[h.1] at this;exact this
/-! ### One pass of the program over rules -/
def Pass (l:List GR) (o0 o:List Nat) (b:Bool) (i j:Nat):Prop :=
 (b=true→o0.sum<o.sum)∧(b=false→o=o0∧(∀ i' r,i'<i→l[i']? = some r→∀ p∈r.body,metB l o0 r p)∧∀ r,l[i]? = some r→∀ j' p,j'<j→r.body[j']? = some p→metB l o0 r p)
theorem Pass.start (l:List GR) (o:List Nat):Pass l o o false 0 0   :=⟨fun h=>(by cases h),fun _=>⟨rfl,fun _ _ h=>absurd h (Nat.not_lt_zero _),fun _ _ _ _ h=>absurd h (Nat.not_lt_zero _)⟩⟩
theorem Pass.part {l:List GR} {o0 o:List Nat} {b:Bool} {i j:Nat} {r:GR} {p:GP} (h:Pass l o0 o b i j) (hr:l[i]? = some r) (hp:r.body[j]? = some p) (hm:metB l o r p):Pass l o0 o b i (j+1):=by
 refine⟨h.1,fun hb=>?_⟩;obtain⟨rfl,h2,h3⟩:=h.2 hb;refine⟨rfl,h2,fun r' hr' j' p' hj hp'=>?_⟩;have e:r'=r:=Option.some.inj (hr'.symm.trans hr);subst e;rcases Nat.lt_or_ge j' j with hlt|hge
 · exact h3 _ hr _ _ hlt hp'
 have e:j'=j:=by omega
 subst e;have e2:p'=p:=Option.some.inj (hp'.symm.trans hp);subst e2;exact hm
theorem Pass.moved {l:List GR} {o0 o:List Nat} {b:Bool} {i j own v:Nat} (h:Pass l o0 o b i j) (hown:own<o.length) (hv:at0 o own<v):Pass l o0 (o.set own v) true i (j+1):=by
 refine⟨fun _=>?_,fun hb=>by cases hb⟩;have h1:=j0s hown hv
 cases b with
 | true=>have:=h.1 rfl;omega
 | false=>obtain⟨rfl,_⟩:=h.2 rfl;exact h1
theorem Pass.rule {l:List GR} {o0 o:List Nat} {b:Bool} {i j:Nat} {r:GR} (h:Pass l o0 o b i j) (hr:l[i]? = some r) (hj:r.body.length≤j):Pass l o0 o b (i+1) 0:=by
 refine⟨h.1,fun hb=>?_⟩;obtain⟨rfl,h2,h3⟩:=h.2 hb;refine⟨rfl,fun i' r' hi hr' p hp=>?_,fun _ _ _ _ h=>absurd h (Nat.not_lt_zero _)⟩;rcases Nat.lt_or_ge i' i with hlt|hge
 · exact h2 _ _ hlt hr' p hp
 have e:i'=i:=by omega
 subst e;obtain⟨j',hj',rfl⟩:=List.getElem_of_mem hp;have e:r'=r:=Option.some.inj (hr'.symm.trans hr);subst e;exact h3 _ hr j' _ (by omega) (List.getElem?_eq_getElem hj')
theorem Pass.done {l:List GR} {o0 o:List Nat} {i j:Nat} (h:Pass l o0 o false i j) (hi:l.length≤i):o=o0∧∀ r∈l,∀ p∈r.body,metB l o r p:=by
 obtain⟨rfl,h2,_⟩:=h.2 rfl;refine⟨rfl,fun r hr p hp=>?_⟩;obtain⟨k,hk,rfl⟩:=List.getElem_of_mem hr;exact h2 k _ (by omega) (List.getElem?_eq_getElem hk) p hp
/-! ### Maps of names to numbers -/
def MapN (w:World) (B n:Nat) (f:ByteArray→Option Nat):Prop :=
 ∃ D : DataW Unit,w.ownsMap Tryz.prog 9 (plainElem Tryz.prog 3) B n D∧Maps.size D=n ∧
   ∀ s:ByteArray,Maps.has D (.string s.data.toList)=(f s).isSome∧D.atKey (.string s.data.toList) (.lit (.int .i64 0))=.lit (.int .i64 (((f s).getD 0:Nat):Int))
theorem jlp:Go.Maps.Keyed Tryz.prog 9:=Go.Maps.string_keyed Tryz.underlying9
theorem jsl (w:World):(zeroValue 3).run Tryz.prog w=.ok (.int .i64 0) w:=by kernel_rfl
theorem MapN.made (w:World):MapN (w.alloc (.map #[] 0)) w.heap.size 0 (fun _=>none) :=
 ⟨.map [],World.ownsMap_made _ _ _ _,rfl,fun _=>⟨rfl,rfl⟩⟩
theorem MapN.alloc {w:World} {B n:Nat} {f:ByteArray→Option Nat} (h:MapN w B n f) (o:Obj):MapN (w.alloc o) B n f:=by
 obtain⟨D,h1,h2⟩:=h;exact⟨D,h1.alloc o,h2⟩
theorem MapN.lt {w:World} {B n:Nat} {f:ByteArray→Option Nat} (h:MapN w B n f):B<w.heap.size:=by
 obtain⟨D,h1,h2⟩:=h;exact h1.lt
theorem MapN.drew {w:World} {B n:Nat} {f:ByteArray→Option Nat} (h:MapN w B n f):MapN w.drew B n f:=h
theorem MapN.setCell {w:World} {B n:Nat} {f:ByteArray→Option Nat} (h:MapN w B n f) {a:Addr} (ha:B≠a.block) (u:Value):MapN (w.setCell a u) B n f:=by
 obtain⟨D,h1,h2⟩:=h;exact⟨D,h1.setCell ha u,h2⟩
theorem MapN.ext {w w':World} {B n:Nat} {f:ByteArray→Option Nat} (h:MapN w B n f) (hx:w'.heap[B]? = w.heap[B]?):MapN w' B n f:=by
 obtain⟨D,⟨es,clock,hb,r⟩,h2⟩:=h;exact⟨D,⟨es,clock,by rw[hx];exact hb,r⟩,h2⟩
theorem MapN.same {w:World} {B n:Nat} {f g:ByteArray→Option Nat} (h:MapN w B n f) (e:∀ x,f x=g x):MapN w B n g:=by
 rwa [show g=f from funext fun x=>(e x).symm]
theorem j0n {s x:ByteArray} (h:x≠s):Lit.string x.data.toList≠Lit.string s.data.toList:=fun e=>by
 injection e with e
 exact h (by cases x;cases s;simpa using Array.toList_inj.1 e)
theorem MapN.put {w w':World} {B n m v:Nat} {f:ByteArray→Option Nat} {s:ByteArray} {D:DataW Unit} (h:w.ownsMap Tryz.prog 9 (plainElem Tryz.prog 3) B n D) (hz:Maps.size D=n) (hf:∀ s:ByteArray,Maps.has D (.string s.data.toList)=(f s).isSome∧D.atKey (.string s.data.toList) (.lit (.int .i64 0))=.lit (.int .i64 (((f s).getD 0:Nat):Int)))
  (h1:w'.ownsMap Tryz.prog 9 (plainElem Tryz.prog 3) B m (D.put (.string s.data.toList) (.lit (.int .i64 ((v:Nat):Int))))):MapN w' B (if (f s).isSome then n else n+1) (fun x=>if x=s then some v else f x):=by
 have hsz:Maps.size (D.put (.string s.data.toList) (.lit (.int .i64 ((v:Nat):Int))))=if (f s).isSome then n else n+1:=by
  rw[Maps.size_put (h.tidy jlp),(hf s).1,hz]
 have h2:w'.ownsMap Tryz.prog 9 (plainElem Tryz.prog 3) B (if (f s).isSome then n else n+1) (D.put (.string s.data.toList) (.lit (.int .i64 ((v:Nat):Int)))):=by
  obtain⟨es,clock,hb,F,hs,e⟩:=h1;refine⟨es,clock,hb,F,?_,e⟩;rw[← hsz,e];simp[Maps.size,length_sorted]
 refine⟨_,h2,hsz,fun x=>?_⟩;by_cases e:x=s
 · subst e
   dsimp only;rw[Maps.has_put_same h.isMap (by exact trivial),Maps.atKey_put_same h.isMap (by exact trivial),if_pos rfl];exact⟨rfl,rfl⟩
 dsimp only;rw[Maps.has_put_other (j0n e),Maps.atKey_put_other (j0n e),if_neg e];exact hf x
section
variable (w:World) {ops:Array Oper} {rest:List Oper} {o:Oper} {a:Act} {Q:Exit→Act→World→Prop}
theorem jg3 (hg:o.guard=none) (m x:Operand) (hop:o.op=Op.lookup 116 m x true) (B n:Nat) (f:ByteArray→Option Nat) (hm:a.eval m=.map (some B)) (hown:MapN w B n f) (s:ByteArray) (hx:a.eval x=.string s) (hs:s.size≤maxLen)
  (hK:wpList Tryz.prog ops Q rest (a.put o.dst (.tuple #[.int .i64 (((f s).getD 0:Nat):Int),.bool (f s).isSome])) w):wpList Tryz.prog ops Q (o :: rest) a w:=by
 obtain⟨D,h1,h2,h3⟩:=hown;refine wpList_lookup_own_ok_int w hg m x _ hop 9 3 .i64 jlp Tryz.underlying116 Tryz.underlying3 (jsl _) B n D hm h1 _ _ hx (Go.WideMaps.keyOf_string_mk Tryz.underlying9 hs) ?_;intro c hat hwc;have h4:=(h3 s).2.symm.trans hat
 have h5:c=(((f s).getD 0:Nat):Int):=by
  injection h4 with h4;injection h4 with _ h4;exact h4.symm
 rw[(h3 s).1,h5];exact hK
theorem jfq (hg:o.guard=none) (m x:Operand) (hop:o.op=Op.lookup 116 m x false) (B n:Nat) (f:ByteArray→Option Nat) (hm:a.eval m=.map (some B)) (hown:MapN w B n f) (s:ByteArray) (hx:a.eval x=.string s) (hs:s.size≤maxLen)
  (hK:wpList Tryz.prog ops Q rest (a.put o.dst (.int .i64 (((f s).getD 0:Nat):Int))) w):wpList Tryz.prog ops Q (o :: rest) a w:=by
 obtain⟨D,h1,h2,h3⟩:=hown;refine wpList_lookup_own_int w hg m x _ hop 9 3 .i64 jlp Tryz.underlying116 Tryz.underlying3 (jsl _) B n D hm h1 _ _ hx (Go.WideMaps.keyOf_string_mk Tryz.underlying9 hs) ?_;intro c hat hwc;have h4:=(h3 s).2.symm.trans hat
 have h5:c=(((f s).getD 0:Nat):Int):=by
  injection h4 with h4;injection h4 with _ h4;exact h4.symm
 rw[h5];exact hK
theorem jef (hg:o.guard=none) (m x v:Operand) (hop:o.op=Op.mapUpdate 116 m x v) (B n:Nat) (f:ByteArray→Option Nat) (hm:a.eval m=.map (some B)) (hown:MapN w B n f) (hn:n≤1000000) (s:ByteArray) (hx:a.eval x=.string s) (hs:s.size≤maxLen) (k:Nat) (hv:a.eval v=.int .i64 ((k:Nat):Int)) (hk:k≤1000000)
  (hK:∀ w',MapN w' B (if (f s).isSome then n else n+1) (fun x=>if x=s then some k else f x)→w.grownBy w' (some B)→wpList Tryz.prog ops Q rest (a.put o.dst undef) w'):wpList Tryz.prog ops Q (o :: rest) a w:=by
 obtain⟨D,h1,h2,h3⟩:=hown;refine wpList_mapUpdate_own w hg m x v _ hop 9 3 jlp Tryz.underlying116 _ B n D hm h1 (by unfold maxLen;omega) _ _ _ hx hv (Go.WideMaps.keyOf_string_mk Tryz.underlying9 hs) _ [] (plainElem_int Tryz.underlying3 (WalkArith.wf_i64 (by omega))) ?_;intro w' h4 h5;exact hK w' (MapN.put h1 h2 h3 h4) h5
theorem jbr (hg:o.guard=none) (m:Operand) (hop:o.op=Op.call { callee:=Callee.builtin Builtin.len,args:= #[m],argTypes:= #[116] }) (B n:Nat) (f:ByteArray→Option Nat) (hm:a.eval m=.map (some B)) (hown:MapN w B n f)
  (hK:wpList Tryz.prog ops Q rest (a.put o.dst (.int .i64 ((n:Nat):Int))) w):wpList Tryz.prog ops Q (o :: rest) a w:=by
 obtain⟨D,h1,h2,h3⟩:=hown;refine wpList_len_own w hg m _ hop 9 3 Tryz.underlying116 _ B n D hm h1 ?_;rw[h2];exact hK
end
end Go.Proofs.YthdojieomhighaaGreatDoor
namespace Go.Proofs.YthdojieomhighaaGreatDoor
open Go.RowKit
theorem jvi (t:GT) (w:World) :
  Calls Tryz.prog 204 #[.agg #[.bool t.v,.string t.n]] w fun e w'=>e=.returned (.agg #[.bool t.v,.string t.n])∧Ext w w':=by
 go_enter Tryz.func204,Tryz.ntmps204;go_wp2;exact bodyPost_ret (v:=.agg #[.bool t.v,.string t.n]) (by simp[results,Tryz.results204,go_sem]) rfl ⟨rfl,(((Ext.refl _).alloc _).alloc _).alloc _⟩
theorem jgb:(Tryz.prog.info? 60).map (fun i=>(i.zero,i.size,i.bytes))=some (some (.agg #[.bool false,.string ByteArray.empty]),2,24):=by kernel_rfl
theorem jdy:(Tryz.prog.info? 43).map (fun i=>(i.zero,i.size,i.bytes))=some (some (.agg #[.string ByteArray.empty,.slice none 0 0]),2,40):=by kernel_rfl
theorem jnf (a:GA) (v:Value) (w:World) {S:Nat→Prop} (hv:jae S w v a.args) (hn:a.args.length≤4194304) :
  Calls Tryz.prog 126 #[.agg #[.string a.n,v]] w fun e w'=>(∃ v',e=.returned (.agg #[.string a.n,v'])∧jae (From w.heap.size) w' v' a.args)∧Ext w w':=by
 obtain⟨A,c,rfl,hc1,hc2⟩:=jaa.form hv;obtain⟨i0,hi0,hz0,hz1,hz2⟩:=info_parts jgb;have HV:=zh (hv.ext (((Ext.refl w).alloc (.cells #[.string a.n,.slice A a.args.length c] 43)).alloc (.cells #[.string ⟨#[]⟩,.slice none 0 0] 43)));have HB:=zh (Blk.new w 43 #[.string a.n,.slice A a.args.length c]);have HB2:=zh (Blk.new (w.alloc (.cells #[.string a.n,.slice A a.args.length c] 43)) 43 #[.string ⟨#[]⟩,.slice none 0 0]);simp only[World.size_alloc] at HB2;clear hv
 go_enter Tryz.func126,Tryz.ntmps126;go_wp2
 go_region_held3 (fun w'=>w'.cell? ⟨w.heap.size,0,none⟩=some (.string a.n)∧w'.cell? ⟨w.heap.size,1,none⟩=some (.slice A a.args.length c))
  (first|go_keep|exact⟨hb1.cell 0,hb1.cell 1⟩)
  ((refine jdd (k:=kTerm) (S:=None) (T:=None) (base:=w.heap.size+2) (by rfl) (.tmp 5) (.tmp 7) 41 (by rfl) i0 _ 24 Tryz.underlying41 hi0 hz0 hz1 hz2 (by rfl) (by rfl) (by first|exact OwnK.empty (by simp) (by omega)|exact (OwnK.empty (by simp) (by omega)).drew) A a.args.length c (by rfl) (by first|exact (ListK.elems (k:=kTerm) (S:=S) HV.out).ext ((Ext.refl _).drew.alloc _)|exact (ListK.elems (k:=kTerm) (S:=S) HV.out).ext ((Ext.refl _).alloc _).drew) (fun _ h _=>h) (fun _ _ h=>h) (maxOf (by simp;omega)) (by simp;omega) (by go_size) ?_;intro v1 w1 hap;obtain⟨A1,c1,rfl,hd1,hd2⟩:=hap.own.form;have hb1:=(HB.out.ext (by repeat (first|exact Ext.refl _|apply Ext.drew|apply Ext.alloc))).below hap.below (by omega);have hb2:=(HB2.out.ext (by repeat (first|exact Ext.refl _|apply Ext.drew|apply Ext.alloc))).below hap.below (by omega);have q0:=hb2.cell 0;have q1:=hb2.cell 1;have f0:=hb2.frozen 0;have f1:=hb2.frozen 1;have hl:=hb2.lt))
 go_wp2;simp only[List.nil_append] at hap;refine bodyPost_ret (v:=.agg #[.string a.n,.slice A1 a.args.length c1]) (by simp[results,Tryz.results126,go_sem,q0,q1]) rfl ⟨⟨_,rfl,?_⟩,?_⟩
 · have h1:=hap.own.list (S':=From (w.heap.size+2)) (fun _ h=>h.elim) (fun _ h=>h)
   exact jae.imp (S:=From (w.heap.size+2)) (w:=w1) h1 (jdi (by omega)) (((Agree.refl _ _).setCell (by simp) _).setCell (by simp) _) (by go_size)
 exact Ext.setNew (a:=w) (Ext.setNew (hap.toExt (by repeat (first|exact Ext.refl _|apply Ext.drew|apply Ext.alloc)) (by omega)) (by simp) _) (by simp) _
def lessA (xs ys:List GA):List GA:=xs.filter fun x=> !hasA ys x
theorem jng {xs ys:List GA} {k:Nat} {x:GA} (h:xs[k]? = some x):lessA (xs.take (k+1)) ys=lessA (xs.take k) ys++if hasA ys x=true then [] else [x]:=by
 obtain⟨hk,rfl⟩:=List.getElem?_eq_some_iff.1 h;unfold lessA;rw[List.take_succ_eq_append_getElem hk,List.filter_append]
 congr 1
 cases h:hasA ys xs[k]<;>simp[h]
theorem jib (xs ys:List GA):(lessA xs ys).length≤xs.length:=List.length_filter_le _ _
theorem jvj (l:List GT):l.length≤jbt l:=Nat.le_add_right _ _
theorem jvk (l:List GA):l.length≤jb1 l:=Nat.le_add_right _ _
theorem ji8 (a:GA):a.args.length≤wAtom a:=Nat.le_trans (jvj _) (Nat.le_add_left _ _)
theorem jvl (v u:Value) (xs ys:List GA) (w:World) {S T:Nat→Prop} (hv:jac S w v xs) (hu:jac T w u ys) (hn:jb1 xs≤4194304) :
  Calls Tryz.prog 154 #[v,u] w fun e w'=>(∃ v',e=.returned v'∧jac (From w.heap.size) w' v' (lessA xs ys)∧OwnK kAtom w.heap.size 43 (From w.heap.size) w' v' (lessA xs ys))∧Ext w w':=by
 obtain⟨A,c,rfl,hc1,hc2⟩:=jaa.form hv;obtain⟨B,d,rfl,hd1,hd2⟩:=jaa.form hu;obtain⟨i0,hi0,hz0,hz1,hz2⟩:=info_parts jdy;have HV:=zh hv;have HU:=zh hu;have HN:=zh hn;have hlen:xs.length≤4194304:=Nat.le_trans (jvk _) hn;clear hv hu hn
 go_enter Tryz.func154,Tryz.ntmps154;go_wp2;go_loopw [5,6] (fun v i wr=>∃ k:Nat,k≤xs.length∧i=.int .i64 k∧Hid (OwnK kAtom w.heap.size 43 (From w.heap.size) wr v (lessA (xs.take k) ys))∧Ext w wr) (fun _ i _=>xs.length-(intOf i).toNat)
 case atStart=>exact⟨0,Nat.zero_le _,rfl,OwnK.empty rfl (Nat.le_refl _),(Ext.refl _).alloc _⟩
 case round =>
  obtain⟨k,hk,rfl,ho,hx⟩:=hrel;obtain⟨A0,c0,rfl,ha0,hb0⟩:=ho.out.form;have hlk:=jib (xs.take k) ys;rw[List.length_take,Nat.min_eq_left hk] at hlk;have hsz:=hx.size;by_cases hlt:k<xs.length
  · obtain ⟨b,off,x,v1,rfl,hb,hxk,hxs,ht,hc0,hc1⟩:=jac.at_ (HV.out.ext hx) hlt
    obtain⟨A1,c1,rfl,ha1,hb1⟩:=jaa.form ht;have HX:=zh (show x.args.length≤4194304 from Nat.le_trans (Nat.le_trans (ji8 x) (jm5 (List.mem_of_getElem? hxk))) HN.out);have HT:=zh ht;cases hh:hasA ys x
    · have HK:=zh (show lessA (xs.take (k+1)) ys=lessA (xs.take k) ys++[x] from by rw[jng hxk,hh];rfl)
      have H2:=zh hh;clear hxk hh ht
      go_wp2_with (first
       | (go_at_call 101;refine ((jai (jeb _ _ ys x _ (HU.out.ext hx) HT.out)).2 H2.out).mono ?_;rintro e w1 ⟨rfl,hx1⟩;obtain⟨hcc,hcf⟩:=hx1.cells)
       | (go_at_call 126;refine (jnf x _ _ (HT.out.ext hx1) HX.out).mono ?_;rintro e w2 ⟨⟨v2,rfl,ht2⟩,hx2⟩;obtain⟨A2,c2,rfl,ha2,hb2⟩:=jaa.form ht2;have HT2:=zh ht2;clear ht2)
       | (at_builtin;refine jcn (k:=kAtom) (T:=From w1.heap.size) rfl (.tmp 21) (.tmp 27) 30 (by rfl) i0 _ 40 Tryz.underlying30 hi0 hz0 hz1 hz2 (by rfl) (by rfl) ((ho.out.ext (hx1.trans' hx2)).ext ((Ext.refl _).alloc _)) _ 1 1 (by rfl) (jas.one (k:=kAtom) (x:=x) (Blk.new _ _ _) ⟨_,rfl,hxs,HT2.out.ext ((Ext.refl _).alloc _)⟩) (fun _ hb _=>Nat.le_trans (hx.trans' hx1).size hb) (fun g hg hT=>absurd (Nat.lt_of_lt_of_le (ho.out.at_ g hg).2 hx1.size) (Nat.not_lt.2 hT)) (maxOf (by omega)) (by omega) (Nat.le_trans ((hx.trans' hx1).trans' hx2).size (by go_size)) ?_;intro v3 w3 hap))
      go_roundw
      case rel=>exact⟨k+1,by omega,by go_num,zh (by rw[HK.out];exact hap.own),hap.toExt (((hx.trans' hx1).trans' hx2).alloc _) (Nat.le_refl _)⟩
      case measure=>simp[intOf];omega
    have HK:=zh (show lessA (xs.take (k+1)) ys=lessA (xs.take k) ys from by rw[jng hxk,hh];simp);have H2:=zh hh;clear hxk hh ht;go_wp2_with (go_at_call 101;refine ((jai (jeb _ _ ys x _ (HU.out.ext hx) HT.out)).1 H2.out).mono ?_;rintro e w1 ⟨rfl,hx1⟩)
    go_roundw
    case rel=>exact⟨k+1,by omega,by go_num,zh (by rw[HK.out];exact ho.out.ext hx1),hx.trans' hx1⟩
    case measure=>simp[intOf];omega
  have HK:=zh (show xs.take k=xs from List.take_of_length_le (by omega));go_wp2;go_ret;have h1:=ho.out.list (S':=From w.heap.size) (fun _ h=>h) (fun _ h=>h);have h2:=ho.out;rw[HK.out] at h1 h2;exact⟨⟨_,rfl,(by rw[HK.out];exact h1),(by rw[HK.out];exact h2)⟩,hx⟩
def putA (xs:List GA) (a:GA):List GA:=if hasA xs a=true then xs else xs.take (jbb xs a)++[a]++xs.drop (jbb xs a)
theorem jgc (xs:List GA) (a:GA):jbb xs a≤xs.length:=by unfold jbb;exact (List.takeWhile_sublist _).length_le
end Go.Proofs.YthdojieomhighaaGreatDoor
