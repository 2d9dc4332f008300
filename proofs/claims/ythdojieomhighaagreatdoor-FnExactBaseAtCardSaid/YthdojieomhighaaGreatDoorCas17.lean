/- Own texts, joined. -/
import Derived.Test.YthdojieomhighaaGreatDoorCas16
import Derived.Test.YthdojieomhighaaGreatDoorCas11
import Derived.BigQuiet
import Derived.Deep.QuietTactic
set_option linter.unusedSimpArgs false
set_option linter.unusedVariables false
set_option maxHeartbeats 4000000
set_option maxRecDepth 100000
namespace Go.Proofs.YthdojieomhighaaGreatDoor
open Go.RowKit
/-! ### What the reference holds -/
def Facts (l:List GA):Prop:=∀ a∈l,factB a=true
theorem jg0 {l:List GA} (hl:Facts l) (ha:Asc l) {a:GA} (hf:factB a=true):hasA l a=true↔a∈l:=by
 rw[jqk ha]
 constructor
 · rintro ⟨y,hy,h⟩;rw[← (jo1 (hl y hy) hf).1 h];exact hy
 intro h;exact⟨a,h,(jo1 hf hf).2 rfl⟩
theorem jx0 {α:Type} {l m:List α} (h:l.Nodup) (k:∀ x∈l,x∈m):l.length≤m.length:=by
 classical
 exact jed l m h k
theorem jrf {α:Type} {p:α→Bool}:∀ {l:List α} {x:α},x∈l.takeWhile p→p x=true
 | [],x,h=>by simp at h
 | y :: l,x,h=>by
   rw[List.takeWhile_cons] at h;split at h
   · rename_i hy
     rcases List.mem_cons.1 h with rfl|h
     · exact hy
     exact jrf h
   cases h
theorem jv3 {l:List GA} {a:GA}:∀ x∈l.take (jbb l a),cmpA x a<0:=by
 intro x hx
 have e:l.take (jbb l a)=l.takeWhile fun x=>ltA x a:=by
  unfold jbb;exact (List.prefix_iff_eq_take.1 (List.takeWhile_prefix _)).symm
 rw[e] at hx;exact of_decide_eq_true (jrf (p:=fun x=>ltA x a) hx)
theorem jv4 {l:List GA} {a:GA} (hl:Asc l) (hn:¬ hasA l a=true):∀ x∈l.drop (jbb l a),cmpA a x<0:=by
 induction l with
 | nil=>intro x hx;simp at hx
 | cons y m ih =>
   have h1:=List.pairwise_cons.1 hl;by_cases hlt:cmpA y a<0
   · have hp:jbb (y :: m) a=jbb m a+1:=by
       unfold jbb;rw[List.takeWhile_cons,if_pos (show ltA y a=true from decide_eq_true hlt)];rfl
     rw[jkc hlt] at hn;rw[hp,List.drop_succ_cons];exact ih h1.2 hn
   have hp:jbb (y :: m) a=0:=by
     unfold jbb;rw[List.takeWhile_cons,if_neg (by unfold ltA;simp;omega)];rfl
   rw[jkd hlt] at hn;rw[hp,List.drop_zero];have h0:cmpA y a≠0:=by simpa using hn
   have hya:cmpA a y<0:=by
    have:=jfn y a;omega
   intro x hx;rcases List.mem_cons.1 hx with rfl|hx
   · exact hya
   exact jd5 hya (h1.1 x hx)
theorem jo2 {l:List GA} (hl:Asc l) (a:GA):Asc (putA l a):=by
 unfold putA;split
 · exact hl
 rename_i hn;have h1:=jv3 (l:=l) (a:=a);have h2:=jv4 hl hn;have hs:Asc (l.take (jbb l a)++l.drop (jbb l a)):=by rw[List.take_append_drop];exact hl
 obtain⟨k1,k2,k3⟩:=List.pairwise_append.1 hs;refine List.pairwise_append.2 ⟨List.pairwise_append.2 ⟨k1,List.pairwise_singleton _ _,fun x hx y hy=>?_⟩,k2,fun x hx y hy=>?_⟩
 · simp at hy;subst hy;exact h1 x hx
 rcases List.mem_append.1 hx with hx|hx
 · exact k3 x hx y hy
 simp at hx;subst hx;exact h2 y hy
theorem jk5 {l:List GA} (hl:Facts l) (ha:Asc l) {a x:GA} (hf:factB a=true):x∈putA l a↔x∈l∨x=a:=by
 unfold putA;split
 · rename_i h
   exact⟨.inl,fun h2=>h2.elim id (fun e=>e▸(jg0 hl ha hf).1 h)⟩
 simp only[List.mem_append,List.mem_singleton];have:x∈l↔x∈l.take (jbb l a)∨x∈l.drop (jbb l a):=by rw[← List.mem_append,List.take_append_drop]
 rw[this]
 constructor
 · rintro ((h|h)|h)
   · exact .inl (.inl h)
   · exact .inr h
   exact .inl (.inr h)
 rintro ((h|h)|h)
 · exact .inl (.inl h)
 · exact .inr h
 exact .inl (.inr h)
theorem jjl {l:List GA} (hl:Facts l) (ha:Asc l) {a:GA} (hf:factB a=true):Facts (putA l a):=fun x hx=>by
 rcases (jk5 hl ha hf).1 hx with h|h
 · exact hl x h
 exact h▸hf
theorem jma {α β:Type} {l:List α} {m:List β} (h:m.length=l.length) {a:α}:a∈l↔∃ n,(a,n)∈l.zip m:=by
 have e:(l.zip m).map Prod.fst=l:=List.map_fst_zip (by omega)
 constructor
 · intro ha
   rw[← e] at ha;obtain⟨⟨x,n⟩,hx,rfl⟩:=List.mem_map.1 ha;exact⟨n,hx⟩
 rintro ⟨n,hn⟩;rw[← e];exact List.mem_map.2 ⟨(a,n),hn,rfl⟩
structure RL.Good (r:RL):Prop where
 rl:r.round.length=r.list.length
 ff:Facts r.list
 asc:Asc r.list
theorem RL.Good.put {r:RL} (h:r.Good) (n:Nat) {a:GA} (hf:factB a=true):(r.put n a).Good∧(∀ x,x∈(r.put n a).list↔x∈r.list∨x=a)∧∀ x m,(x,m)∈(r.put n a).list.zip (r.put n a).round↔(x,m)∈r.list.zip r.round∨(x=a∧m=n∧a ∉ r.list):=by
 have hl:=RL.put_round (n:=n) (a:=a) h.rl;unfold RL.put at hl ⊢;split
 · rename_i hh
   have hm:=(jg0 h.ff h.asc hf).1 hh;exact⟨h,fun x=>⟨.inl,fun k=>k.elim id (fun e=>e▸hm)⟩,fun x m=>⟨.inl,fun k=>k.elim id (fun e=>absurd hm e.2.2)⟩⟩
 rename_i hh;have hm:a ∉ r.list:=fun k=>hh ((jg0 h.ff h.asc hf).2 k)
 rw[if_neg hh] at hl;refine⟨⟨hl,jjl h.ff h.asc hf,jo2 h.asc a⟩,fun x=>jk5 h.ff h.asc hf,fun x m=>?_⟩;have hk:=jgc r.list a;have e1:putA r.list a=r.list.take (jbb r.list a)++[a]++r.list.drop (jbb r.list a):=by unfold putA;rw[if_neg hh]
 have e2:(putA r.list a).zip (r.round.take (jbb r.list a)++[n]++r.round.drop (jbb r.list a))=(r.list.take (jbb r.list a)).zip (r.round.take (jbb r.list a))++[(a,n)]++(r.list.drop (jbb r.list a)).zip (r.round.drop (jbb r.list a)):=by
  have hrl:=h.rl;rw[e1,List.zip_append (by simp[hrl]),List.zip_append (by simp[hrl])];rfl
 have e3:r.list.zip r.round=(r.list.take (jbb r.list a)).zip (r.round.take (jbb r.list a))++(r.list.drop (jbb r.list a)).zip (r.round.drop (jbb r.list a)):=by
  have hrl:=h.rl;rw[← List.zip_append (by simp[hrl]),List.take_append_drop,List.take_append_drop]
 show (x,m)∈(putA r.list a).zip _↔_;rw[e2,e3];simp only[List.mem_append,List.mem_singleton,Prod.mk.injEq]
 constructor
 · rintro ((h1|h1)|h1)
   · exact .inl (.inl h1)
   · exact .inr ⟨h1.1,h1.2,hm⟩
   exact .inl (.inr h1)
 rintro ((h1|h1)|h1)
 · exact .inl (.inl h1)
 · exact .inr h1
 exact .inl (.inr ⟨h1.1,h1.2.1⟩)
theorem RL.Good.puts (n:Nat):∀ {l:List GA} {r:RL},r.Good→Facts l→(r.puts n l).Good∧(∀ x,x∈(r.puts n l).list↔x∈r.list∨x∈l)∧∀ x m,(x,m)∈(r.puts n l).list.zip (r.puts n l).round↔(x,m)∈r.list.zip r.round∨(m=n∧x∈l∧x ∉ r.list)
 | [],r,h,_=>⟨h,fun x=>by show x∈r.list↔_;simp,fun x m=>by show (x,m)∈r.list.zip r.round↔_;simp⟩
 | a :: l,r,h,hl=>by
   obtain⟨k1,k2,k3⟩:=h.put n (hl a List.mem_cons_self);obtain⟨m1,m2,m3⟩:=RL.Good.puts n k1 (fun x hx=>hl x (List.mem_cons_of_mem _ hx));refine⟨m1,fun x=>?_,fun x m=>?_⟩
   · show x∈((r.put n a).puts n l).list↔_
     rw[m2,k2,List.mem_cons]
     constructor
     · rintro ((h|h)|h)
       · exact .inl h
       · exact .inr (.inl h)
       exact .inr (.inr h)
     rintro (h|h|h)
     · exact .inl (.inl h)
     · exact .inl (.inr h)
     exact .inr h
   show (x,m)∈((r.put n a).puts n l).list.zip ((r.put n a).puts n l).round↔_;rw[m3,k3,k2,List.mem_cons]
   constructor
   · rintro ((h|⟨h1,h2,h3⟩)|⟨h1,h2,h3⟩)
     · exact .inl h
     · exact .inr ⟨h2,.inl h1,h1▸h3⟩
     exact .inr ⟨h1,.inr h2,fun h=>h3 (.inl h)⟩
   rintro (h|⟨h1,h2,h3⟩)
   · exact .inl (.inl h)
   by_cases e:x=a
   · exact .inl (.inr ⟨e,h1,e▸h3⟩)
   exact .inr ⟨h1,h2.resolve_left e,fun h=>h.elim h3 e⟩
theorem RL.puts_same (n:Nat):∀ {l:List GA} {r:RL},r.Good→Facts l→(∀ a∈l,a∈r.list)→r.puts n l=r
 | [],r,_,_,_=>rfl
 | a :: l,r,h,hl,hm=>by
   have e:r.put n a=r:=by
    unfold RL.put;rw[if_pos ((jg0 h.ff h.asc (hl a List.mem_cons_self)).2 (hm a List.mem_cons_self))]
   show (r.put n a).puts n l=r;rw[e];exact RL.puts_same n h (fun x hx=>hl x (List.mem_cons_of_mem _ hx)) (fun x hx=>hm x (List.mem_cons_of_mem _ hx))
/-! ### What follows at once, of a level -/
def ownR (rules:List GR) (levels:List Nat) (k:Nat):List GR:=(rules.zipIdx.filter fun x=>decide (at0 levels x.2=k)).map (·.1)
theorem jut {head:GA} {P:GA→Prop}:∀ {bs:List LB} {out:List GA},Facts out→Asc out→(∀ b∈bs,factB (fillN head b)=true) →
  Facts (bs.foldl (fun o b=>putA o (fillN head b)) out)∧Asc (bs.foldl (fun o b=>putA o (fillN head b)) out)∧∀ x,x∈bs.foldl (fun o b=>putA o (fillN head b)) out↔x∈out∨∃ b∈bs,fillN head b=x
 | [],out,h1,h2,_=>⟨h1,h2,fun x=>by simp⟩
 | b :: bs,out,h1,h2,h3=>by
   have hb:=h3 b List.mem_cons_self;obtain⟨k1,k2,k3⟩:=jut (P:=P) (jjl h1 h2 hb) (jo2 h2 (fillN head b)) (fun c hc=>h3 c (List.mem_cons_of_mem _ hc));refine⟨k1,k2,fun x=>?_⟩;rw[List.foldl_cons,k3,jk5 h1 h2 hb]
   constructor
   · rintro ((h|h)|⟨c,hc,h⟩)
     · exact .inl h
     · exact .inr ⟨b,List.mem_cons_self,h.symm⟩
     exact .inr ⟨c,List.mem_cons_of_mem _ hc,h⟩
   rintro (h|⟨c,hc,h⟩)
   · exact .inl (.inl h)
   rcases List.mem_cons.1 hc with rfl|hc
   · exact .inl (.inr h.symm)
   exact .inr ⟨c,hc,h⟩
theorem jrg {levels:List Nat} {level:Nat} {list:List GA} (hf:Facts list) (ha:Asc list):∀ {zs:List (GR × Nat)} {out:List GA},(∀ z∈zs,Fine z.1)→Facts out→Asc out →
  Facts (zs.foldl (jbk levels level list) out)∧Asc (zs.foldl (jbk levels level list) out)∧∀ x,x∈zs.foldl (jbk levels level list) out↔x∈out∨∃ z∈zs,at0 levels z.2=level∧Cons list z.1 x
 | [],out,_,h1,h2=>⟨h1,h2,fun x=>by simp⟩
 | z :: zs,out,hz,h1,h2=>by
   have hr:=hz z List.mem_cons_self
   have key:Facts (jbk levels level list out z)∧Asc (jbk levels level list out z)∧∀ x,x∈jbk levels level list out z↔x∈out∨(at0 levels z.2=level∧Cons list z.1 x):=by
    unfold jbk;split
    · rename_i hl
      have hc:=fun x=>j0y hr.able ha hr.hvars (a:=x)
      obtain⟨k1,k2,k3⟩:=jut (head:=z.1.head) (P:=fun _=>True) (bs:=allN list z.1.body) h1 h2 (fun b hb=>jij hr hf ((hc _).1 ⟨b,hb,rfl⟩));refine⟨k1,k2,fun x=>?_⟩;rw[k3,hc];exact or_congr Iff.rfl ⟨fun h=>⟨hl,h⟩,fun h=>h.2⟩
    rename_i hl;exact⟨h1,h2,fun x=>⟨.inl,fun h=>h.elim id (fun e=>absurd e.1 hl)⟩⟩
   obtain⟨k1,k2,k3⟩:=jrg hf ha (zs:=zs) (fun q hq=>hz q (List.mem_cons_of_mem _ hq)) key.1 key.2.1;refine⟨k1,k2,fun x=>?_⟩;rw[List.foldl_cons,k3,key.2.2]
   constructor
   · rintro ((h|h)|⟨q,hq,h⟩)
     · exact .inl h
     · exact .inr ⟨z,List.mem_cons_self,h⟩
     exact .inr ⟨q,List.mem_cons_of_mem _ hq,h⟩
   rintro (h|⟨q,hq,h⟩)
   · exact .inl (.inl h)
   rcases List.mem_cons.1 hq with rfl|hq
   · exact .inl (.inr h)
   exact .inr ⟨q,hq,h⟩
theorem jzy {rules:List GR} {levels:List Nat} {level:Nat} {list:List GA} (hr:∀ r∈rules,Fine r) (hf:Facts list) (ha:Asc list) :
  Facts (onceN rules levels level list)∧∀ x,x∈onceN rules levels level list↔jek list (ownR rules levels level) x:=by
 obtain ⟨k1,_,k3⟩:=jrg (levels:=levels) (level:=level) hf ha (zs:=rules.zipIdx) (out:=[]) (fun z hz=>hr z.1 (by
  have:=List.mem_zipIdx_iff_getElem?.1 hz;exact List.mem_of_getElem? this)) (fun _ h=>by cases h) List.Pairwise.nil
 refine⟨k1,fun x=>?_⟩;unfold onceN;rw[k3];unfold jek ownR
 constructor
 · rintro (h|⟨z,hz,h1,h2⟩)
   · cases h
   exact⟨z.1,List.mem_map.2 ⟨z,List.mem_filter.2 ⟨hz,decide_eq_true h1⟩,rfl⟩,h2⟩
 rintro ⟨r,hr,h⟩;obtain⟨z,hz,rfl⟩:=List.mem_map.1 hr;obtain⟨h1,h2⟩:=List.mem_filter.1 hz;exact .inr ⟨z,h1,of_decide_eq_true h2,h⟩
theorem jx1 {rules:List GR} {levels:List Nat} {k:Nat} {r:GR} (h:r∈ownR rules levels k):r∈rules:=by
 obtain⟨z,hz,rfl⟩:=List.mem_map.1 h;exact List.mem_of_getElem? (List.mem_zipIdx_iff_getElem?.1 (List.mem_filter.1 hz).1)
/-! ### The program's levels -/
structure ST where
 facts:List GA
 rounds:List Nat
 num:Nat
def jda (fr:List GA) (r:GR):Bool:=r.body.any fun p=> !p.no && fr.any fun a=>decide (a.n=p.atom.n)
def ST.next (s:ST) (fr:List GA):ST:=⟨s.facts++fr,s.rounds++List.replicate fr.length (s.num+1),if fr.isEmpty then s.num else s.num+1⟩
def jfe (own:List GR):Nat→ST→List GR→Option ST
 | 0,s,_=>some s
 | f + 1,s,next=>if next.isEmpty then some s else match jck s.facts s.rounds next [] with
   | none=>none
   | some fr=>jfe own f (s.next fr) (own.filter (jda fr))
structure Rel (s:ST) (r:RL):Prop where
 good:r.Good
 fl:s.rounds.length=s.facts.length
 nd:s.facts.Nodup
 zip:∀ a n,(a,n)∈s.facts.zip s.rounds↔(a,n)∈r.list.zip r.round
theorem Rel.mem {s:ST} {r:RL} (h:Rel s r) (a:GA):a∈s.facts↔a∈r.list:=by
 rw[jma h.fl,jma h.good.rl];exact exists_congr fun n=>h.zip a n
theorem jrh {l:List GA} (h:Asc l):l.Nodup:=List.Pairwise.imp (fun {a b} h e=>by
 subst e;have:cmpA a a=0:=(jlk a a).2 rfl;omega) h
theorem Rel.len {s:ST} {r:RL} (h:Rel s r):s.facts.length=r.list.length:=((List.perm_ext_iff_of_nodup h.nd (jrh h.good.asc)).2 h.mem).length_eq
theorem Rel.facts {s:ST} {r:RL} (h:Rel s r):Facts s.facts:=fun a ha=>h.good.ff a ((h.mem a).1 ha)
theorem jzz {s:ST} (hl:s.rounds.length=s.facts.length) (fr:List GA) {a:GA} {n:Nat}:(a,n)∈(s.next fr).facts.zip (s.next fr).rounds↔(a,n)∈s.facts.zip s.rounds∨(n=s.num+1∧a∈fr):=by
 unfold ST.next;simp only;rw[List.zip_append hl.symm,List.mem_append];refine or_congr Iff.rfl ?_
 have key:∀ (l:List GA),(a,n)∈l.zip (List.replicate l.length (s.num+1))↔n=s.num+1∧a∈l:=by
  intro l
  induction l with
  | nil=>simp
  | cons x l ih =>
    rw[List.length_cons,List.replicate_succ,List.zip_cons_cons,List.mem_cons,ih,List.mem_cons,Prod.mk.injEq]
    constructor
    · rintro (⟨h1,h2⟩|⟨h1,h2⟩)
      · exact⟨h2,.inl h1⟩
      exact⟨h1,.inr h2⟩
    rintro ⟨h1,h2|h2⟩
    · exact .inl ⟨h2,h1⟩
    exact .inr ⟨h1,h2⟩
 exact key fr
theorem jz0 (s:ST):s.next []=s:=by unfold ST.next;simp
theorem jjm (own:List GR) (f:Nat) (s:ST):jfe own f s []=some s:=by cases f<;>rfl
theorem jmb (own:List GR):own.filter (jda [])=[]:=by
 rw[List.filter_eq_nil_iff];intro r _;simp[jda]
theorem jx2 {facts fr:List GA} {r:GR} (h:jda fr r=false) {a:GA} (hc:Cons (facts++fr) r a):Cons facts r a:=by
 obtain⟨σ,hs,e⟩:=hc;refine⟨σ,fun p hp=>?_,e⟩
 constructor
 · intro hh
   exact (hs p hp).1 (jl9 (fun a ha=>List.mem_append_left _ ha) hh)
 intro hno;obtain⟨f,hf,h1,h2⟩:=(hs p hp).2 hno;rcases List.mem_append.1 hf with hf|hf
 · exact⟨f,hf,h1,h2⟩
 have:jda fr r=true:=List.any_eq_true.2 ⟨p,hp,by rw[hno,Bool.not_false,Bool.true_and,List.any_eq_true];exact⟨f,hf,decide_eq_true h1⟩⟩;rw[h] at this;cases this
def jx3 (o:Option ST) (x:RL × Nat × Bool):Prop:=match o with
 | none=>x.2.2=false
 | some s=>x.2.2=true∧Rel s x.1∧x.2.1=s.num∧x.1.list.length≤300
theorem jjn {rules:List GR} {levels:List Nat} {level:Nat} (hr:∀ r∈rules,Fine r):∀ (f:Nat) (s:ST) (r:RL) (next:List GR),Rel s r→r.list.length≤300→302≤f+s.facts.length →
  (∀ q∈next,q∈ownR rules levels level)→(∀ q∈ownR rules levels level,q ∉ next→∀ a,Cons s.facts q a→a∈s.facts) →
  jx3 (jfe (ownR rules levels level) f s next) (jd3 rules levels level (302-r.list.length) r s.num)
 | 0,s,r,next,hR,hl,hfu,_,_=>by have:=hR.len;omega
 | f + 1,s,r,next,hR,hl,hfu,hsub,hcl=>by
   have hown:∀ q∈ownR rules levels level,Fine q:=fun q hq=>hr q (jx1 hq)
   obtain⟨o1,o2⟩:=jzy (levels:=levels) (level:=level) hr hR.good.ff hR.good.asc
   have o3:∀ x,x∈onceN rules levels level r.list↔jek s.facts (ownR rules levels level) x:=fun x=>by
    rw[o2];exact exists_congr fun q=>and_congr Iff.rfl (jv2 fun a=>(hR.mem a).symm)
   obtain⟨p1,p2,p3⟩:=hR.good.puts (s.num+1) o1;have hlen:=hR.len;rw[jlr rules levels level r s.num hl];simp only[jfe];by_cases hnx:next=[]
   · subst hnx
     have e:r.puts (s.num+1) (onceN rules levels level r.list)=r:=RL.puts_same _ hR.good o1 fun a ha=>by
      obtain⟨q,hq,hc⟩:=(o3 a).1 ha;exact (hR.mem a).1 (hcl q hq (fun h=>by cases h) a hc)
     simp only[List.isEmpty_nil,if_true,e];rw[if_neg (by omega)];exact⟨rfl,hR,rfl,hl⟩
   rw [if_neg (by cases next with
     | nil=>exact absurd rfl hnx
     | cons _ _=>simp)]
   have hrs:∀ q∈next,Fine q∧q∈ownR rules levels level:=fun q hq=>⟨hown q (hsub q hq),hsub q hq⟩
   have hN0:News s.facts (jek s.facts (ownR rules levels level)) []:=jus (by omega)
   cases hro:jck s.facts s.rounds next [] with
   | none =>
     obtain⟨fr,h1,h2,h3⟩:=jnx hR.facts hrs hN0 hro
     have hbig:300<(r.puts (s.num+1) (onceN rules levels level r.list)).list.length:=by
      have hnd:(s.facts++fr).Nodup:=List.nodup_append.2 ⟨hR.nd,h1,fun x hx y hy e=>(h2 y hy).1 (e▸hx)⟩
      have:=jx0 (m:=(r.puts (s.num+1) (onceN rules levels level r.list)).list) hnd (fun x hx=>by
       rw[p2];rcases List.mem_append.1 hx with hx|hx
       · exact .inl ((hR.mem x).1 hx)
       exact .inr ((o3 x).2 (h2 x hx).2))
      rw[List.length_append] at this;omega
     simp only;rw[if_pos hbig]
     rfl
   | some fr =>
     obtain⟨h1,_,h3⟩:=jjk hR.facts hrs hN0 hro
     have hcov:∀ x,jek s.facts (ownR rules levels level) x→x∈s.facts∨x∈fr:=fun x ⟨q,hq,hc⟩=>by
      rcases Classical.em (q∈next) with hqn|hqn
      · exact h3 x ⟨q,hqn,hc⟩
      exact .inl (hcl q hq hqn x hc)
     have hR2:Rel (s.next fr) (r.puts (s.num+1) (onceN rules levels level r.list)):=by
      refine⟨p1,by simp[ST.next,hR.fl],List.nodup_append.2 ⟨hR.nd,h1.nd,fun x hx y hy e=>h1.out y hy (e▸hx)⟩,fun a n=>?_⟩;rw[jzz hR.fl,p3,hR.zip];refine or_congr Iff.rfl (and_congr Iff.rfl ?_)
      constructor
      · intro ha;exact⟨(o3 a).2 (h1.told a ha),fun h=>h1.out a ha ((hR.mem a).2 h)⟩
      rintro ⟨ha,hn⟩;exact (hcov a ((o3 a).1 ha)).resolve_left (fun h=>hn ((hR.mem a).1 h))
     have hlen2:(r.puts (s.num+1) (onceN rules levels level r.list)).list.length=r.list.length+fr.length:=by
      rw[← hR2.len,← hlen];simp[ST.next]
     have hfit:=h1.fits;simp only;rw[if_neg (by omega)];by_cases hfr:fr=[]
     · subst hfr
       rw[if_pos (by simpa using hlen2),jmb,jjm];rw[jz0] at hR2 ⊢;have hfin:(r.puts (s.num+1) (onceN rules levels level r.list)).list.length≤300:=by rw[hlen2];simpa using hl
       exact⟨rfl,hR2,rfl,hfin⟩
     have hpos:0<fr.length:=List.length_pos_iff.2 hfr;rw[if_neg (by omega)]
     have hnum:(s.next fr).num=s.num+1:=by
      unfold ST.next
      cases fr with
      | nil=>exact absurd rfl hfr
      | cons _ _=>rfl
     have hl2:=jjn (levels:=levels) (level:=level) hr f (s.next fr) _ ((ownR rules levels level).filter (jda fr)) hR2 (by rw[hlen2];omega) (by simp[ST.next];omega) (fun q hq=>(List.mem_filter.1 hq).1) fun q hq hnq a hc=>?_
     · rw[hnum] at hl2;exact hl2
     have hnt:jda fr q=false:=by
      cases ht:jda fr q with
      | false=>rfl
      | true=>exact absurd (List.mem_filter.2 ⟨hq,ht⟩) hnq
     have h5:=jx2 hnt hc;exact List.mem_append.2 (hcov a ⟨q,hq,h5⟩)
/-! ### All levels -/
def jgj (rules:List GR) (levels:List Nat):Nat→Nat→ST→Option ST
 | 0,_,s=>some s
 | k + 1,level,s=>match jfe (ownR rules levels level) 302 s (ownR rules levels level) with
   | none=>none
   | some s'=>jgj rules levels k (level+1) s'
theorem jny {rules:List GR} {levels:List Nat} (hr:∀ r∈rules,Fine r) {L:Nat} (hlow:∀ i,i<rules.length→at0 levels i<L):∀ (k level:Nat) (s:ST) (r:RL),level+k=L→Rel s r→r.list.length≤300 →
  match jgj rules levels k level s with
  | none=>(runL rules levels (k+1) level r s.num).2=false
  | some s'=>(runL rules levels (k+1) level r s.num).2=true∧Rel s' (runL rules levels (k+1) level r s.num).1∧s'.facts.length≤300
 | 0, level,s,r,hL,hR,hl=>by
   have e:ownR rules levels level=[]:=by
    unfold ownR;rw[List.map_eq_nil_iff,List.filter_eq_nil_iff];intro z hz;have hz1:=(List.getElem?_eq_some_iff.1 (List.mem_zipIdx_iff_getElem?.1 hz)).1;have:=hlow z.2 hz1;simp;omega
   have h:=jjn (levels:=levels) (level:=level) hr 302 s r [] hR hl (by omega) (fun q hq=>by cases hq) (fun q hq=>by rw[e] at hq;cases hq);rw[e,jjm] at h;obtain⟨h1,h2,h3,h4⟩:=h;simp only[jgj,runL]
   generalize jd3 rules levels level (302-r.list.length) r s.num=x at h1 h2 h3 h4
   obtain⟨r2,n2,ok⟩:=x;simp only at h1 h2 h3 h4;subst h1;exact⟨rfl,h2,by rw[h2.len];exact h4⟩
 | k + 1,level,s,r,hL,hR,hl=>by
   have h:=jjn (levels:=levels) (level:=level) hr 302 s r (ownR rules levels level) hR hl (by omega) (fun q hq=>hq) (fun q hq hn=>absurd hq hn);rw[show runL rules levels (k+1+1) level r s.num=(match jd3 rules levels level (302-r.list.length) r s.num with|(r2,n2,ok)=>if ok then runL rules levels (k+1) (level+1) r2 n2 else (r2,false)) from rfl];simp only[jgj]
   generalize jd3 rules levels level (302-r.list.length) r s.num=x at h
   obtain⟨r2,n2,ok⟩:=x
   cases hp:jfe (ownR rules levels level) 302 s (ownR rules levels level) with
   | none =>
     rw[hp] at h;have h:ok=false:=h;subst h
     rfl
   | some s' =>
     rw[hp] at h;obtain⟨h1,h2,h3,h4⟩:=h;simp only at h1 h2 h3 h4;subst h1;subst h3;simp only[if_true];exact jny hr hlow k (level+1) s' r2 (by omega) h2 h4
theorem jri {l:List GR} {k:Nat} {x:GR} (h:l[k]? = some x):jap (l.take (k+1))=jap (l.take k)++([x.head]++x.body.map (·.atom)):=by
 obtain⟨hk,rfl⟩:=List.getElem?_eq_some_iff.1 h;unfold jap;rw[List.take_succ_eq_append_getElem hk,List.map_append,List.flatten_append];simp[jbh]
theorem jhm:∀ {l:List GR},(∀ r∈l,r.body.length≤4)→(jap l).length≤5*l.length
 | [],_=>Nat.le_refl _
 | r :: l,h=>by
   have h1:=jhm (l:=l) (fun x hx=>h x (List.mem_cons_of_mem _ hx));have h2:=h r (by simp);have e:jap (r :: l)=jbh r++jap l:=by simp[jap]
   rw[e,List.length_append];unfold jbh;simp only[List.length_cons,List.length_map];omega
theorem jmc (v:Value) (l:List GR) (w:World) {S:Nat→Prop} (hv:jal S w v l) (hl:l.length≤8) (hb:∀ r∈l,r.body.length≤4) :
  Calls Tryz.prog 268 #[v] w fun e w'=>(∃ v',e=.returned v'∧jac Any w' v' (jap l))∧Ext w w':=by
 obtain⟨A,c,rfl,hc1,hc2⟩:=jaa.form hv;obtain⟨i0,hi0,hz0,hz1,hz2⟩:=info_parts jdy;have HV:=zh (show jal (fun b=>b<w.heap.size) w (.slice A l.length c) l from ListK.sub (k:=kRule) (ListK.low (k:=kRule) hv) (fun b hb=>hb.2));have HBD:=zh hb;clear hv hb
 go_enter Tryz.func268,Tryz.ntmps268;go_wp2;go_loopw [3,4] (fun o i wr=>∃ k:Nat,k≤l.length∧i=.int .i64 k∧Hid (OwnK kAtom w.heap.size 43 (fun b=>b<w.heap.size) wr o (jap (l.take k)))∧Ext w wr) (fun _ i _=>l.length-(intOf i).toNat)
 case atStart=>exact⟨0,Nat.zero_le _,rfl,OwnK.empty rfl (Nat.le_refl _),(Ext.refl _).alloc _⟩
 case round =>
  obtain⟨k,hk,rfl,ho,hx⟩:=hrel;have hk0:(0:Int)≤(k:Int):=by omega
  have hsz:=hx.size
  have hfew:(jap (l.take k)).length≤40:=by
   have h:=jhm (l:=l.take k) (fun r hr=>HBD.out r (List.mem_of_mem_take hr));rw[List.length_take] at h;omega
  obtain⟨B,n0,d,rfl,hn0,hd1,hd2⟩:=ho.out.form2;by_cases hlt:k<l.length
  · obtain ⟨b,off,x,v1,u1,rfl,hb,hxk,hxs,ht,hu,p0,p1,p2⟩:=jal.at_ HV.out hlt
    obtain⟨C,e,rfl,he1,he2⟩:=jaa.form ht;obtain⟨D,f,rfl,hf1,hf2⟩:=jaa.form hu;have r0:=(hx.cells.1 b (off+k*3) hb).trans p0;have r1:=(hx.cells.1 b (off+k*3+1) hb).trans p1;have r2:=(hx.cells.1 b (off+k*3+2) hb).trans p2;have P2:=zh p2;clear p0 p1 p2;have hb4:=HBD.out x (List.mem_of_getElem? hxk);have HT:=zh ht;have HU:=zh hu;have HST:=zh (jri hxk);have hk1:(k:Int)<(l.length:Int):=by omega
    clear hxk ht hu
    go_wp2_with (first
     | (at_builtin;refine jcn (k:=kAtom) (S:=fun b=>b<w.heap.size) (T:=fun b=>b<w.heap.size) (base:=w.heap.size) (xs:=jap (l.take k)) (ys:=[x.head]) rfl (.tmp 13) (.tmp 19) 30 (by rfl) i0 _ 40 Tryz.underlying30 hi0 hz0 hz1 hz2 (by rfl) (by rfl) (ho.out.ext ((Ext.refl _).alloc _)) _ 1 1 (by rfl) (jas.one (k:=kAtom) (x:=x.head) (Blk.new wr 43 #[.string x.head.n,.slice C x.head.args.length e]) ⟨_,rfl,hxs,HT.out.ext (hx.alloc _)⟩) (fun b hb _=>hb) (fun g hg hT=>absurd (ho.out.at_ g hg).1 (Nat.not_le.2 hT)) (maxOf (by omega)) (by omega) (by go_size) ?_
        intro v2 w2 hap;obtain⟨B2,n2,d2,rfl,hn2,hd21,hd22⟩:=hap.own.form2;have HO2:=zh hap.own;have HX2:=zh (show Ext w w2 from hap.toExt (hx.alloc _) (Nat.le_refl _));clear hap))
    go_loopw [3,5] (fun o i wr=>∃ j:Nat,j≤x.body.length∧i=.int .i64 j∧Hid (OwnK kAtom w.heap.size 43 (fun b=>b<w.heap.size) wr o ((jap (l.take k)++[x.head])++(x.body.take j).map (·.atom)))∧Ext w wr) (fun _ i _=>x.body.length-(intOf i).toNat)
    case atStart=>exact⟨0,Nat.zero_le _,rfl,zh (by simpa using HO2.out),HX2.out⟩
    case round =>
     obtain⟨j,hj,rfl,ho,hx⟩:=hrel;have hj0:(0:Int)≤(j:Int):=by omega
     have hsz:=hx.size
     have hlen:((jap (l.take k)++[x.head])++(x.body.take j).map (·.atom)).length≤45:=by
      simp only[List.length_append,List.length_map,List.length_take,List.length_cons,List.length_nil];omega
     obtain⟨B,n0,d,rfl,hn0,hd1,hd2⟩:=ho.out.form2;have r2':=(hx.cells.1 b (off+k*3+2) hb).trans P2.out;by_cases hjt:j<x.body.length
     · obtain ⟨b',off',y,v3,rfl,hb',hyk,hys,hty,q0,q1,q2⟩:=jao.at_ HU.out hjt
       obtain⟨E,g,rfl,hg1,hg2⟩:=jaa.form hty;have s0:=(hx.cells.1 b' (off'+j*3) hb').trans q0;have s1:=(hx.cells.1 b' (off'+j*3+1) hb').trans q1;have s2:=(hx.cells.1 b' (off'+j*3+2) hb').trans q2;have HTY:=zh hty
       have HST2:=zh (show (x.body.take (j+1)).map (·.atom)=(x.body.take j).map (·.atom)++[y.atom] from by
        obtain⟨hj',rfl⟩:=List.getElem?_eq_some_iff.1 hyk;rw[List.take_succ_eq_append_getElem hj',List.map_append];rfl)
       clear hyk hty q0 q1 q2
       go_wp2_with (first
        | (at_builtin;refine jcn (k:=kAtom) (S:=fun b=>b<w.heap.size) (T:=fun b=>b<w.heap.size) (base:=w.heap.size) (xs:=(jap (l.take k)++[x.head])++(x.body.take j).map (·.atom)) (ys:=[y.atom]) rfl (.tmp 31) (.tmp 41) 30 (by rfl) i0 _ 40 Tryz.underlying30 hi0 hz0 hz1 hz2 (by rfl) (by rfl) (ho.out.ext ((Ext.refl _).alloc _)) _ 1 1 (by rfl) (jas.one (k:=kAtom) (x:=y.atom) (Blk.new _ 43 #[.string y.atom.n,.slice E y.atom.args.length g]) ⟨_,rfl,hys,HTY.out.ext (hx.alloc _)⟩) (fun b hb _=>hb) (fun g hg hT=>absurd (ho.out.at_ g hg).1 (Nat.not_le.2 hT)) (maxOf (by omega)) (by omega) (by go_size) ?_
           intro v4 w4 hap;obtain⟨B4,n4,d4,rfl,hn4,hd41,hd42⟩:=hap.own.form2;have HO4:=zh hap.own;have HX4:=zh (show Ext w w4 from hap.toExt (hx.alloc _) (Nat.le_refl _));clear hap))
       go_roundw
       case rel=>exact⟨j+1,by omega,by go_num,zh (by rw[HST2.out,← List.append_assoc];exact HO4.out),HX4.out⟩
       case measure=>simp[intOf];omega
     have HE:=zh (show (jap (l.take k)++[x.head])++(x.body.take j).map (·.atom)=jap (l.take (k+1)) from by
       rw[HST.out,List.take_of_length_le (show x.body.length≤j by omega),List.append_assoc])
     go_wp2;go_roundw
     case rel=>exact⟨k+1,by omega,by go_num,zh (by rw[← HE.out];exact ho.out),hx⟩
     case measure=>simp[intOf];omega
  have HP:=zh (show jap (l.take k)=jap l from by rw[List.take_of_length_le (by omega)]);go_wp2;go_ret;exact⟨⟨_,rfl,by rw[← HP.out];exact ho.out.list (fun _ _=>trivial) (fun _ _=>trivial)⟩,hx⟩
theorem jv5 (v:Value) (l:List GR) (w:World) {S:Nat→Prop} (hv:jal S w v l) (hl:l.length≤8) (hb:∀ r∈l,r.body.length≤4) :
  Calls Tryz.prog 235 #[v] w fun e w'=>e=.returned (.bool (argsB (jap l)))∧Ext w w':=by
 have hc:=jmc v l w hv hl hb;obtain⟨A,c,rfl,hc1,hc2⟩:=jaa.form hv;have HC:=zh hc;obtain⟨as1,has⟩:∃ as1,as1=jap l:=⟨_,rfl⟩
 have hfew:as1.length≤40:=by have:=jhm hb;rw[has];omega
 rw[← has] at HC ⊢;clear hv hc hb has
 go_enter Tryz.func235,Tryz.ntmps235;go_wp2_with (go_at_call 268;refine HC.out.mono ?_;rintro e w1 ⟨⟨v1,rfl,hv1⟩,hx1⟩;obtain⟨B,d,rfl,hd1,hd2⟩:=jaa.form hv1;have HV:=zh hv1;have HX:=zh hx1;clear hv1 hx1)
 go_loopw [4,5] (fun i _ wr=>∃ k:Nat,k≤as1.length∧i=.int .i64 k∧Hid (∀ (i j:Nat) (a b:GA),i<k→as1[i]? = some a→as1[j]? = some b→j<i→a.n=b.n→a.args.length=b.args.length)∧Ext w1 wr) (fun i _ _=>as1.length-(intOf i).toNat)
 case atStart=>exact⟨0,Nat.zero_le _,rfl,zh (fun i j a b h=>absurd h (Nat.not_lt_zero _)),Ext.refl _⟩
 case round =>
  obtain⟨k,hk,rfl,hp,hx⟩:=hrel;have hk0:(0:Int)≤(k:Int):=by omega
  by_cases hlt:k<as1.length
  · obtain ⟨b,off,x,u,rfl,hb,hxk,hxs,ht,p0,p1⟩:=jac.at_ HV.out hlt
    obtain⟨C,e,rfl,he1,he2⟩:=jaa.form ht;have HXK:=zh hxk;have hk1:(k:Int)<(as1.length:Int):=by omega
    have P0:=zh p0;have P1:=zh p1;clear hxk ht p0 p1;go_wp2;try simp only[show decide ((k:Int)<(as1.length:Int))=true from decide_eq_true hk1]
    go_loopw [5] (fun j wr=>∃ q:Nat,q≤k∧j=.int .i64 q∧Hid (∀ (j:Nat) (b:GA),j<q→as1[j]? = some b→x.n=b.n→x.args.length=b.args.length)∧Ext w1 wr) (fun j _=>k-(intOf j).toNat)
    case atStart=>exact⟨0,Nat.zero_le _,rfl,zh (fun j b h=>absurd h (Nat.not_lt_zero _)),hx⟩
    case round =>
     obtain⟨q,hq,rfl,hpq,hx⟩:=hrel;have hq0:(0:Int)≤(q:Int):=by omega
     by_cases hqt:q<k
     · obtain ⟨b',off',y,u',hA',hb',hyk,hys,hty,q0,q1⟩:=jac.at_ HV.out (k:=q) (show q<as1.length by omega)
       injection hA' with hA'
       injection hA' with e1 e2
       subst e1;subst e2;obtain⟨E,g,rfl,hg1,hg2⟩:=jaa.form hty;have hq1:(q:Int)<(as1.length:Int):=by omega
       have r0:=(hx.cells.1 b (off+k*2) hb).trans P0.out;have r1:=(hx.cells.1 b (off+k*2+1) hb).trans P1.out;have s0:=(hx.cells.1 b (off+q*2) hb').trans q0;have s1:=(hx.cells.1 b (off+q*2+1) hb').trans q1;have HYK:=zh hyk;clear hyk hty q0 q1
       have hsame:∀ (hg:x.n=y.n→x.args.length=y.args.length),∀ (j:Nat) (b:GA),j<q+1→as1[j]? = some b→x.n=b.n→x.args.length=b.args.length:=fun hg j b hj hb e=>by
        rcases Nat.lt_or_ge j q with h|h
        · exact hpq.out j b h hb e
        rw[show j=q from by omega,HYK.out] at hb;injection hb with hb;subst hb;exact hg e
       by_cases hn:x.n=y.n
       · have hn1:(x.n.toList == y.n.toList)=true:=by rw[hn];exact beq_self_eq_true _
         by_cases hlen:x.args.length=y.args.length
         · have hl1:((x.args.length:Int) == (y.args.length:Int))=true:=by rw[hlen];exact beq_self_eq_true _
           have HS:=zh (hsame (fun _=>hlen));clear hsame hn hlen;go_wp2_with fail
           go_quiet (fail)
           go_wp2;go_roundw
           case rel=>exact⟨q+1,by omega,by go_num,HS,hx.drewN _⟩
           case measure=>simp[intOf];omega
         have hl1:((x.args.length:Int) == (y.args.length:Int))=false:=by rw[beq_eq_false_iff_ne];omega
         have HF:=zh (show argsB as1=false from by
          cases h:argsB as1
          · rfl
          exact absurd ((jll as1).1 h k q x y HXK.out HYK.out hqt hn) hlen)
         clear hsame hn hlen;go_wp2_with fail
         go_quiet (fail)
         go_wp2;go_ret;exact⟨by rw[HF.out];rfl,HX.out.trans' (hx.drewN _)⟩
       have hn1:(x.n.toList == y.n.toList)=false:=jdg hn;have HS:=zh (hsame (fun h=>absurd h hn));clear hsame hn;go_wp2_with fail
       go_quiet (fail)
       go_wp2;go_roundw
       case rel=>exact⟨q+1,by omega,by go_num,HS,hx.drewN _⟩
       case measure=>simp[intOf];omega
     have HS:=zh (show ∀ (i j:Nat) (a b:GA),i<k+1→as1[i]? = some a→as1[j]? = some b→j<i→a.n=b.n→a.args.length=b.args.length from fun i j a b hi ha hb hji e=>by
       rcases Nat.lt_or_ge i k with h|h
       · exact hp.out i j a b h ha hb hji e
       have hik:i=k:=by omega
       subst hik;rw[HXK.out] at ha;injection ha with ha;subst ha
       exact hpq.out j b (by omega) hb e)
     go_wp2;go_roundw
     case rel=>exact⟨k+1,by omega,by go_num,HS,hx⟩
     case measure=>simp[intOf];omega
  have HF:=zh (show argsB as1=true from (jll as1).2 (fun i j a b ha hb hji e=>hp.out i j a b (by have:=(List.getElem?_eq_some_iff.1 ha).1;omega) ha hb hji e));go_wp2;go_ret;exact⟨by rw[HF.out];rfl,HX.out.trans' hx⟩
end Go.Proofs.YthdojieomhighaaGreatDoor
