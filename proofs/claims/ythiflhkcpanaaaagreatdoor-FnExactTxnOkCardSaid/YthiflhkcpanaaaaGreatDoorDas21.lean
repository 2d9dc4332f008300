/- Own texts, joined. -/
import Derived.Test.YthiflhkcpanaaaaGreatDoorDas20
set_option linter.unusedSimpArgs false
set_option linter.unusedVariables false
namespace Go.Proofs.YthiflhkcpanaaaaGreatDoor
open Go.RowKit
/-! ### What the reference holds -/
def Facts (l:List GA):Prop:=∀ a∈l,factB a=true
theorem jfx {l:List GA} (hl:Facts l) (ha:Asc l) {a:GA} (hf:factB a=true):hasA l a=true↔a∈l:=by
 rw[jrd ha]
 constructor
 . rintro ⟨y,hy,h⟩;rw[<- (jpw (hl y hy) hf).1 h];exact hy
 intro h;exact⟨a,h,(jpw hf hf).2 rfl⟩
theorem jzk {α:Type} {l m:List α} (h:l.Nodup) (k:∀ x∈l,x∈m):l.length<=m.length:=by
 classical
 exact jel l m h k
theorem jsb {α:Type} {p:α->Bool}:∀ {l:List α} {x:α},x∈l.takeWhile p->p x=true
 | [],x,h=>by simp at h
 | y :: l,x,h=>by
   rw[List.takeWhile_cons] at h;split at h
   . rename_i hy
     rcases List.mem_cons.1 h with rfl|h
     . exact hy
     exact jsb h
   cases h
theorem jw8 {l:List GA} {a:GA}:∀ x∈l.take (ja8 l a),cmpA x a<0:=by
 intro x hx
 have e:l.take (ja8 l a)=l.takeWhile fun x=>ltA x a:=by
  unfold ja8;exact (List.prefix_iff_eq_take.1 (List.takeWhile_prefix _)).symm
 rw[e] at hx;exact of_decide_eq_true (jsb (p:=fun x=>ltA x a) hx)
theorem jw9 {l:List GA} {a:GA} (hl:Asc l) (hn:¬ hasA l a=true):∀ x∈l.drop (ja8 l a),cmpA a x<0:=by
 induction l with
 | nil=>intro x hx;simp at hx
 | cons y m ih =>
   have h1:=List.pairwise_cons.1 hl;by_cases hlt:cmpA y a<0
   . have hp:ja8 (y :: m) a=ja8 m a+1:=by
       unfold ja8;rw[List.takeWhile_cons,if_pos (show ltA y a=true from decide_eq_true hlt)];rfl
     rw[jki hlt] at hn;rw[hp,List.drop_succ_cons];exact ih h1.2 hn
   have hp:ja8 (y :: m) a=0:=by
     unfold ja8;rw[List.takeWhile_cons,if_neg (by unfold ltA;simp;omega)];rfl
   rw[jkj hlt] at hn;rw[hp,List.drop_zero];have h0:cmpA y a≠0:=by simpa using hn
   have hya:cmpA a y<0:=by
    have:=jec y a;omega
   intro x hx;rcases List.mem_cons.1 hx with rfl|hx
   . exact hya
   exact jdw hya (h1.1 x hx)
theorem jpx {l:List GA} (hl:Asc l) (a:GA):Asc (putA l a):=by
 unfold putA;split
 . exact hl
 rename_i hn;have h1:=jw8 (l:=l) (a:=a);have h2:=jw9 hl hn;have hs:Asc (l.take (ja8 l a)++l.drop (ja8 l a)):=by rw[List.take_append_drop];exact hl
 obtain⟨k1,k2,k3⟩:=List.pairwise_append.1 hs;refine List.pairwise_append.2 ⟨List.pairwise_append.2 ⟨k1,List.pairwise_singleton _ _,fun x hx y hy=>?_⟩,k2,fun x hx y hy=>?_⟩
 . simp at hy;subst hy;exact h1 x hx
 rcases List.mem_append.1 hx with hx|hx
 . exact k3 x hx y hy
 simp at hx;subst hx;exact h2 y hy
theorem jlk {l:List GA} (hl:Facts l) (ha:Asc l) {a x:GA} (hf:factB a=true):x∈putA l a↔x∈l∨x=a:=by
 unfold putA;split
 . rename_i h
   exact⟨.inl,fun h2=>h2.elim id (fun e=>e▸(jfx hl ha hf).1 h)⟩
 simp only[List.mem_append,List.mem_singleton];have:x∈l↔x∈l.take (ja8 l a)∨x∈l.drop (ja8 l a):=by rw[<- List.mem_append,List.take_append_drop]
 rw[this]
 constructor
 . rintro ((h|h)|h)
   . exact .inl (.inl h)
   . exact .inr h
   exact .inl (.inr h)
 rintro ((h|h)|h)
 . exact .inl (.inl h)
 . exact .inr h
 exact .inl (.inr h)
theorem jjy {l:List GA} (hl:Facts l) (ha:Asc l) {a:GA} (hf:factB a=true):Facts (putA l a):=fun x hx=>by
 rcases (jlk hl ha hf).1 hx with h|h
 . exact hl x h
 exact h▸hf
theorem jms {α β:Type} {l:List α} {m:List β} (h:m.length=l.length) {a:α}:a∈l↔∃ n,(a,n)∈l.zip m:=by
 have e:(l.zip m).map Prod.fst=l:=List.map_fst_zip (by omega)
 constructor
 . intro ha
   rw[<- e] at ha;obtain⟨⟨x,n⟩,hx,rfl⟩:=List.mem_map.1 ha;exact⟨n,hx⟩
 rintro ⟨n,hn⟩;rw[<- e];exact List.mem_map.2 ⟨(a,n),hn,rfl⟩
structure RL.Good (r:RL):Prop where
 rl:r.round.length=r.list.length
 ff:Facts r.list
 asc:Asc r.list
theorem RL.Good.put {r:RL} (h:r.Good) (n:Nat) {a:GA} (hf:factB a=true):(r.put n a).Good/\(∀ x,x∈(r.put n a).list↔x∈r.list∨x=a)/\∀ x m,(x,m)∈(r.put n a).list.zip (r.put n a).round↔(x,m)∈r.list.zip r.round∨(x=a/\m=n/\a ∉ r.list):=by
 have hl:=RL.put_round (n:=n) (a:=a) h.rl;unfold RL.put at hl ⊢;split
 . rename_i hh
   have hm:=(jfx h.ff h.asc hf).1 hh;exact⟨h,fun x=>⟨.inl,fun k=>k.elim id (fun e=>e▸hm)⟩,fun x m=>⟨.inl,fun k=>k.elim id (fun e=>absurd hm e.2.2)⟩⟩
 rename_i hh;have hm:a ∉ r.list:=fun k=>hh ((jfx h.ff h.asc hf).2 k)
 rw[if_neg hh] at hl;refine⟨⟨hl,jjy h.ff h.asc hf,jpx h.asc a⟩,fun x=>jlk h.ff h.asc hf,fun x m=>?_⟩;have hk:=jgf r.list a;have e1:putA r.list a=r.list.take (ja8 r.list a)++[a]++r.list.drop (ja8 r.list a):=by unfold putA;rw[if_neg hh]
 have e2:(putA r.list a).zip (r.round.take (ja8 r.list a)++[n]++r.round.drop (ja8 r.list a))=(r.list.take (ja8 r.list a)).zip (r.round.take (ja8 r.list a))++[(a,n)]++(r.list.drop (ja8 r.list a)).zip (r.round.drop (ja8 r.list a)):=by
  have hrl:=h.rl;rw[e1,List.zip_append (by simp[hrl]),List.zip_append (by simp[hrl])];rfl
 have e3:r.list.zip r.round=(r.list.take (ja8 r.list a)).zip (r.round.take (ja8 r.list a))++(r.list.drop (ja8 r.list a)).zip (r.round.drop (ja8 r.list a)):=by
  have hrl:=h.rl;rw[<- List.zip_append (by simp[hrl]),List.take_append_drop,List.take_append_drop]
 show (x,m)∈(putA r.list a).zip _↔_;rw[e2,e3];simp only[List.mem_append,List.mem_singleton,Prod.mk.injEq]
 constructor
 . rintro ((h1|h1)|h1)
   . exact .inl (.inl h1)
   . exact .inr ⟨h1.1,h1.2,hm⟩
   exact .inl (.inr h1)
 rintro ((h1|h1)|h1)
 . exact .inl (.inl h1)
 . exact .inr h1
 exact .inl (.inr ⟨h1.1,h1.2.1⟩)
theorem RL.Good.puts (n:Nat):∀ {l:List GA} {r:RL},r.Good->Facts l->(r.puts n l).Good/\(∀ x,x∈(r.puts n l).list↔x∈r.list∨x∈l)/\∀ x m,(x,m)∈(r.puts n l).list.zip (r.puts n l).round↔(x,m)∈r.list.zip r.round∨(m=n/\x∈l/\x ∉ r.list)
 | [],r,h,_=>⟨h,fun x=>by show x∈r.list↔_;simp,fun x m=>by show (x,m)∈r.list.zip r.round↔_;simp⟩
 | a :: l,r,h,hl=>by
   obtain⟨k1,k2,k3⟩:=h.put n (hl a List.mem_cons_self);obtain⟨m1,m2,m3⟩:=RL.Good.puts n k1 (fun x hx=>hl x (List.mem_cons_of_mem _ hx));refine⟨m1,fun x=>?_,fun x m=>?_⟩
   . show x∈((r.put n a).puts n l).list↔_
     rw[m2,k2,List.mem_cons]
     constructor
     . rintro ((h|h)|h)
       . exact .inl h
       . exact .inr (.inl h)
       exact .inr (.inr h)
     rintro (h|h|h)
     . exact .inl (.inl h)
     . exact .inl (.inr h)
     exact .inr h
   show (x,m)∈((r.put n a).puts n l).list.zip ((r.put n a).puts n l).round↔_;rw[m3,k3,k2,List.mem_cons]
   constructor
   . rintro ((h|⟨h1,h2,h3⟩)|⟨h1,h2,h3⟩)
     . exact .inl h
     . exact .inr ⟨h2,.inl h1,h1▸h3⟩
     exact .inr ⟨h1,.inr h2,fun h=>h3 (.inl h)⟩
   rintro (h|⟨h1,h2,h3⟩)
   . exact .inl (.inl h)
   by_cases e:x=a
   . exact .inl (.inr ⟨e,h1,e▸h3⟩)
   exact .inr ⟨h1,h2.resolve_left e,fun h=>h.elim h3 e⟩
theorem RL.puts_same (n:Nat):∀ {l:List GA} {r:RL},r.Good->Facts l->(∀ a∈l,a∈r.list)->r.puts n l=r
 | [],r,_,_,_=>rfl
 | a :: l,r,h,hl,hm=>by
   have e:r.put n a=r:=by
    unfold RL.put;rw[if_pos ((jfx h.ff h.asc (hl a List.mem_cons_self)).2 (hm a List.mem_cons_self))]
   show (r.put n a).puts n l=r;rw[e];exact RL.puts_same n h (fun x hx=>hl x (List.mem_cons_of_mem _ hx)) (fun x hx=>hm x (List.mem_cons_of_mem _ hx))
/-! ### What follows at once, of a level -/
def ownR (rules:List GR) (levels:List Nat) (k:Nat):List GR:=(rules.zipIdx.filter fun x=>decide (at0 levels x.2=k)).map (·.1)
theorem jvw {head:GA} {P:GA->Prop}:∀ {bs:List LB} {out:List GA},Facts out->Asc out->(∀ b∈bs,factB (fillN head b)=true) ->
  Facts (bs.foldl (fun o b=>putA o (fillN head b)) out)/\Asc (bs.foldl (fun o b=>putA o (fillN head b)) out)/\∀ x,x∈bs.foldl (fun o b=>putA o (fillN head b)) out↔x∈out∨∃ b∈bs,fillN head b=x
 | [],out,h1,h2,_=>⟨h1,h2,fun x=>by simp⟩
 | b :: bs,out,h1,h2,h3=>by
   have hb:=h3 b List.mem_cons_self;obtain⟨k1,k2,k3⟩:=jvw (P:=P) (jjy h1 h2 hb) (jpx h2 (fillN head b)) (fun c hc=>h3 c (List.mem_cons_of_mem _ hc));refine⟨k1,k2,fun x=>?_⟩;rw[List.foldl_cons,k3,jlk h1 h2 hb]
   constructor
   . rintro ((h|h)|⟨c,hc,h⟩)
     . exact .inl h
     . exact .inr ⟨b,List.mem_cons_self,h.symm⟩
     exact .inr ⟨c,List.mem_cons_of_mem _ hc,h⟩
   rintro (h|⟨c,hc,h⟩)
   . exact .inl (.inl h)
   rcases List.mem_cons.1 hc with rfl|hc
   . exact .inl (.inr h.symm)
   exact .inr ⟨c,hc,h⟩
theorem jsc {levels:List Nat} {level:Nat} {list:List GA} (hf:Facts list) (ha:Asc list):∀ {zs:List (GR × Nat)} {out:List GA},(∀ z∈zs,Fine z.1)->Facts out->Asc out ->
  Facts (zs.foldl (jbi levels level list) out)/\Asc (zs.foldl (jbi levels level list) out)/\∀ x,x∈zs.foldl (jbi levels level list) out↔x∈out∨∃ z∈zs,at0 levels z.2=level/\Cons list z.1 x
 | [],out,_,h1,h2=>⟨h1,h2,fun x=>by simp⟩
 | z :: zs,out,hz,h1,h2=>by
   have hr:=hz z List.mem_cons_self
   have key:Facts (jbi levels level list out z)/\Asc (jbi levels level list out z)/\∀ x,x∈jbi levels level list out z↔x∈out∨(at0 levels z.2=level/\Cons list z.1 x):=by
    unfold jbi;split
    . rename_i hl
      have hc:=fun x=>j17 hr.able ha hr.hvars (a:=x)
      obtain⟨k1,k2,k3⟩:=jvw (head:=z.1.head) (P:=fun _=>True) (bs:=allN list z.1.body) h1 h2 (fun b hb=>jip hr hf ((hc _).1 ⟨b,hb,rfl⟩));refine⟨k1,k2,fun x=>?_⟩;rw[k3,hc];exact or_congr Iff.rfl ⟨fun h=>⟨hl,h⟩,fun h=>h.2⟩
    rename_i hl;exact⟨h1,h2,fun x=>⟨.inl,fun h=>h.elim id (fun e=>absurd e.1 hl)⟩⟩
   obtain⟨k1,k2,k3⟩:=jsc hf ha (zs:=zs) (fun q hq=>hz q (List.mem_cons_of_mem _ hq)) key.1 key.2.1;refine⟨k1,k2,fun x=>?_⟩;rw[List.foldl_cons,k3,key.2.2]
   constructor
   . rintro ((h|h)|⟨q,hq,h⟩)
     . exact .inl h
     . exact .inr ⟨z,List.mem_cons_self,h⟩
     exact .inr ⟨q,List.mem_cons_of_mem _ hq,h⟩
   rintro (h|⟨q,hq,h⟩)
   . exact .inl (.inl h)
   rcases List.mem_cons.1 hq with rfl|hq
   . exact .inl (.inr h)
   exact .inr ⟨q,hq,h⟩
theorem j1a {rules:List GR} {levels:List Nat} {level:Nat} {list:List GA} (hr:∀ r∈rules,Fine r) (hf:Facts list) (ha:Asc list) :
  Facts (onceN rules levels level list)/\∀ x,x∈onceN rules levels level list↔jes list (ownR rules levels level) x:=by
 obtain ⟨k1,_,k3⟩:=jsc (levels:=levels) (level:=level) hf ha (zs:=rules.zipIdx) (out:=[]) (fun z hz=>hr z.1 (by
  have:=List.mem_zipIdx_iff_getElem?.1 hz;exact List.mem_of_getElem? this)) (fun _ h=>by cases h) List.Pairwise.nil
 refine⟨k1,fun x=>?_⟩;unfold onceN;rw[k3];unfold jes ownR
 constructor
 . rintro (h|⟨z,hz,h1,h2⟩)
   . cases h
   exact⟨z.1,List.mem_map.2 ⟨z,List.mem_filter.2 ⟨hz,decide_eq_true h1⟩,rfl⟩,h2⟩
 rintro ⟨r,hr,h⟩;obtain⟨z,hz,rfl⟩:=List.mem_map.1 hr;obtain⟨h1,h2⟩:=List.mem_filter.1 hz;exact .inr ⟨z,h1,of_decide_eq_true h2,h⟩
theorem jzl {rules:List GR} {levels:List Nat} {k:Nat} {r:GR} (h:r∈ownR rules levels k):r∈rules:=by
 obtain⟨z,hz,rfl⟩:=List.mem_map.1 h;exact List.mem_of_getElem? (List.mem_zipIdx_iff_getElem?.1 (List.mem_filter.1 hz).1)
/-! ### The program's levels -/
structure ST where
 facts:List GA
 rounds:List Nat
 num:Nat
def jdb (fr:List GA) (r:GR):Bool:=r.body.any fun p=> !p.no && fr.any fun a=>decide (a.n=p.atom.n)
def ST.next (s:ST) (fr:List GA):ST:=⟨s.facts++fr,s.rounds++List.replicate fr.length (s.num+1),if fr.isEmpty then s.num else s.num+1⟩
def jfj (own:List GR):Nat->ST->List GR->Option ST
 | 0,s,_=>some s
 | f + 1,s,next=>if next.isEmpty then some s else match jcl s.facts s.rounds next [] with
   | none=>none
   | some fr=>jfj own f (s.next fr) (own.filter (jdb fr))
structure Rel (s:ST) (r:RL):Prop where
 good:r.Good
 fl:s.rounds.length=s.facts.length
 nd:s.facts.Nodup
 zip:∀ a n,(a,n)∈s.facts.zip s.rounds↔(a,n)∈r.list.zip r.round
theorem Rel.mem {s:ST} {r:RL} (h:Rel s r) (a:GA):a∈s.facts↔a∈r.list:=by
 rw[jms h.fl,jms h.good.rl];exact exists_congr fun n=>h.zip a n
theorem jmt {l:List GA} (h:Asc l):l.Nodup:=List.Pairwise.imp (fun {a b} h e=>by
 subst e;have:cmpA a a=0:=(jja a a).2 rfl;omega) h
theorem Rel.len {s:ST} {r:RL} (h:Rel s r):s.facts.length=r.list.length:=((List.perm_ext_iff_of_nodup h.nd (jmt h.good.asc)).2 h.mem).length_eq
theorem Rel.facts {s:ST} {r:RL} (h:Rel s r):Facts s.facts:=fun a ha=>h.good.ff a ((h.mem a).1 ha)
theorem j1b {s:ST} (hl:s.rounds.length=s.facts.length) (fr:List GA) {a:GA} {n:Nat}:(a,n)∈(s.next fr).facts.zip (s.next fr).rounds↔(a,n)∈s.facts.zip s.rounds∨(n=s.num+1/\a∈fr):=by
 unfold ST.next;simp only;rw[List.zip_append hl.symm,List.mem_append];refine or_congr Iff.rfl ?_
 have key:∀ (l:List GA),(a,n)∈l.zip (List.replicate l.length (s.num+1))↔n=s.num+1/\a∈l:=by
  intro l
  induction l with
  | nil=>simp
  | cons x l ih =>
    rw[List.length_cons,List.replicate_succ,List.zip_cons_cons,List.mem_cons,ih,List.mem_cons,Prod.mk.injEq]
    constructor
    . rintro (⟨h1,h2⟩|⟨h1,h2⟩)
      . exact⟨h2,.inl h1⟩
      exact⟨h1,.inr h2⟩
    rintro ⟨h1,h2|h2⟩
    . exact .inl ⟨h2,h1⟩
    exact .inr ⟨h1,h2⟩
 exact key fr
theorem j1c (s:ST):s.next []=s:=by unfold ST.next;simp
theorem jjz (own:List GR) (f:Nat) (s:ST):jfj own f s []=some s:=by cases f<;>rfl
theorem jmu (own:List GR):own.filter (jdb [])=[]:=by
 rw[List.filter_eq_nil_iff];intro r _;simp[jdb]
theorem jzm {facts fr:List GA} {r:GR} (h:jdb fr r=false) {a:GA} (hc:Cons (facts++fr) r a):Cons facts r a:=by
 obtain⟨σ,hs,e⟩:=hc;refine⟨σ,fun p hp=>?_,e⟩
 constructor
 . intro hh
   exact (hs p hp).1 (jmr (fun a ha=>List.mem_append_left _ ha) hh)
 intro hno;obtain⟨f,hf,h1,h2⟩:=(hs p hp).2 hno;rcases List.mem_append.1 hf with hf|hf
 . exact⟨f,hf,h1,h2⟩
 have:jdb fr r=true:=List.any_eq_true.2 ⟨p,hp,by rw[hno,Bool.not_false,Bool.true_and,List.any_eq_true];exact⟨f,hf,decide_eq_true h1⟩⟩;rw[h] at this;cases this
def jzn (o:Option ST) (x:RL × Nat × Bool):Prop:=match o with
 | none=>x.2.2=false
 | some s=>x.2.2=true/\Rel s x.1/\x.2.1=s.num/\x.1.list.length<=300
theorem jj0 {rules:List GR} {levels:List Nat} {level:Nat} (hr:∀ r∈rules,Fine r):∀ (f:Nat) (s:ST) (r:RL) (next:List GR),Rel s r->r.list.length<=300->302<=f+s.facts.length ->
  (∀ q∈next,q∈ownR rules levels level)->(∀ q∈ownR rules levels level,q ∉ next->∀ a,Cons s.facts q a->a∈s.facts) ->
  jzn (jfj (ownR rules levels level) f s next) (jeb rules levels level (302-r.list.length) r s.num)
 | 0,s,r,next,hR,hl,hfu,_,_=>by have:=hR.len;omega
 | f + 1,s,r,next,hR,hl,hfu,hsub,hcl=>by
   have hown:∀ q∈ownR rules levels level,Fine q:=fun q hq=>hr q (jzl hq)
   obtain⟨o1,o2⟩:=j1a (levels:=levels) (level:=level) hr hR.good.ff hR.good.asc
   have o3:∀ x,x∈onceN rules levels level r.list↔jes s.facts (ownR rules levels level) x:=fun x=>by
    rw[o2];exact exists_congr fun q=>and_congr Iff.rfl (jw7 fun a=>(hR.mem a).symm)
   obtain⟨p1,p2,p3⟩:=hR.good.puts (s.num+1) o1;have hlen:=hR.len;rw[jl5 rules levels level r s.num hl];simp only[jfj];by_cases hnx:next=[]
   . subst hnx
     have e:r.puts (s.num+1) (onceN rules levels level r.list)=r:=RL.puts_same _ hR.good o1 fun a ha=>by
      obtain⟨q,hq,hc⟩:=(o3 a).1 ha;exact (hR.mem a).1 (hcl q hq (fun h=>by cases h) a hc)
     simp only[List.isEmpty_nil,if_true,e];rw[if_neg (by omega)];exact⟨rfl,hR,rfl,hl⟩
   rw [if_neg (by cases next with
     | nil=>exact absurd rfl hnx
     | cons _ _=>simp)]
   have hrs:∀ q∈next,Fine q/\q∈ownR rules levels level:=fun q hq=>⟨hown q (hsub q hq),hsub q hq⟩
   have hN0:News s.facts (jes s.facts (ownR rules levels level)) []:=jvv (by omega)
   cases hro:jcl s.facts s.rounds next [] with
   | none =>
     obtain⟨fr,h1,h2,h3⟩:=jom hR.facts hrs hN0 hro
     have hbig:300<(r.puts (s.num+1) (onceN rules levels level r.list)).list.length:=by
      have hnd:(s.facts++fr).Nodup:=List.nodup_append.2 ⟨hR.nd,h1,fun x hx y hy e=>(h2 y hy).1 (e▸hx)⟩
      have:=jzk (m:=(r.puts (s.num+1) (onceN rules levels level r.list)).list) hnd (fun x hx=>by
       rw[p2];rcases List.mem_append.1 hx with hx|hx
       . exact .inl ((hR.mem x).1 hx)
       exact .inr ((o3 x).2 (h2 x hx).2))
      rw[List.length_append] at this;omega
     simp only;rw[if_pos hbig]
     rfl
   | some fr =>
     obtain⟨h1,_,h3⟩:=jjx hR.facts hrs hN0 hro
     have hcov:∀ x,jes s.facts (ownR rules levels level) x->x∈s.facts∨x∈fr:=fun x ⟨q,hq,hc⟩=>by
      rcases Classical.em (q∈next) with hqn|hqn
      . exact h3 x ⟨q,hqn,hc⟩
      exact .inl (hcl q hq hqn x hc)
     have hR2:Rel (s.next fr) (r.puts (s.num+1) (onceN rules levels level r.list)):=by
      refine⟨p1,by simp[ST.next,hR.fl],List.nodup_append.2 ⟨hR.nd,h1.nd,fun x hx y hy e=>h1.o y hy (e▸hx)⟩,fun a n=>?_⟩;rw[j1b hR.fl,p3,hR.zip];refine or_congr Iff.rfl (and_congr Iff.rfl ?_)
      constructor
      . intro ha;exact⟨(o3 a).2 (h1.told a ha),fun h=>h1.o a ha ((hR.mem a).2 h)⟩
      rintro ⟨ha,hn⟩;exact (hcov a ((o3 a).1 ha)).resolve_left (fun h=>hn ((hR.mem a).1 h))
     have hlen2:(r.puts (s.num+1) (onceN rules levels level r.list)).list.length=r.list.length+fr.length:=by
      rw[<- hR2.len,<- hlen];simp[ST.next]
     have hfit:=h1.fits;simp only;rw[if_neg (by omega)];by_cases hfr:fr=[]
     . subst hfr
       rw[if_pos (by simpa using hlen2),jmu,jjz];rw[j1c] at hR2 ⊢;have hfin:(r.puts (s.num+1) (onceN rules levels level r.list)).list.length<=300:=by rw[hlen2];simpa using hl
       exact⟨rfl,hR2,rfl,hfin⟩
     have hpos:0<fr.length:=List.length_pos_iff.2 hfr;rw[if_neg (by omega)]
     have hnum:(s.next fr).num=s.num+1:=by
      unfold ST.next
      cases fr with
      | nil=>exact absurd rfl hfr
      | cons _ _=>rfl
     have hl2:=jj0 (levels:=levels) (level:=level) hr f (s.next fr) _ ((ownR rules levels level).filter (jdb fr)) hR2 (by rw[hlen2];omega) (by simp[ST.next];omega) (fun q hq=>(List.mem_filter.1 hq).1) fun q hq hnq a hc=>?_
     . rw[hnum] at hl2;exact hl2
     have hnt:jdb fr q=false:=by
      cases ht:jdb fr q with
      | false=>rfl
      | true=>exact absurd (List.mem_filter.2 ⟨hq,ht⟩) hnq
     have h5:=jzm hnt hc;exact List.mem_append.2 (hcov a ⟨q,hq,h5⟩)
/-! ### All levels -/
def jf5 (rules:List GR) (levels:List Nat):Nat->Nat->ST->Option ST
 | 0,_,s=>some s
 | k + 1,level,s=>match jfj (ownR rules levels level) 302 s (ownR rules levels level) with
   | none=>none
   | some s'=>jf5 rules levels k (level+1) s'
theorem jon {rules:List GR} {levels:List Nat} (hr:∀ r∈rules,Fine r) {L:Nat} (hlow:∀ i,i<rules.length->at0 levels i<L):∀ (k level:Nat) (s:ST) (r:RL),level+k=L->Rel s r->r.list.length<=300 ->
  match jf5 rules levels k level s with
  | none=>(runL rules levels (k+1) level r s.num).2=false
  | some s'=>(runL rules levels (k+1) level r s.num).2=true/\Rel s' (runL rules levels (k+1) level r s.num).1/\s'.facts.length<=300
 | 0, level,s,r,hL,hR,hl=>by
   have e:ownR rules levels level=[]:=by
    unfold ownR;rw[List.map_eq_nil_iff,List.filter_eq_nil_iff];intro z hz;have hz1:=(List.getElem?_eq_some_iff.1 (List.mem_zipIdx_iff_getElem?.1 hz)).1;have:=hlow z.2 hz1;simp;omega
   have h:=jj0 (levels:=levels) (level:=level) hr 302 s r [] hR hl (by omega) (fun q hq=>by cases hq) (fun q hq=>by rw[e] at hq;cases hq);rw[e,jjz] at h;obtain⟨h1,h2,h3,h4⟩:=h;simp only[jf5,runL]
   generalize jeb rules levels level (302-r.list.length) r s.num=x at h1 h2 h3 h4
   obtain⟨r2,n2,ok⟩:=x;simp only at h1 h2 h3 h4;subst h1;exact⟨rfl,h2,by rw[h2.len];exact h4⟩
 | k + 1,level,s,r,hL,hR,hl=>by
   have h:=jj0 (levels:=levels) (level:=level) hr 302 s r (ownR rules levels level) hR hl (by omega) (fun q hq=>hq) (fun q hq hn=>absurd hq hn);rw[show runL rules levels (k+1+1) level r s.num=(match jeb rules levels level (302-r.list.length) r s.num with|(r2,n2,ok)=>if ok then runL rules levels (k+1) (level+1) r2 n2 else (r2,false)) from rfl];simp only[jf5]
   generalize jeb rules levels level (302-r.list.length) r s.num=x at h
   obtain⟨r2,n2,ok⟩:=x
   cases hp:jfj (ownR rules levels level) 302 s (ownR rules levels level) with
   | none =>
     rw[hp] at h;have h:ok=false:=h;subst h
     rfl
   | some s' =>
     rw[hp] at h;obtain⟨h1,h2,h3,h4⟩:=h;simp only at h1 h2 h3 h4;subst h1;subst h3;simp only[if_true];exact jon hr hlow k (level+1) s' r2 (by omega) h2 h4
end Go.Proofs.YthiflhkcpanaaaaGreatDoor
namespace Go.Proofs.YthiflhkcpanaaaaGreatDoor
open Go.RowKit
theorem jiq (a:GA):cmpA a a=0:=(jja a a).2 rfl
theorem jed {x:GA} {l:List GA}:Asc (x :: l)↔(∀ y∈l,cmpA x y<0)/\Asc l:=List.pairwise_cons
theorem jpy:∀ {l m:List GA},Asc l->Asc m->(∀ x,x∈l↔x∈m)->l=m
 | [],[],_,_,_=>rfl
 | [],y :: m,_,_,h=>by have:=(h y).2 List.mem_cons_self;cases this
 | x :: l,[],_,_,h=>by have:=(h x).1 List.mem_cons_self;cases this
 | x :: l,y :: m,hl,hm,h=>by
   have a1:=(jed.1 hl).1;have a2:=(jed.1 hm).1
   have e:x=y:=by
    rcases List.mem_cons.1 ((h x).1 List.mem_cons_self) with e|e
    . exact e
    rcases List.mem_cons.1 ((h y).2 List.mem_cons_self) with e2|e2
    . exact e2.symm
    have k1:=a2 x e;have k2:=a1 y e2;rw[jec] at k1;omega
   subst e;rw[jpy (jed.1 hl).2 (jed.1 hm).2 fun z=>?_]
   constructor
   . intro hz
     rcases List.mem_cons.1 ((h z).1 (List.mem_cons_of_mem _ hz)) with e|e
     . subst e;have:=a1 z hz;rw[jiq] at this;omega
     exact e
   intro hz;rcases List.mem_cons.1 ((h z).2 (List.mem_cons_of_mem _ hz)) with e|e
   . subst e;have:=a2 z hz;rw[jiq] at this;omega
   exact e
theorem joo:∀ {l out:List GA},Facts out->Asc out->Facts l->Facts (l.foldl putA out)/\Asc (l.foldl putA out)/\∀ x,x∈l.foldl putA out↔x∈out∨x∈l
 | [],out,h1,h2,_=>⟨h1,h2,fun x=>by simp⟩
 | a :: l,out,h1,h2,h3=>by
   have ha:=h3 a List.mem_cons_self;obtain⟨k1,k2,k3⟩:=joo (jjy h1 h2 ha) (jpx h2 a) (fun x hx=>h3 x (List.mem_cons_of_mem _ hx));refine⟨k1,k2,fun x=>?_⟩;rw[List.foldl_cons,k3,jlk h1 h2 ha,List.mem_cons,or_assoc]
theorem jj1 {xs ys:List GA} (hx:Facts xs) (ax:Asc xs) (hy:Facts ys) (ay:Asc ys):Facts (lessA xs ys)/\Asc (lessA xs ys)/\∀ x,x∈lessA xs ys↔x∈xs/\x ∉ ys:=by
 refine⟨fun x h=>hx x (List.mem_filter.1 h).1,ax.sublist List.filter_sublist,fun x=>?_⟩;unfold lessA;rw[List.mem_filter];refine and_congr_right fun h=>?_
 rw[Bool.not_eq_true',<- Bool.not_eq_true,jfx hy ay (hx x h)]
theorem j1d {a b:GA} (ha:factB a=true) (hb:factB b=true) (h:cmpA a b=0):a=b:=by
 have k:hasA [a] b=true:=(jg0 [a] b (List.pairwise_singleton _ _)).2 ⟨a,by simp,h⟩;have:=(jfx (l:=[a]) (fun x hx=>by simp at hx;rw[hx];exact ha) (List.pairwise_singleton _ _) hb).1 k;simp at this;exact this.symm
def xsOf (L:List ME):List GA:=L.map (·.x)
theorem jfk:∀ (n:Nat) (ps qs:List P2),ps.length+qs.length<=n->Facts (ps.map (·.1))->Asc (ps.map (·.1))->Facts (qs.map (·.1))->Asc (qs.map (·.1)) ->
  Asc (xsOf (jah ps qs))/\(∀ e∈jah ps qs,(e.s=0/\e.x∈ps.map (·.1)/\e.x ∉ qs.map (·.1))∨(e.s=1/\e.x∈qs.map (·.1)/\e.x ∉ ps.map (·.1))∨(e.s=2/\e.x∈ps.map (·.1)/\e.x∈qs.map (·.1))) /\
  ∀ x,(x∈ps.map (·.1)∨x∈qs.map (·.1))->x∈xsOf (jah ps qs)
 | _,[],[],_,_,_,_,_=>⟨List.Pairwise.nil,fun e h=>(by rw[ji9] at h;cases h),fun x h=>(by simp at h)⟩
 | n, p :: ps,[],_,hx,ax,_,_=>by
   rw[jek];refine⟨?_,fun e he=>?_,fun x h=>?_⟩
   . unfold xsOf;rw[List.map_map];exact ax
   . obtain ⟨y,hy,rfl⟩:=List.mem_map.1 he
     exact .inl ⟨rfl,List.mem_map_of_mem hy,by simp⟩
   . unfold xsOf;rw[List.map_map];simpa using h
 | n, [],q :: qs,_,_,_,hy,ay=>by
   rw[jd9];refine⟨?_,fun e he=>?_,fun x h=>?_⟩
   . unfold xsOf;rw[List.map_map];exact ay
   . obtain ⟨y,hy,rfl⟩:=List.mem_map.1 he
     exact .inr (.inl ⟨rfl,List.mem_map_of_mem hy,by simp⟩)
   . unfold xsOf;rw[List.map_map];simpa using h
 | 0,p :: ps,q :: qs,h,_,_,_,_=>by simp at h
 | n + 1, p :: ps,q :: qs,h,hx,ax,hy,ay=>by
   have hfx:factB p.1=true:=hx p.1 (by simp);have hfy:factB q.1=true:=hy q.1 (by simp);obtain⟨lx,ax'⟩:=jed.1 (show Asc (p.1 :: ps.map (·.1)) from ax);obtain⟨ly,ay'⟩:=jed.1 (show Asc (q.1 :: qs.map (·.1)) from ay);have hx':Facts (ps.map (·.1)):=fun x h=>hx x (List.mem_cons_of_mem _ h)
   have hy':Facts (qs.map (·.1)):=fun x h=>hy x (List.mem_cons_of_mem _ h)
   simp only[List.length_cons] at h;by_cases hlt:cmpA p.1 q.1<0
   . rw [jia ps qs hlt]
     obtain⟨k1,k2,k3⟩:=jfk n ps (q :: qs) (by simp only[List.length_cons];omega) hx' ax' hy ay
     have hbig:∀ z,z∈ps.map (·.1)∨z∈(q :: qs).map (·.1)->cmpA p.1 z<0:=fun z hz=>by
      rcases hz with hz|hz
      . exact lx z hz
      rcases List.mem_cons.1 (show z∈q.1 :: qs.map (·.1) from hz) with rfl|hz
      . exact hlt
      exact jdw hlt (ly z hz)
     have hnot:p.1 ∉ (q :: qs).map (·.1):=fun hm=>by have:=hbig _ (.inr hm);rw[jiq] at this;omega
     have hin:∀ e∈jah ps (q :: qs),e.x∈ps.map (·.1)∨e.x∈(q :: qs).map (·.1):=fun e he=>by
      rcases k2 e he with h|h|h
      . exact .inl h.2.1
      . exact .inr h.2.1
      exact .inl h.2.1
     refine⟨jed.2 ⟨fun z hz=>?_,k1⟩,fun e he=>?_,fun x hx=>?_⟩
     . obtain ⟨e,he,rfl⟩:=List.mem_map.1 hz
       exact hbig _ (hin e he)
     . rcases List.mem_cons.1 he with rfl|he
       . exact .inl ⟨rfl,by simp,hnot⟩
       rcases k2 e he with ⟨h1,h2,h3⟩|⟨h1,h2,h3⟩|⟨h1,h2,h3⟩
       . exact .inl ⟨h1,List.mem_cons_of_mem _ h2,h3⟩
       . refine .inr (.inl ⟨h1,h2,fun hm=>?_⟩)
         rcases List.mem_cons.1 (show e.x∈p.1 :: ps.map (·.1) from hm) with hm|hm
         . exact hnot (hm▸h2)
         exact h3 hm
       exact .inr (.inr ⟨h1,List.mem_cons_of_mem _ h2,h3⟩)
     show x∈p.1 :: xsOf (jah ps (q :: qs));rcases hx with hx|hx
     . rcases List.mem_cons.1 (show x∈p.1 :: ps.map (·.1) from hx) with rfl|hx
       . exact List.mem_cons_self
       exact List.mem_cons_of_mem _ (k3 x (.inl hx))
     exact List.mem_cons_of_mem _ (k3 x (.inr hx))
   by_cases hgt:0<cmpA p.1 q.1
   . rw [jib ps qs hgt]
     have hlt':cmpA q.1 p.1<0:=by rw[jec];omega
     obtain⟨k1,k2,k3⟩:=jfk n (p :: ps) qs (by simp only[List.length_cons];omega) hx ax hy' ay'
     have hbig:∀ z,z∈(p :: ps).map (·.1)∨z∈qs.map (·.1)->cmpA q.1 z<0:=fun z hz=>by
      rcases hz with hz|hz
      . rcases List.mem_cons.1 (show z∈p.1 :: ps.map (·.1) from hz) with rfl|hz
        . exact hlt'
        exact jdw hlt' (lx z hz)
      exact ly z hz
     have hnot:q.1 ∉ (p :: ps).map (·.1):=fun hm=>by have:=hbig _ (.inl hm);rw[jiq] at this;omega
     have hin:∀ e∈jah (p :: ps) qs,e.x∈(p :: ps).map (·.1)∨e.x∈qs.map (·.1):=fun e he=>by
      rcases k2 e he with h|h|h
      . exact .inl h.2.1
      . exact .inr h.2.1
      exact .inl h.2.1
     refine⟨jed.2 ⟨fun z hz=>?_,k1⟩,fun e he=>?_,fun x hx=>?_⟩
     . obtain ⟨e,he,rfl⟩:=List.mem_map.1 hz
       exact hbig _ (hin e he)
     . rcases List.mem_cons.1 he with rfl|he
       . exact .inr (.inl ⟨rfl,by simp,hnot⟩)
       rcases k2 e he with ⟨h1,h2,h3⟩|⟨h1,h2,h3⟩|⟨h1,h2,h3⟩
       . refine .inl ⟨h1,h2,fun hm=>?_⟩
         rcases List.mem_cons.1 (show e.x∈q.1 :: qs.map (·.1) from hm) with hm|hm
         . exact hnot (hm▸h2)
         exact h3 hm
       . exact .inr (.inl ⟨h1,List.mem_cons_of_mem _ h2,h3⟩)
       exact .inr (.inr ⟨h1,h2,List.mem_cons_of_mem _ h3⟩)
     show x∈q.1 :: xsOf (jah (p :: ps) qs);rcases hx with hx|hx
     . exact List.mem_cons_of_mem _ (k3 x (.inl hx))
     rcases List.mem_cons.1 (show x∈q.1 :: qs.map (·.1) from hx) with rfl|hx
     . exact List.mem_cons_self
     exact List.mem_cons_of_mem _ (k3 x (.inr hx))
   have he0:cmpA p.1 q.1=0:=by omega
   have hpq:p.1=q.1:=j1d hfx hfy he0;rw[jic ps qs he0];obtain⟨k1,k2,k3⟩:=jfk n ps qs (by omega) hx' ax' hy' ay'
   have hbig:∀ z,z∈ps.map (·.1)∨z∈qs.map (·.1)->cmpA p.1 z<0:=fun z hz=>by
    rcases hz with hz|hz
    . exact lx z hz
    rw[hpq];exact ly z hz
   have hno:∀ z,z∈ps.map (·.1)∨z∈qs.map (·.1)->z≠p.1:=fun z hz e=>by have:=hbig z hz;rw[e,jiq] at this;omega
   have hin:∀ e∈jah ps qs,e.x∈ps.map (·.1)∨e.x∈qs.map (·.1):=fun e he=>by
    rcases k2 e he with h|h|h
    . exact .inl h.2.1
    . exact .inr h.2.1
    exact .inl h.2.1
   refine⟨jed.2 ⟨fun z hz=>?_,k1⟩,fun e he=>?_,fun x hx=>?_⟩
   . obtain ⟨e,he,rfl⟩:=List.mem_map.1 hz
     exact hbig _ (hin e he)
   . rcases List.mem_cons.1 he with rfl|he
     . exact .inr (.inr ⟨rfl,by simp,by show p.1∈q.1 :: _;rw[hpq];exact List.mem_cons_self⟩)
     rcases k2 e he with ⟨h1,h2,h3⟩|⟨h1,h2,h3⟩|⟨h1,h2,h3⟩
     . refine .inl ⟨h1,List.mem_cons_of_mem _ h2,fun hm=>?_⟩
       rcases List.mem_cons.1 (show e.x∈q.1 :: qs.map (·.1) from hm) with hm|hm
       . exact hno _ (.inl h2) (hm.trans hpq.symm)
       exact h3 hm
     . refine .inr (.inl ⟨h1,List.mem_cons_of_mem _ h2,fun hm=>?_⟩)
       rcases List.mem_cons.1 (show e.x∈p.1 :: ps.map (·.1) from hm) with hm|hm
       . exact hno _ (.inr h2) hm
       exact h3 hm
     exact .inr (.inr ⟨h1,List.mem_cons_of_mem _ h2,List.mem_cons_of_mem _ h3⟩)
   show x∈p.1 :: xsOf (jah ps qs);rcases hx with hx|hx
   . rcases List.mem_cons.1 (show x∈p.1 :: ps.map (·.1) from hx) with rfl|hx
     . exact List.mem_cons_self
     exact List.mem_cons_of_mem _ (k3 x (.inl hx))
   rcases List.mem_cons.1 (show x∈q.1 :: qs.map (·.1) from hx) with e|hx
   . rw[e,<- hpq];exact List.mem_cons_self
   exact List.mem_cons_of_mem _ (k3 x (.inr hx))
section
variable {ps qs:List P2} (hx:Facts (ps.map (·.1))) (ax:Asc (ps.map (·.1))) (hy:Facts (qs.map (·.1))) (ay:Asc (qs.map (·.1)))
include hx ax hy ay
theorem jt6:xsOf (jah ps qs)=(qs.map (·.1)).foldl putA (ps.map (·.1)):=by
 obtain⟨k1,k2,k3⟩:=jfk _ ps qs (Nat.le_refl _) hx ax hy ay;obtain⟨m1,m2,m3⟩:=joo hx ax hy;refine jpy k1 m2 fun x=>?_
 rw[m3];refine⟨fun h=>?_,k3 x⟩;obtain⟨e,he,rfl⟩:=List.mem_map.1 h;rcases k2 e he with h|h|h
 . exact .inl h.2.1
 . exact .inr h.2.1
 exact .inl h.2.1
theorem jop:xsOf ((jah ps qs).filter fun e=>e.s == 0)=lessA (ps.map (·.1)) (qs.map (·.1)):=by
 obtain⟨k1,k2,k3⟩:=jfk _ ps qs (Nat.le_refl _) hx ax hy ay;obtain⟨m1,m2,m3⟩:=jj1 hx ax hy ay;refine jpy (k1.sublist (List.Sublist.map _ List.filter_sublist)) m2 fun x=>?_
 rw[m3]
 constructor
 . intro h
   obtain⟨e,he,rfl⟩:=List.mem_map.1 h;obtain⟨he,hs⟩:=List.mem_filter.1 he;rcases k2 e he with h|h|h
   . exact h.2
   . rw[h.1] at hs;simp at hs
   rw[h.1] at hs;simp at hs
 rintro ⟨h1,h2⟩;obtain⟨e,he,rfl⟩:=List.mem_map.1 (k3 x (.inl h1));refine List.mem_map.2 ⟨e,List.mem_filter.2 ⟨he,?_⟩,rfl⟩;rcases k2 e he with h|h|h
 . rw[h.1];rfl
 . exact absurd h1 h.2.2
 exact absurd h.2.2 h2
theorem jt7:((jah ps qs).all fun e=> !(e.s == 0))=(ps.map (·.1)).all (hasA (qs.map (·.1))):=by
 have h:=jop hx ax hy ay;rw[Bool.eq_iff_iff,List.all_eq_true,List.all_eq_true]
 constructor
 . intro k x hxm
   cases hh:hasA (qs.map (·.1)) x with
   | true=>rfl
   | false =>
     have hm:x∈lessA (ps.map (·.1)) (qs.map (·.1)):=List.mem_filter.2 ⟨hxm,by rw[hh];rfl⟩;rw[<- h] at hm;obtain⟨e,he,rfl⟩:=List.mem_map.1 hm;obtain⟨he,hs⟩:=List.mem_filter.1 he;have:=k e he;rw[hs] at this;cases this
 intro k e he
 cases hs:(e.s == 0) with
 | false=>rfl
 | true =>
   have hm:e.x∈xsOf ((jah ps qs).filter fun e=>e.s == 0):=List.mem_map.2 ⟨e,List.mem_filter.2 ⟨he,hs⟩,rfl⟩;rw[h] at hm;obtain⟨h1,h2⟩:=List.mem_filter.1 hm;rw[k _ h1] at h2;cases h2
end
/-! ### Facts that are ok -/
theorem jbw {l:List GA} {n:Nat} (h:jbb l n=true):Facts l/\Asc l/\l.length<=n:=by
 refine⟨?_,jg1 h,?_⟩
 . unfold jbb at h
   simp only[Bool.and_eq_true,List.all_eq_true] at h;exact h.1.1
 unfold jbb at h;simp only[Bool.and_eq_true,decide_eq_true_eq] at h;exact h.2
end Go.Proofs.YthiflhkcpanaaaaGreatDoor
namespace Go.Proofs.YthiflhkcpanaaaaGreatDoor
open Go.RowKit
theorem j18 {l:List GR} {o:List Nat} (hl:o.length=l.length) (hs:passL l o=o) (hlow:∀ i,i<l.length->at0 o i<l.length):∃ f,dep l f/\∀ (i:Nat) (a:GR),l[i]? = some a->f a.head.n=at0 o i:=by
 have hi:=jdx (jle l) _ o hs
 have key:∀ (i:Nat) (a:GR) (k:Nat) (b:GR),l[i]? = some a->l[k]? = some b->stepH a b i k o=o/\∀ p∈a.body,stepJ l.length b i k o p=o:=by
  intro i a k b ha hb;have hil:=(List.getElem?_eq_some_iff.1 ha).1;have hkl:=(List.getElem?_eq_some_iff.1 hb).1;have h1:=hi i (by simpa using hil);unfold stepI at h1;rw[ha] at h1;have h2:=jdx (jld l a i) _ o h1 k (by simpa using hkl);unfold stepK at h2;rw[hb] at h2;have h3:Up o (stepH a b i k o):=jlc _ _ _ _ _;have h4:=je5 (jg2 l.length b i k) a.body (stepH a b i k o);have h2':a.body.foldl (stepJ l.length b i k) (stepH a b i k o)=o:=h2;rw[h2'] at h4;have e:=h4.antisymm h3;rw[e] at h2';exact⟨e,jdx (jg2 l.length b i k) _ o h2'⟩
 have hH:∀ (i:Nat) (a:GR) (k:Nat) (b:GR),l[i]? = some a->l[k]? = some b->b.head.n=a.head.n->at0 o k<=at0 o i:=by
  intro i a k b ha hb e;have hil:=(List.getElem?_eq_some_iff.1 ha).1;have h1:=(key i a k b ha hb).1;unfold stepH at h1;split at h1
  . have h2:=congrArg (fun x=>at0 x i) h1
    simp only[jfs (show i<o.length from by omega),if_pos] at h2;omega
  rename_i h;have:¬ at0 o i<at0 o k:=fun hc=>h ⟨e,hc⟩
  omega
 let f:ByteArray->Nat:=fun x=>match l.findIdx? (fun r=>decide (r.head.n=x)) with|some k=>at0 o k|none=>0
 have hfa:∀ (i:Nat) (a:GR),l[i]? = some a->f a.head.n=at0 o i:=by
  intro i a ha;show (match l.findIdx? (fun r=>decide (r.head.n=a.head.n)) with|some k=>at0 o k|none=>0)=_
  cases hfi:l.findIdx? (fun r=>decide (r.head.n=a.head.n)) with
  | none =>
    rw[List.findIdx?_eq_none_iff] at hfi;have:=hfi a (List.mem_of_getElem? ha);simp at this
  | some k =>
    rw[List.findIdx?_eq_some_iff_getElem] at hfi;obtain⟨hk,h1,_⟩:=hfi;have h3:=of_decide_eq_true h1;have h4:=hH i a k _ ha (List.getElem?_eq_getElem hk) h3;have h5:=hH k _ i a (List.getElem?_eq_getElem hk) ha h3.symm;show at0 o k=at0 o i;omega
 refine⟨f,fun r hr p hp ⟨r',hr',e⟩=>?_,hfa⟩;obtain⟨i,hil,rfl⟩:=List.mem_iff_getElem.1 hr;obtain⟨k,hkl,rfl⟩:=List.mem_iff_getElem.1 hr';have ha:=List.getElem?_eq_getElem hil;have hb:=List.getElem?_eq_getElem hkl;rw[<- e,hfa k _ hb,hfa i _ ha];have h1:=(key i _ k _ ha hb).2 p hp;unfold stepJ at h1;split at h1
 . have h2:=congrArg (fun x=>at0 x i) h1
   simp only[jfs (show i<o.length from by omega),if_pos] at h2;omega
 rename_i h;have h2:=hlow i hil;have:¬ at0 o i<at0 o k+one p.no:=fun hc=>h ⟨e.symm,hc,by omega⟩
 omega
theorem jef (l:List GR):(jap l).length=l.length:=jcp l _
theorem jj2 {l:List GR} (h:jdp l=false):∀ i,i<l.length->at0 (jap l) i<l.length:=fun i hi=>by
 rcases Nat.lt_or_ge (at0 (jap l) i) l.length with h1|h1
 . exact h1
 exfalso
 rw[<- jig,List.any_eq_false] at h;exact h _ (List.mem_of_getElem? (jdg (by rw[jef];exact hi))) (decide_eq_true h1)
theorem jmv {l:List GR} {n:Nat} (he:passL l (ja0 l n)=ja0 l n):∀ {m:Nat},n<=m->ja0 l m=ja0 l n
 | 0,h=>by rw[Nat.le_zero.1 h]
 | m + 1,h=>by
   rcases Nat.lt_or_ge m n with h1|h1
   . rw[show n=m+1 from by omega]
   have ih:=jmv he h1;show passL l (ja0 l m)=_;rw[ih,he]
theorem jsd {l:List GR} (h:jdp l=false):passL l (jap l)=jap l:=by
 have hlowN:∀ x∈jap l,x<l.length:=fun x hx=>by
  obtain⟨i,hi,rfl⟩:=List.mem_iff_getElem.1 hx;have h1:=jj2 h i (by rw[<- jef];exact hi);have h2:=jdg hi;rw[List.getElem?_eq_getElem hi] at h2;injection h2 with h2
  omega
 have hex:∃ n,n<=(l.length+1)*(l.length+2)/\passL l (ja0 l n)=ja0 l n:=by
  apply Classical.byContradiction
  intro hno
  have hgrow:∀ n,n<=(l.length+1)*(l.length+2)->n<=(ja0 l n).sum:=by
   intro n
   induction n with
   | zero=>intro _;exact Nat.zero_le _
   | succ n ih =>
     intro hn;have h1:=ih (by omega);obtain⟨h2,h3⟩:=j1v (jpe l (ja0 l n));have h4:(ja0 l n).sum≠(passL l (ja0 l n)).sum:=fun e=>hno ⟨n,by omega,h3 e⟩
     show n+1<=(passL l (ja0 l n)).sum;omega
  have h1:=hgrow _ (Nat.le_refl _);have h2:(jap l).sum<=(jap l).length*l.length:=jpf hlowN;unfold jap at h2;rw[jcp] at h2
  have h3:(l.length+1)*(l.length+2)=l.length*l.length+3*l.length+2:=by
   rw[Nat.add_mul,Nat.mul_add];omega
  omega
 obtain⟨n,hn,he⟩:=hex;unfold jap;rw[jmv he hn,he]
open Classical in
theorem jpz {l:List GR} {o:List Nat} (h1:Low l o) (h2:∀ r∈l,∀ p∈r.body,metB l o r p):(l.map fun r=>at0 o ((idxB (heads l) r.head.n).getD 0))=jap l:=by
 have hc:=jq7 h2
 have hs:Strat l:=by
  unfold jdp at hc;exact Classical.byContradiction fun h=>of_decide_eq_false hc h
 obtain⟨f,hd,hf⟩:=j18 (jef l) (jsd hc) (jj2 hc);obtain⟨f0,hd0,hb0⟩:=jl1 (hs:=heads l) (fun r hr=>jcs.2 ⟨r,hr,rfl⟩) hs
 have hlow:∀ x∈heads l,f x<(heads l).length:=fun x hx=>by
  obtain⟨r,hr,rfl⟩:=jcs.1 hx;obtain⟨i,hi,rfl⟩:=List.mem_iff_getElem.1 hr;have k1:=hf i _ (List.getElem?_eq_getElem hi);have k2:=(jex hd0 ((l.length+1)*(l.length+2))).2 i _ (List.getElem?_eq_getElem hi);have k3:=hb0 _ hx;unfold jap at k1;omega
 have hd1:dep l (fun x=>match idxB (heads l) x with|some i=>at0 o i|none=>0):=fun r hr p hp he=>by
  obtain⟨own,ho⟩:=jcq (jcs.2 ⟨r,hr,rfl⟩);obtain⟨j,hj⟩:=jcq (jcs.2 he);have:=h2 r hr p hp j own hj ho;simp only[hj,ho];exact this
 apply List.ext_getElem?
 intro i;by_cases hi:i<l.length
 . rw [List.getElem?_map,List.getElem?_eq_getElem hi,Option.map_some,jdg (show i<(jap l).length from by rw[jef];exact hi)]
   obtain⟨own,ho⟩:=jcq (jcs.2 ⟨l[i],List.getElem_mem hi,rfl⟩);rw[ho,Option.getD_some];have k1:=hf i _ (List.getElem?_eq_getElem hi);have k2:=h1.2.2 f hd hlow _ _ ho;have k3:=(jex hd1 ((l.length+1)*(l.length+2))).2 i _ (List.getElem?_eq_getElem hi);simp only[ho] at k3;unfold jap at k1 ⊢
   congr 1
   omega
 rw[List.getElem?_eq_none (by simp;omega),List.getElem?_eq_none (by rw[jef];omega)]
theorem jhw {rules:List GR} (h:jag rules=0):(∀ r∈rules,Fine r)/\rules.length<=8/\argsB (jaq rules)=true/\jdp rules=false:=by
 unfold jag at h;split at h
 . cases h
 split at h
 . cases h
 split at h
 . cases h
 split at h
 . cases h
 split at h
 . cases h
 rename_i h1 h2 h3 h4 h5;refine⟨fun r hr=>jzj ?_,by omega,by simpa using h3,by simpa using h5⟩;simp only[Bool.not_eq_false,List.all_eq_true] at h1 h4;unfold fineR;rw[h1 r hr,h4 r hr];rfl
theorem jzo {given:List GA} (h1:Facts given) (h2:Asc given):Rel ⟨given,List.replicate given.length 0,0⟩ ⟨given,List.replicate given.length 0⟩ :=
 ⟨⟨by simp,h1,h2⟩,by simp,jmt h2,fun _ _=>Iff.rfl⟩
theorem je0 {rules:List GR} {given:List GA} (h:jbm rules given=true):jag rules=0/\Facts given/\Asc given/\given.length<=40:=by
 unfold jbm at h;simp only[Bool.and_eq_true,decide_eq_true_eq] at h;refine⟨h.1.1,?_,jg1 h.1.2,?_⟩
 . have:=h.1.2
   unfold jbb at this;simp only[Bool.and_eq_true,List.all_eq_true] at this;exact this.1.1
 have:=h.1.2;unfold jbb at this;simp only[Bool.and_eq_true,decide_eq_true_eq] at this;exact this.2
def jvx (rules:List GR) (given:List GA):Option ST:=jf5 rules (jap rules) rules.length 0 ⟨given,List.replicate given.length 0,0⟩
theorem jmw {rules:List GR} {given:List GA} (h:jbm rules given=true):match jvx rules given with
  | none=>(runN rules given).2=false
  | some s=>(runN rules given).2=true/\Rel s (runN rules given).1/\s.facts.length<=300:=by
 obtain⟨h1,h2,h3,h4⟩:=je0 h;obtain⟨k1,k2,k3,k4⟩:=jhw h1;have:=jon (levels:=jap rules) k1 (L:=rules.length) (jj2 k4) rules.length 0 ⟨given,List.replicate given.length 0,0⟩ ⟨given,List.replicate given.length 0⟩ (Nat.zero_add _) (jzo h2 h3) (by show given.length<=300;omega);exact this
theorem jse {s:ST} {r:RL} (h:Rel s r) {l:List GA} (hp:l.Perm s.facts) (hl:l.Pairwise fun a b=>cmpA a b<=0):l=r.list:=by
 have hnd:l.Nodup:=hp.nodup_iff.2 h.nd;have hf:Facts l:=fun a ha=>h.facts a (hp.mem_iff.1 ha)
 have hasc:Asc l:=by
  have:l.Pairwise fun a b=>cmpA a b<=0/\a≠b:=List.pairwise_and_iff.2 ⟨hl,hnd⟩
  refine List.Pairwise.imp_of_mem (fun {a b} ha hb k=>?_) this
  have hne:cmpA a b≠0:=fun e=>k.2 (by
   have k1:hasA [a] b=true:=(jg0 [a] b (List.pairwise_singleton _ _)).2 ⟨a,by simp,e⟩;have:=(jfx (l:=[a]) (fun x hx=>by simp at hx;rw[hx];exact hf a ha) (List.pairwise_singleton _ _) (hf b hb)).1 k1;simp at this;exact this.symm)
  omega
 have hperm:l.Perm r.list:=hp.trans ((List.perm_ext_iff_of_nodup h.nd (jmt h.good.asc)).2 h.mem);exact hperm.eq_of_pairwise (fun a b _ _ h1 h2=>by have:=jec a b;omega) hasc h.good.asc
theorem j1e {rules:List GR} {given:List GA} (h:jbm rules given=true) {s:ST} (hs:jvx rules given=some s) {l:List GA} (hp:l.Perm s.facts) (hl:l.Pairwise fun a b=>cmpA a b<=0):l=(runN rules given).1.list:=by
 have:=jmw h;rw[hs] at this;exact jse this.2.1 hp hl
noncomputable def jcn (rules:List GR):List GC->List GA->Bool
 | [],_=>true
 | c :: cs,list=>jas c && ((backL list c).2 && (fineB rules (backL list c).1 && jcn rules cs (backL list c).1))
noncomputable def jbx (B:GB):Bool:=(decide (0<=B.time) && decide (B.time<=100000) && decide (B.hist.length<=30) && decide ((B.hist.length:Int)<=B.time)) && (fineB B.rules B.given && jcn B.rules B.hist.reverse B.given)
theorem jeg {rules:List GR} {given:List GA} (h:fineB rules given=true):Facts given/\Asc given/\given.length<=40:=by
 unfold fineB at h;simp only[Bool.and_eq_true] at h;obtain⟨_,h2,h3,h4⟩:=je0 h.1;exact⟨h2,h3,h4⟩
theorem jct {c:GC} (h:jas c=true):jbb c.comes 300=true/\jbb c.goes 300=true/\jcd c.comes c.goes=false:=by
 unfold jas at h;simp only[Bool.and_eq_true,Bool.not_eq_true'] at h;exact⟨h.1.1,h.1.2,h.2⟩
theorem jzp (list:List GA) (c:GC):(backL list c).2=(c.comes.all (hasA list) && !jcd c.goes list):=by
 unfold backL jcd
 have e:(c.goes.all fun a=> !hasA list a) = !(c.goes.any fun x=>hasA list x):=by
  induction c.goes with
  | nil=>rfl
  | cons a l ih=>simp only[List.all_cons,List.any_cons,ih,Bool.not_or]
 rw[e];split
 . rename_i h;rw[h]
 rename_i h;simp only[Bool.not_eq_true] at h;rw[h]
theorem jsf {list:List GA} {c:GC} (h:(backL list c).2=true):(backL list c).1=doL list ⟨c.goes,c.comes⟩:=by
 unfold backL at h ⊢;split
 . rfl
 rename_i h2;rw[if_neg h2] at h;cases h
theorem jp0 {α:Type} {l:List α} {k:Nat} (h:k<l.length):l.reverse.drop k=l[l.length-1-k] :: l.reverse.drop (k+1):=by
 rw[List.drop_eq_getElem_cons (by rw[List.length_reverse];exact h),List.getElem_reverse]
theorem jsg {rules:List GR} {cs:List GC} {list:List GA} {k:Nat} (h:cs.length<=k):jcn rules (cs.reverse.drop k) list=true:=by
 rw[List.drop_eq_nil_of_le (by rw[List.length_reverse];exact h)];rfl
end Go.Proofs.YthiflhkcpanaaaaGreatDoor
