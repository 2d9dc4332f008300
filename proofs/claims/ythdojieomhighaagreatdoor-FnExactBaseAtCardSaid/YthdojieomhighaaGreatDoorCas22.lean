/- Own texts, joined. -/
import Derived.Test.YthdojieomhighaaGreatDoorCas17
import Derived.Test.YthdojieomhighaaGreatDoorCas21
import Derived.Test.YthdojieomhighaaGreatDoorCas03
import Derived.Test.YthdojieomhighaaGreatDoorCas04
import Derived.Test.YthdojieomhighaaGreatDoorCas06
set_option linter.unusedSimpArgs false
set_option linter.unusedVariables false
set_option maxHeartbeats 4000000
set_option maxRecDepth 100000
namespace Go.Proofs.YthdojieomhighaaGreatDoor
open Go.RowKit
theorem jil (a:GA):cmpA a a=0:=(jlk a a).2 rfl
theorem jd4 {x:GA} {l:List GA}:Asc (x :: l)↔(∀ y∈l,cmpA x y<0)∧Asc l:=List.pairwise_cons
theorem jo5:∀ {l m:List GA},Asc l→Asc m→(∀ x,x∈l↔x∈m)→l=m
 | [],[],_,_,_=>rfl
 | [],y :: m,_,_,h=>by have:=(h y).2 List.mem_cons_self;cases this
 | x :: l,[],_,_,h=>by have:=(h x).1 List.mem_cons_self;cases this
 | x :: l,y :: m,hl,hm,h=>by
   have a1:=(jd4.1 hl).1;have a2:=(jd4.1 hm).1
   have e:x=y:=by
    rcases List.mem_cons.1 ((h x).1 List.mem_cons_self) with e|e
    · exact e
    rcases List.mem_cons.1 ((h y).2 List.mem_cons_self) with e2|e2
    · exact e2.symm
    have k1:=a2 x e;have k2:=a1 y e2;rw[jfn] at k1;omega
   subst e;rw[jo5 (jd4.1 hl).2 (jd4.1 hm).2 fun z=>?_]
   constructor
   · intro hz
     rcases List.mem_cons.1 ((h z).1 (List.mem_cons_of_mem _ hz)) with e|e
     · subst e;have:=a1 z hz;rw[jil] at this;omega
     exact e
   intro hz;rcases List.mem_cons.1 ((h z).2 (List.mem_cons_of_mem _ hz)) with e|e
   · subst e;have:=a2 z hz;rw[jil] at this;omega
   exact e
theorem jn2:∀ {l out:List GA},Facts out→Asc out→Facts l→Facts (l.foldl putA out)∧Asc (l.foldl putA out)∧∀ x,x∈l.foldl putA out↔x∈out∨x∈l
 | [],out,h1,h2,_=>⟨h1,h2,fun x=>by simp⟩
 | a :: l,out,h1,h2,h3=>by
   have ha:=h3 a List.mem_cons_self;obtain⟨k1,k2,k3⟩:=jn2 (jjl h1 h2 ha) (jo2 h2 a) (fun x hx=>h3 x (List.mem_cons_of_mem _ hx));refine⟨k1,k2,fun x=>?_⟩;rw[List.foldl_cons,k3,jk5 h1 h2 ha,List.mem_cons,or_assoc]
theorem jn3 {xs ys:List GA} (hx:Facts xs) (ax:Asc xs) (hy:Facts ys) (ay:Asc ys):Facts (lessA xs ys)∧Asc (lessA xs ys)∧∀ x,x∈lessA xs ys↔x∈xs∧x ∉ ys:=by
 refine⟨fun x h=>hx x (List.mem_filter.1 h).1,ax.sublist List.filter_sublist,fun x=>?_⟩;unfold lessA;rw[List.mem_filter];refine and_congr_right fun h=>?_
 rw[Bool.not_eq_true',← Bool.not_eq_true,jg0 hy ay (hx x h)]
theorem jz8 {a b:GA} (ha:factB a=true) (hb:factB b=true) (h:cmpA a b=0):a=b:=by
 have k:hasA [a] b=true:=(jh6 [a] b (List.pairwise_singleton _ _)).2 ⟨a,by simp,h⟩;have:=(jg0 (l:=[a]) (fun x hx=>by simp at hx;rw[hx];exact ha) (List.pairwise_singleton _ _) hb).1 k;simp at this;exact this.symm
def xsOf (L:List ME):List GA:=L.map (·.x)
theorem jff:∀ (n:Nat) (ps qs:List P2),ps.length+qs.length≤n→Facts (ps.map (·.1))→Asc (ps.map (·.1))→Facts (qs.map (·.1))→Asc (qs.map (·.1)) →
  Asc (xsOf (jah ps qs))∧(∀ e∈jah ps qs,(e.s=0∧e.x∈ps.map (·.1)∧e.x ∉ qs.map (·.1))∨(e.s=1∧e.x∈qs.map (·.1)∧e.x ∉ ps.map (·.1))∨(e.s=2∧e.x∈ps.map (·.1)∧e.x∈qs.map (·.1))) ∧
  ∀ x,(x∈ps.map (·.1)∨x∈qs.map (·.1))→x∈xsOf (jah ps qs)
 | _,[],[],_,_,_,_,_=>⟨List.Pairwise.nil,fun e h=>(by rw[ji1] at h;cases h),fun x h=>(by simp at h)⟩
 | n, p :: ps,[],_,hx,ax,_,_=>by
   rw[jec];refine⟨?_,fun e he=>?_,fun x h=>?_⟩
   · unfold xsOf;rw[List.map_map];exact ax
   · obtain ⟨y,hy,rfl⟩:=List.mem_map.1 he
     exact .inl ⟨rfl,List.mem_map_of_mem hy,by simp⟩
   · unfold xsOf;rw[List.map_map];simpa using h
 | n, [],q :: qs,_,_,_,hy,ay=>by
   rw[jd1];refine⟨?_,fun e he=>?_,fun x h=>?_⟩
   · unfold xsOf;rw[List.map_map];exact ay
   · obtain ⟨y,hy,rfl⟩:=List.mem_map.1 he
     exact .inr (.inl ⟨rfl,List.mem_map_of_mem hy,by simp⟩)
   · unfold xsOf;rw[List.map_map];simpa using h
 | 0,p :: ps,q :: qs,h,_,_,_,_=>by simp at h
 | n + 1, p :: ps,q :: qs,h,hx,ax,hy,ay=>by
   have hfx:factB p.1=true:=hx p.1 (by simp);have hfy:factB q.1=true:=hy q.1 (by simp);obtain⟨lx,ax'⟩:=jd4.1 (show Asc (p.1 :: ps.map (·.1)) from ax);obtain⟨ly,ay'⟩:=jd4.1 (show Asc (q.1 :: qs.map (·.1)) from ay);have hx':Facts (ps.map (·.1)):=fun x h=>hx x (List.mem_cons_of_mem _ h)
   have hy':Facts (qs.map (·.1)):=fun x h=>hy x (List.mem_cons_of_mem _ h)
   simp only[List.length_cons] at h;by_cases hlt:cmpA p.1 q.1<0
   · rw [jhy ps qs hlt]
     obtain⟨k1,k2,k3⟩:=jff n ps (q :: qs) (by simp only[List.length_cons];omega) hx' ax' hy ay
     have hbig:∀ z,z∈ps.map (·.1)∨z∈(q :: qs).map (·.1)→cmpA p.1 z<0:=fun z hz=>by
      rcases hz with hz|hz
      · exact lx z hz
      rcases List.mem_cons.1 (show z∈q.1 :: qs.map (·.1) from hz) with rfl|hz
      · exact hlt
      exact jd5 hlt (ly z hz)
     have hnot:p.1 ∉ (q :: qs).map (·.1):=fun hm=>by have:=hbig _ (.inr hm);rw[jil] at this;omega
     have hin:∀ e∈jah ps (q :: qs),e.x∈ps.map (·.1)∨e.x∈(q :: qs).map (·.1):=fun e he=>by
      rcases k2 e he with h|h|h
      · exact .inl h.2.1
      · exact .inr h.2.1
      exact .inl h.2.1
     refine⟨jd4.2 ⟨fun z hz=>?_,k1⟩,fun e he=>?_,fun x hx=>?_⟩
     · obtain ⟨e,he,rfl⟩:=List.mem_map.1 hz
       exact hbig _ (hin e he)
     · rcases List.mem_cons.1 he with rfl|he
       · exact .inl ⟨rfl,by simp,hnot⟩
       rcases k2 e he with ⟨h1,h2,h3⟩|⟨h1,h2,h3⟩|⟨h1,h2,h3⟩
       · exact .inl ⟨h1,List.mem_cons_of_mem _ h2,h3⟩
       · refine .inr (.inl ⟨h1,h2,fun hm=>?_⟩)
         rcases List.mem_cons.1 (show e.x∈p.1 :: ps.map (·.1) from hm) with hm|hm
         · exact hnot (hm▸h2)
         exact h3 hm
       exact .inr (.inr ⟨h1,List.mem_cons_of_mem _ h2,h3⟩)
     show x∈p.1 :: xsOf (jah ps (q :: qs));rcases hx with hx|hx
     · rcases List.mem_cons.1 (show x∈p.1 :: ps.map (·.1) from hx) with rfl|hx
       · exact List.mem_cons_self
       exact List.mem_cons_of_mem _ (k3 x (.inl hx))
     exact List.mem_cons_of_mem _ (k3 x (.inr hx))
   by_cases hgt:0<cmpA p.1 q.1
   · rw [jhz ps qs hgt]
     have hlt':cmpA q.1 p.1<0:=by rw[jfn];omega
     obtain⟨k1,k2,k3⟩:=jff n (p :: ps) qs (by simp only[List.length_cons];omega) hx ax hy' ay'
     have hbig:∀ z,z∈(p :: ps).map (·.1)∨z∈qs.map (·.1)→cmpA q.1 z<0:=fun z hz=>by
      rcases hz with hz|hz
      · rcases List.mem_cons.1 (show z∈p.1 :: ps.map (·.1) from hz) with rfl|hz
        · exact hlt'
        exact jd5 hlt' (lx z hz)
      exact ly z hz
     have hnot:q.1 ∉ (p :: ps).map (·.1):=fun hm=>by have:=hbig _ (.inl hm);rw[jil] at this;omega
     have hin:∀ e∈jah (p :: ps) qs,e.x∈(p :: ps).map (·.1)∨e.x∈qs.map (·.1):=fun e he=>by
      rcases k2 e he with h|h|h
      · exact .inl h.2.1
      · exact .inr h.2.1
      exact .inl h.2.1
     refine⟨jd4.2 ⟨fun z hz=>?_,k1⟩,fun e he=>?_,fun x hx=>?_⟩
     · obtain ⟨e,he,rfl⟩:=List.mem_map.1 hz
       exact hbig _ (hin e he)
     · rcases List.mem_cons.1 he with rfl|he
       · exact .inr (.inl ⟨rfl,by simp,hnot⟩)
       rcases k2 e he with ⟨h1,h2,h3⟩|⟨h1,h2,h3⟩|⟨h1,h2,h3⟩
       · refine .inl ⟨h1,h2,fun hm=>?_⟩
         rcases List.mem_cons.1 (show e.x∈q.1 :: qs.map (·.1) from hm) with hm|hm
         · exact hnot (hm▸h2)
         exact h3 hm
       · exact .inr (.inl ⟨h1,List.mem_cons_of_mem _ h2,h3⟩)
       exact .inr (.inr ⟨h1,h2,List.mem_cons_of_mem _ h3⟩)
     show x∈q.1 :: xsOf (jah (p :: ps) qs);rcases hx with hx|hx
     · exact List.mem_cons_of_mem _ (k3 x (.inl hx))
     rcases List.mem_cons.1 (show x∈q.1 :: qs.map (·.1) from hx) with rfl|hx
     · exact List.mem_cons_self
     exact List.mem_cons_of_mem _ (k3 x (.inr hx))
   have he0:cmpA p.1 q.1=0:=by omega
   have hpq:p.1=q.1:=jz8 hfx hfy he0;rw[jh0 ps qs he0];obtain⟨k1,k2,k3⟩:=jff n ps qs (by omega) hx' ax' hy' ay'
   have hbig:∀ z,z∈ps.map (·.1)∨z∈qs.map (·.1)→cmpA p.1 z<0:=fun z hz=>by
    rcases hz with hz|hz
    · exact lx z hz
    rw[hpq];exact ly z hz
   have hno:∀ z,z∈ps.map (·.1)∨z∈qs.map (·.1)→z≠p.1:=fun z hz e=>by have:=hbig z hz;rw[e,jil] at this;omega
   have hin:∀ e∈jah ps qs,e.x∈ps.map (·.1)∨e.x∈qs.map (·.1):=fun e he=>by
    rcases k2 e he with h|h|h
    · exact .inl h.2.1
    · exact .inr h.2.1
    exact .inl h.2.1
   refine⟨jd4.2 ⟨fun z hz=>?_,k1⟩,fun e he=>?_,fun x hx=>?_⟩
   · obtain ⟨e,he,rfl⟩:=List.mem_map.1 hz
     exact hbig _ (hin e he)
   · rcases List.mem_cons.1 he with rfl|he
     · exact .inr (.inr ⟨rfl,by simp,by show p.1∈q.1 :: _;rw[hpq];exact List.mem_cons_self⟩)
     rcases k2 e he with ⟨h1,h2,h3⟩|⟨h1,h2,h3⟩|⟨h1,h2,h3⟩
     · refine .inl ⟨h1,List.mem_cons_of_mem _ h2,fun hm=>?_⟩
       rcases List.mem_cons.1 (show e.x∈q.1 :: qs.map (·.1) from hm) with hm|hm
       · exact hno _ (.inl h2) (hm.trans hpq.symm)
       exact h3 hm
     · refine .inr (.inl ⟨h1,List.mem_cons_of_mem _ h2,fun hm=>?_⟩)
       rcases List.mem_cons.1 (show e.x∈p.1 :: ps.map (·.1) from hm) with hm|hm
       · exact hno _ (.inr h2) hm
       exact h3 hm
     exact .inr (.inr ⟨h1,List.mem_cons_of_mem _ h2,List.mem_cons_of_mem _ h3⟩)
   show x∈p.1 :: xsOf (jah ps qs);rcases hx with hx|hx
   · rcases List.mem_cons.1 (show x∈p.1 :: ps.map (·.1) from hx) with rfl|hx
     · exact List.mem_cons_self
     exact List.mem_cons_of_mem _ (k3 x (.inl hx))
   rcases List.mem_cons.1 (show x∈q.1 :: qs.map (·.1) from hx) with e|hx
   · rw[e,← hpq];exact List.mem_cons_self
   exact List.mem_cons_of_mem _ (k3 x (.inr hx))
section
variable {ps qs:List P2} (hx:Facts (ps.map (·.1))) (ax:Asc (ps.map (·.1))) (hy:Facts (qs.map (·.1))) (ay:Asc (qs.map (·.1)))
include hx ax hy ay
theorem js8:xsOf (jah ps qs)=(qs.map (·.1)).foldl putA (ps.map (·.1)):=by
 obtain⟨k1,k2,k3⟩:=jff _ ps qs (Nat.le_refl _) hx ax hy ay;obtain⟨m1,m2,m3⟩:=jn2 hx ax hy;refine jo5 k1 m2 fun x=>?_
 rw[m3];refine⟨fun h=>?_,k3 x⟩;obtain⟨e,he,rfl⟩:=List.mem_map.1 h;rcases k2 e he with h|h|h
 · exact .inl h.2.1
 · exact .inr h.2.1
 exact .inl h.2.1
theorem jn4:xsOf ((jah ps qs).filter fun e=>e.s == 0)=lessA (ps.map (·.1)) (qs.map (·.1)):=by
 obtain⟨k1,k2,k3⟩:=jff _ ps qs (Nat.le_refl _) hx ax hy ay;obtain⟨m1,m2,m3⟩:=jn3 hx ax hy ay;refine jo5 (k1.sublist (List.Sublist.map _ List.filter_sublist)) m2 fun x=>?_
 rw[m3]
 constructor
 · intro h
   obtain⟨e,he,rfl⟩:=List.mem_map.1 h;obtain⟨he,hs⟩:=List.mem_filter.1 he;rcases k2 e he with h|h|h
   · exact h.2
   · rw[h.1] at hs;simp at hs
   rw[h.1] at hs;simp at hs
 rintro ⟨h1,h2⟩;obtain⟨e,he,rfl⟩:=List.mem_map.1 (k3 x (.inl h1));refine List.mem_map.2 ⟨e,List.mem_filter.2 ⟨he,?_⟩,rfl⟩;rcases k2 e he with h|h|h
 · rw[h.1];rfl
 · exact absurd h1 h.2.2
 exact absurd h.2.2 h2
theorem js9:((jah ps qs).all fun e=> !(e.s == 0))=(ps.map (·.1)).all (hasA (qs.map (·.1))):=by
 have h:=jn4 hx ax hy ay;rw[Bool.eq_iff_iff,List.all_eq_true,List.all_eq_true]
 constructor
 · intro k x hxm
   cases hh:hasA (qs.map (·.1)) x with
   | true=>rfl
   | false =>
     have hm:x∈lessA (ps.map (·.1)) (qs.map (·.1)):=List.mem_filter.2 ⟨hxm,by rw[hh];rfl⟩;rw[← h] at hm;obtain⟨e,he,rfl⟩:=List.mem_map.1 hm;obtain⟨he,hs⟩:=List.mem_filter.1 he;have:=k e he;rw[hs] at this;cases this
 intro k e he
 cases hs:(e.s == 0) with
 | false=>rfl
 | true =>
   have hm:e.x∈xsOf ((jah ps qs).filter fun e=>e.s == 0):=List.mem_map.2 ⟨e,List.mem_filter.2 ⟨he,hs⟩,rfl⟩;rw[h] at hm;obtain⟨h1,h2⟩:=List.mem_filter.1 hm;rw[k _ h1] at h2;cases h2
end
/-! ### Facts that are ok -/
theorem jdt {l:List GA} {n:Nat} (h:jbe l n=true):Facts l∧Asc l∧l.length≤n:=by
 refine⟨?_,jgq h,?_⟩
 · unfold jbe at h
   simp only[Bool.and_eq_true,List.all_eq_true] at h;exact h.1.1
 unfold jbe at h;simp only[Bool.and_eq_true,decide_eq_true_eq] at h;exact h.2
end Go.Proofs.YthdojieomhighaaGreatDoor
namespace Go.Proofs.YthdojieomhighaaGreatDoor
open Go.RowKit Go.Shelf
attribute [local go_sem] Oper.semAt_some
theorem jim {α:Type} {k:Kind α} {S T:Nat→Prop} {w:World} {v:Value} {xs ys:List α} {base:Nat} {e:TypeId} {F:Fence} {n:Nat} {P:Program} {ops:Array Oper} {rest:List Oper} {o:Oper} {a:Act} {Q:Exit→Act→World→Prop} (hgd:o.guard=none) (s x':Operand) (t:TypeId)
  (ho:o.op=.call { callee:=.builtin .append,args:= #[s,x'],argTypes:= #[t,t] })
  (i:TypeInfo) (z:Value) (bytes:Nat) (ht:P.underlying t=some (.slice e)) (hi:P.info? e=some i) (hz:i.zero=some z)
  (hsize:i.size=k.size) (hby:i.bytes=bytes) (hzs:z.cells.size=k.size)
  (hs:a.eval s=v) (hown:OwnK k base e S w v xs) (A:Option Addr) (m c:Nat) (hx:a.eval x'=.slice A m c) (hu:jas k T w (.slice A m c) ys) (hT:∀ b,T b→b<w.heap.size→S b) (hTv:∀ g,v.ownBlock=some g→¬ T g)
  (h63:xs.length+m≤maxLen) (hbytes:(xs.length+m)*bytes≤140737488355328) (hbase:base≤w.heap.size)
  (h:∀ v' w',Apped k base e S w v (xs++ys) v' w'→wpListIn F n P ops Q rest (a.put o.dst v') w'):wpListIn F n P ops Q (o :: rest) a w:=by
 refine wpListIn_plain hgd fun K hK'=>?_
 obtain⟨v',w',hr,h2⟩:=jt5 (P:=P) w t o.type i z bytes ht hi hz hsize hby hzs hown A m c hu hT hTv h63 hbytes hbase;unfold Oper.wpIn;refine⟨?_,?_⟩
 · simp[Oper.about,ho,resolve,Target.leads,Sem.run_pure]
 rw[Oper.semAt_plain F _ _ (by rw[ho];intro c hc';cases hc')];simp[execOp,ho,resolve,invoke,builtin,hs,hx,hr,Result.andThen];exact hK' _ _ (h v' w' h2)
theorem OwnK.cells {α:Type} {k:Kind α} {S:Nat→Prop} {w:World} {v:Value} {xs:List α} {base:Nat} {e:TypeId} (h:OwnK k base e S w v xs):∀ (g:Nat) (o:Obj),v.ownBlock=some g→w.heap[g]? = some o→o.isCells=true:=by
 intro g o hg ho;obtain⟨rows,T,h1,_⟩:=h;rcases h1.2 with ⟨rfl,_⟩|⟨g',cap,cur,rfl,_,hc,_⟩
 · simp[Value.ownBlock] at hg
 simp only[Value.ownBlock] at hg;injection hg with hg
 subst hg;rw[hc] at ho;injection ho with ho
 subst ho
 rfl
structure MS where
 x:GA
 A:Option Addr
 n:Nat
 c:Nat
 s:Int
def toME (e:MS):ME:=⟨e.x,.slice e.A e.n e.c,e.s⟩
theorem jfh.lift {α β:Type} {F:Fence} {n:Nat} {P:Program} {g:Nat} {lb:Array Value} {encs:α→Array Value} {Step:World→World→Prop} {E:World→World→α→Prop} {Kp:World→World→Prop} {S:List α→Prop} {N:Nat} {w:World}
  (f:β→α) (hE:∀ W0 W1 x,E W0 W1 x→∃ b,f b=x) (h:jfh F n P g lb encs Step E Kp S N w):jfh F n P g lb (fun b=>encs (f b)) Step (fun W0 W1 b=>E W0 W1 (f b)) Kp (fun L=>S (L.map f)) N w:=by
 intro l J W hW hJ hY h0;refine (h l (fun pre W=>∃ q:List β,q.map f=pre∧J q W) W hW (fun s A B ⟨q,e,hq⟩ hs=>⟨q,e,hJ q A B hq hs⟩) (fun pre x W0 W1 ⟨q,e,hq⟩ hs hE' hlen=>?_) ⟨[],rfl,h0⟩).mono ?_
 · obtain ⟨b,rfl⟩:=hE _ _ _ hE'
   obtain⟨fn,tmps,assign,body,hy,hR⟩:=hY q b W0 W1 hq hs hE' (by rw[← e] at hlen;simpa using hlen);exact⟨fn,tmps,assign,body,hy,hR.mono fun e' W' ⟨h1,h2,h3⟩=>⟨h1,⟨q++[b],by simp[e],h2⟩,h3⟩⟩
 rintro e W' ⟨hv,xs,hS,q,rfl,hq⟩;exact⟨hv,q,hS,hq⟩
structure UniV (w0:World) (ob D:Nat) (xs:List GA) (v:Value) (W:World):Prop where
 fl:Blk W ob 30 #[v]
 fo:OwnK kAtom (D+2) 43 (fun b=>b<w0.heap.size) W v xs
 fx:Ext w0 W
section
variable {w0:World} {ob D:Nat} {xs:List GA} {A B:World} {v:Value}
theorem UniV.turned (h:UniV w0 ob D xs v A) (ht:jcv D A B) (h1:ob<D) (h3:w0.heap.size≤D):UniV w0 ob D xs v B :=
 ⟨(ht.block _ h.fl.lt (by omega) (by omega)).trans h.fl,
   h.fo.agree (fun b hb hlt=>ht.block b hlt (by omega) (by omega)) (fun g hg=>ht.block g (h.fo.at_ g hg).2 (by have:=(h.fo.at_ g hg).1;omega) (by have:=(h.fo.at_ g hg).1;omega)) ht.size,
   ⟨ht.os.trans h.fx.os,ht.tape.trans h.fx.tape,ht.output.trans h.fx.output,Nat.le_trans h.fx.size ht.size,fun b hb=>(ht.block b (Nat.lt_of_lt_of_le hb h.fx.size) (by omega) (by omega)).trans (h.fx.block b hb)⟩⟩
theorem UniV.ext (h:UniV w0 ob D xs v A) (he:Ext A B):UniV w0 ob D xs v B:=⟨h.fl.ext he,h.fo.ext he,h.fx.trans' he⟩
end
theorem jfu {S:Nat→Prop} {w:World} {v:Value} {ps:List P2} (h:jdj S w v ps) {p:P2} (hp:p∈ps):p.1.n.size≤maxLen∧jae S w p.2 p.1.args:=by
 obtain⟨A,c,rfl,_⟩:=jaa.form h;obtain⟨i,hi⟩:=List.mem_iff_getElem?.1 hp;obtain⟨b,off,x,_,_,hx,h1,h2,_,_⟩:=jdj.at_ h (k:=i) (List.getElem?_eq_some_iff.1 hi).1;obtain rfl:p=x:=Option.some.inj (hi.symm.trans hx);exact⟨h1,h2⟩
theorem jdu:∀ (n:Nat) (ps qs:List P2) (e:ME),e∈jb0 n ps qs→(e.x,e.v)∈ps∨(e.x,e.v)∈qs
 | 0,_,_,e,h=>by simp[jb0] at h
 | n+1,[],[],e,h=>by simp[jb0] at h
 | n + 1,x :: xs,[],e,h=>by
   rw[jb0] at h;rcases List.mem_cons.1 h with rfl|h
   · exact .inl List.mem_cons_self
   · exact (jdu n xs [] e h).imp (List.mem_cons_of_mem _) id
 | n + 1,[],y :: ys,e,h=>by
   rw[jb0] at h;rcases List.mem_cons.1 h with rfl|h
   · exact .inr List.mem_cons_self
   · exact (jdu n [] ys e h).imp id (List.mem_cons_of_mem _)
 | n + 1,x :: xs,y :: ys,e,h=>by
   rw[jb0] at h;split at h
   · rcases List.mem_cons.1 h with rfl|h
     · exact .inl List.mem_cons_self
     exact (jdu n xs (y :: ys) e h).imp (List.mem_cons_of_mem _) id
   split at h
   · rcases List.mem_cons.1 h with rfl|h
     · exact .inr List.mem_cons_self
     exact (jdu n (x :: xs) ys e h).imp id (List.mem_cons_of_mem _)
   rcases List.mem_cons.1 h with rfl|h
   · exact .inl List.mem_cons_self
   exact (jdu n xs ys e h).imp (List.mem_cons_of_mem _) (List.mem_cons_of_mem _)
theorem jdv:∀ (n:Nat) (ps qs:List P2),(jb0 n ps qs).length≤n
 | 0,_,_=>by simp[jb0]
 | n+1,[],[]=>by simp[jb0]
 | n+1,x :: xs,[]=>by rw[jb0,List.length_cons];have:=jdv n xs [];omega
 | n+1,[],y :: ys=>by rw[jb0,List.length_cons];have:=jdv n [] ys;omega
 | n + 1,x :: xs,y :: ys=>by
   rw[jb0];split
   · rw[List.length_cons];have:=jdv n xs (y :: ys);omega
   split
   · rw[List.length_cons];have:=jdv n (x :: xs) ys;omega
   rw[List.length_cons];have:=jdv n xs ys;omega
theorem juz:(Tryz.prog.info? 43).map (fun i=>(i.zero,i.size,i.bytes))=some (some (.agg #[.string ByteArray.empty,.slice none 0 0]),2,40):=by kernel_rfl
def jf1 (L:List ME):List GA:=(L.filter fun e=>e.s == 0).map (·.x)
theorem jwa (L:List ME):(jf1 L).length≤L.length:=by
 unfold jf1;rw[List.length_map];exact List.length_filter_le _ _
theorem jta (v u:Value) (xs ys:List GA) (w:World) {S T:Nat→Prop} (hv:jac S w v xs) (hu:jac T w u ys) (hl:xs.length+ys.length≤100000) :
  ∃ ps qs:List P2,ps.map (·.1)=xs∧qs.map (·.1)=ys ∧
  Calls Tryz.prog 110 #[v,u] w fun e w'=>(∃ r,e=.returned r∧jac Any w' r (xsOf (jah ps qs)))∧Ext w w':=by
 obtain⟨ps,hps,hp⟩:=hv.low.pairs;obtain⟨qs,hqs,hq⟩:=hu.low.pairs;refine⟨ps,qs,hps,hqs,?_⟩;have hlen:ps.length+qs.length≤100000:=by rw[← hps,← hqs] at hl;simpa using hl
 have hml:(jah ps qs).length≤100000:=Nat.le_trans (jdv _ _ _) hlen;clear hps hqs hv hu hl;obtain⟨A,c,rfl,hc1,hc2⟩:=jaa.form hp;obtain⟨B,d,rfl,hd1,hd2⟩:=jaa.form hq;obtain⟨i0,hi0,hz0,hz1,hz2⟩:=info_parts juz;have HP:=zh hp;have HQ:=zh hq;have HM:=zh (fun (x:ME) (hx:x∈jah ps qs)=>(show x.x.n.size≤maxLen∧jae (fun b=>b<w.heap.size) w x.v x.x.args from (jdu _ _ _ _ hx).elim (fun h=>jfu hp h) (fun h=>jfu hq h)));clear hp hq;refine (callsIn_wide (n:=5)).1 ?_;refine callsIn_of_wp_marks Tryz.func110 rfl trivial ?_ rfl;simp only[Tryz.ntmps110,List.size_toArray,List.length_cons,List.length_nil,Nat.reduceAdd,Nat.reduceSub,Array.replicate_succ,Array.replicate_zero,List.push_toArray,List.append_toArray,List.nil_append,List.cons_append];have tok:True:=trivial
 gi_wp2_with (first
  | (refine⟨trivial,?_⟩;gi_at_call 108;have _t:=tok;refine (callsIn_wide.2 (jcz _ _ _ _)).mono ?_;clear tok _t;rintro e w1 ⟨rfl,hx1⟩)
  | (refine⟨trivial,?_⟩;gi_at_call 108;refine (callsIn_wide.2 (jcz _ _ _ _)).mono ?_;rintro e w2 ⟨rfl,hx2⟩)
  | (refine⟨trivial,?_⟩;gi_at_call 109;refine (callsIn_wide.2 (jh1 _ _ _ _ _ _ _)).mono ?_;rintro e w3 ⟨rfl,rfl⟩))
 have hs1:=hx1.size;have hs2:=hx2.size;simp only[World.size_alloc] at hs1;obtain⟨W0,hW0⟩:∃ W0,W0=((w2.alloc (.cells #[.slice A ps.length c,.func (.func 133) #[] #[]] 152)).alloc (.cells #[.slice B qs.length d,.func (.func 133) #[] #[]] 152)):=⟨_,rfl⟩
 have hB0:Ext w W0:=by rw[hW0];exact (((((Ext.refl w).alloc _).trans' hx1).trans' hx2).alloc _).alloc _
 have hB1:Ext (w.alloc (.cells #[.slice none 0 0] 30)) W0:=by rw[hW0];exact ((hx1.trans' hx2).alloc _).alloc _
 have hr1:Blk W0 w.heap.size 30 #[.slice none 0 0]:=(Blk.new w _ _).ext hB1;have hb1:Blk W0 w2.heap.size 152 #[.slice A ps.length c,.func (.func 133) #[] #[]]:=by rw[hW0];exact (Blk.new _ _ _).alloc _
 have hb2:Blk W0 (w2.heap.size+1) 152 #[.slice B qs.length d,.func (.func 133) #[] #[]]:=by
  rw[hW0];have:=Blk.new (w2.alloc (.cells #[.slice A ps.length c,.func (.func 133) #[] #[]] 152)) 152 #[.slice B qs.length d,.func (.func 133) #[] #[]]
  rwa [World.size_alloc] at this
 have hD:W0.heap.size=w2.heap.size+2:=by rw[hW0];simp
 have HD:=zh hD;have hD1:w2.heap.size+2≤W0.heap.size:=by omega
 rw[← hW0];clear hW0 hB1 hx1 hx2 hD
 refine jfx (F:=Fence.wide) (α:=MS) rfl (by omega) (gf:=162) (lb:= #[.pointer (some ⟨w2.heap.size,0,none⟩),.pointer (some ⟨w2.heap.size+1,0,none⟩)]) rfl trivial (enters_of Tryz.func162 (by kernel_rfl) rfl)
  (jfh.lift toME (fun _ _ x hx=>by
    obtain⟨VA,vc,hva,_,_⟩:=jaa.form (HM.out x hx).2;exact⟨⟨x.x,VA,_,vc,x.s⟩,by unfold toME;rw[← hva]⟩) (jj9 4 (by omega) w2.heap.size (w2.heap.size+1) (fun b=>b≠w.heap.size∧b<w2.heap.size+2) W0 _ _ ps qs ⟨by omega,by omega⟩ ⟨by omega,by omega⟩
   (hb1.cell 0) (hb1.cell 1) (hb2.cell 0) (HP.out.imp (fun b hb=>⟨by omega,by omega⟩) (.of_ext hB0) hB0.size) (HQ.out.imp (fun b hb=>⟨by omega,by omega⟩) (.of_ext hB0) hB0.size)))
  (fun A B l o hs hl ho _=>(hs.block l (Array.getElem?_eq_some_iff.1 ho).1).trans ho)
  KeepR.trans (fun W l o o' hl ho _ _=>⟨by simp[World.putObj],fun b hb hlt=>(grownBy_putObj' W l o').block b hlt (fun e=>by injection e with e;omega)⟩) (Below.refl _ _) (fun _=>rfl)
  (fun pre W=>∃ v,UniV w w.heap.size W0.heap.size (xsOf (pre.map toME)) v W)
  (fun pre A B ⟨v,h⟩ ht=>⟨v,h.turned ht (by omega) (by omega)⟩) (fun pre A B ⟨v,h⟩ ht=>⟨v,h.ext ht⟩)
  ⟨_,hr1,OwnK.nil,hB0⟩ ?a1 ?g ?hgs ?hgk ?assign ?body ?done
 case assign =>
  intro x W K hK;simp only[encME,toME]
  gi_wp2
  exact hK
 case hgs=>exact fun x W=>KeepsOthers.alloc _ _
 case hgk=>exact fun x W=>.of_ext ((Ext.refl _).alloc _)
 case body =>
  rintro pre x W1 W2 o' ⟨v,hI⟩ hst hx hlen hlt1 hlt2 ⟨o,ho,hoc⟩;have hz:=hst.size;obtain⟨hxs,hxt⟩:=HM.out _ hx;simp only[toME] at hxs hxt;obtain⟨Wb,hWb⟩:∃ Wb,Wb=(W2.alloc (.cells #[.string x.x.n,.slice x.A x.n x.c] 43)).putObj (W0.heap.size+1) o':=⟨_,rfl⟩
  have hzb1:W2.heap.size+1≤Wb.heap.size:=by rw[hWb];simp
  have hzb2:Wb.heap.size≤W2.heap.size+1:=by rw[hWb];simp
  have hT:jcv W0.heap.size (W2.alloc (.cells #[.string x.x.n,.slice x.A x.n x.c] 43)) Wb:=by rw[hWb];exact jcv.putObj _ _ (.inr rfl)
  have hIb:=((hI.ext hst).ext ((Ext.refl _).alloc (.cells #[.string x.x.n,.slice x.A x.n x.c] 43))).turned hT (by omega) (by omega);have hcb:Blk Wb W2.heap.size 43 #[.string x.x.n,.slice x.A x.n x.c]:=(hT.block _ (by simp) (by omega) (by omega)).trans (Blk.new _ _ _);rw[← hWb];have HIB:=zh hIb;have HXT:=zh (show jae (fun b=>b<w.heap.size) Wb (.slice x.A x.n x.c) x.x.args from hxt.ext hIb.fx);have HXS:=zh hxs;have HXL:=zh (show (xsOf (pre.map toME)).length<100000 from by unfold xsOf;rw[List.length_map,List.length_map];omega);have hwb:=hIb.fx.size;obtain⟨A4,n4,c4,rfl,hn4,ha4,hb4⟩:=hIb.fo.form2;have c0:=hIb.fl.cell 0;have c2:=hcb.cell 0;have c3:=hcb.cell 1;have hl1:=hIb.fl.lt;have hl3:=hcb.lt;have f0:=hIb.fl.frozen 0;have HDW:=zh (show W0.heap.size+2≤Wb.heap.size from by omega);have HXM:=zh (show xsOf ((pre++[x]).map toME)=xsOf (pre.map toME)++[x.x] from by unfold xsOf;simp[toME]);clear hWb hT hIb hxt hxs hI ho hoc hst
  gi_wp2_with (first
   | (gi_at_builtin;go_loud (refine jim (k:=kAtom) (S:=fun b=>b<w.heap.size) (T:=fun b=>b<w.heap.size) (base:=W0.heap.size+2) (xs:=xsOf (pre.map toME)) (ys:=[x.x]) rfl (.tmp 14) (.tmp 16) 30 (by rfl) i0 _ 40 Tryz.underlying30 hi0 hz0 hz1 hz2 (by rfl) (by rfl) (HIB.out.fo.ext ((Ext.refl _).alloc _)) (some ⟨Wb.heap.size,0,none⟩) 1 1 (by rfl) (jas.one (k:=kAtom) (x:=x.x) (Blk.new Wb 43 #[.string x.x.n,.slice x.A x.n x.c]) ⟨_,rfl,HXS.out,HXT.out.ext ((Ext.refl _).alloc _)⟩) (fun b hb _=>hb) (fun g hg hb=>absurd (HIB.out.fo.at_ g hg).1 (by omega)) (maxOf (by have:=HXL.out;omega)) (by have:=HXL.out;omega) (by have:=HDW.out;simp only[World.size_alloc];omega) ?_)
      intro v5 w5 hap;obtain⟨A5,n5,c5,rfl,hn5,ha5,hb5⟩:=hap.own.form2;have HAP:=zh hap;have hl5:=((HIB.out.fl.alloc (.cells #[.string x.x.n,.slice x.A x.n x.c] 43)).below hap.below (by omega))
      have p0:=hl5.cell 0;have g0:=hl5.frozen 0;have pl5:=hl5.lt;have hz5:=hap.grown.size;have HL5:=zh hl5;clear hap hl5))
  have hbel:=HAP.out.below;have hgr:=HAP.out.grown;refine⟨((KeepsOthers.alloc Wb _).trans (KeepsOthers.of_grownBy HAP.out.grown (fun j o h1 h2=>OwnK.cells (HIB.out.fo.ext ((Ext.refl _).alloc _)) j o h1 h2))).trans (KeepsOthers.setCell _ _ _),⟨by have h:=HAP.out.grown.size;simp only[World.size_alloc] at h;have h2:Wb.heap.size≤w5.heap.size:=(by omega);go_size;try exact h2,fun b hb hlt=>?_⟩,.slice A5 n5 c5,?_,?_,?_⟩
  · refine (Below.heap_setCell _ _ _ _ (by simp only;omega)).trans ((hbel.block b (by omega)).trans ?_)
    exact (Below.heap_alloc _ _ _ hlt)
  · simpa using HL5.out.set_ 0 (.slice A5 n5 c5)
  · rw [HXM.out]
    refine HAP.out.own.agree ((Agree.refl _ _).setCell (by simp only;omega) _) (fun g hg=>?_) (by go_size);have:=(HAP.out.own.at_ g hg).1;exact Below.heap_setCell _ _ _ _ (by simp only;omega)
  exact Ext.setNew (HAP.out.toExt (HIB.out.fx.alloc _) (by omega)) (Nat.le_refl _) _
 case done =>
  rintro xs W hxs ⟨v,hI⟩ hK;obtain⟨A4,n4,c4,rfl,hn4,ha4,hb4⟩:=hI.fo.form2;have c0:=hI.fl.cell 0;have hl1:=hI.fl.lt;have HI:=zh hI;have HXX:=zh hxs;clear hI hxs
  gi_wp2
  have hF:=HI.out.turned (jcv.putObj (D:=W0.heap.size) (l:=W0.heap.size) W (.deferred none) (.inl rfl)) (by omega) (by omega);refine⟨by simp,.inl ⟨_,_,rfl,run_takeDeferred hK,?_⟩⟩;refine⟨.slice A4 n4 c4,by simp[results,Tryz.results110,go_sem],⟨_,rfl,?_⟩,hF.fx⟩;rw[← HXX.out];exact hF.fo.list (S':=Any) (fun _ _=>trivial) (fun _ _=>trivial)
theorem jo6 (v u:Value) (xs ys:List GA) (w:World) {S T:Nat→Prop} (hv:jac S w v xs) (hu:jac T w u ys) (hl:xs.length+ys.length≤100000) :
  ∃ ps qs:List P2,ps.map (·.1)=xs∧qs.map (·.1)=ys ∧
  Calls Tryz.prog 111 #[v,u] w fun e w'=>(∃ r,e=.returned r∧jac Any w' r (jf1 (jah ps qs)))∧Ext w w':=by
 obtain⟨ps,hps,hp⟩:=hv.low.pairs;obtain⟨qs,hqs,hq⟩:=hu.low.pairs;refine⟨ps,qs,hps,hqs,?_⟩;have hlen:ps.length+qs.length≤100000:=by rw[← hps,← hqs] at hl;simpa using hl
 have hml:(jah ps qs).length≤100000:=Nat.le_trans (jdv _ _ _) hlen;clear hps hqs hv hu hl;obtain⟨A,c,rfl,hc1,hc2⟩:=jaa.form hp;obtain⟨B,d,rfl,hd1,hd2⟩:=jaa.form hq;obtain⟨i0,hi0,hz0,hz1,hz2⟩:=info_parts juz;have HP:=zh hp;have HQ:=zh hq;have HM:=zh (fun (x:ME) (hx:x∈jah ps qs)=>(show x.x.n.size≤maxLen∧jae (fun b=>b<w.heap.size) w x.v x.x.args from (jdu _ _ _ _ hx).elim (fun h=>jfu hp h) (fun h=>jfu hq h)));clear hp hq;refine (callsIn_wide (n:=5)).1 ?_;refine callsIn_of_wp_marks Tryz.func111 rfl trivial ?_ rfl;simp only[Tryz.ntmps111,List.size_toArray,List.length_cons,List.length_nil,Nat.reduceAdd,Nat.reduceSub,Array.replicate_succ,Array.replicate_zero,List.push_toArray,List.append_toArray,List.nil_append,List.cons_append];have tok:True:=trivial
 gi_wp2_with (first
  | (refine⟨trivial,?_⟩;gi_at_call 108;have _t:=tok;refine (callsIn_wide.2 (jcz _ _ _ _)).mono ?_;clear tok _t;rintro e w1 ⟨rfl,hx1⟩)
  | (refine⟨trivial,?_⟩;gi_at_call 108;refine (callsIn_wide.2 (jcz _ _ _ _)).mono ?_;rintro e w2 ⟨rfl,hx2⟩)
  | (refine⟨trivial,?_⟩;gi_at_call 109;refine (callsIn_wide.2 (jh1 _ _ _ _ _ _ _)).mono ?_;rintro e w3 ⟨rfl,rfl⟩))
 have hs1:=hx1.size;have hs2:=hx2.size;simp only[World.size_alloc] at hs1;obtain⟨W0,hW0⟩:∃ W0,W0=((w2.alloc (.cells #[.slice A ps.length c,.func (.func 133) #[] #[]] 152)).alloc (.cells #[.slice B qs.length d,.func (.func 133) #[] #[]] 152)):=⟨_,rfl⟩
 have hB0:Ext w W0:=by rw[hW0];exact (((((Ext.refl w).alloc _).trans' hx1).trans' hx2).alloc _).alloc _
 have hB1:Ext (w.alloc (.cells #[.slice none 0 0] 30)) W0:=by rw[hW0];exact ((hx1.trans' hx2).alloc _).alloc _
 have hr1:Blk W0 w.heap.size 30 #[.slice none 0 0]:=(Blk.new w _ _).ext hB1;have hb1:Blk W0 w2.heap.size 152 #[.slice A ps.length c,.func (.func 133) #[] #[]]:=by rw[hW0];exact (Blk.new _ _ _).alloc _
 have hb2:Blk W0 (w2.heap.size+1) 152 #[.slice B qs.length d,.func (.func 133) #[] #[]]:=by
  rw[hW0];have:=Blk.new (w2.alloc (.cells #[.slice A ps.length c,.func (.func 133) #[] #[]] 152)) 152 #[.slice B qs.length d,.func (.func 133) #[] #[]]
  rwa [World.size_alloc] at this
 have hD:W0.heap.size=w2.heap.size+2:=by rw[hW0];simp
 have HD:=zh hD;have hD1:w2.heap.size+2≤W0.heap.size:=by omega
 rw[← hW0];clear hW0 hB1 hx1 hx2 hD
 refine jfx (F:=Fence.wide) (α:=MS) rfl (by omega) (gf:=162) (lb:= #[.pointer (some ⟨w2.heap.size,0,none⟩),.pointer (some ⟨w2.heap.size+1,0,none⟩)]) rfl trivial (enters_of Tryz.func162 (by kernel_rfl) rfl)
  (jfh.lift toME (fun _ _ x hx=>by
    obtain⟨VA,vc,hva,_,_⟩:=jaa.form (HM.out x hx).2;exact⟨⟨x.x,VA,_,vc,x.s⟩,by unfold toME;rw[← hva]⟩) (jj9 4 (by omega) w2.heap.size (w2.heap.size+1) (fun b=>b≠w.heap.size∧b<w2.heap.size+2) W0 _ _ ps qs ⟨by omega,by omega⟩ ⟨by omega,by omega⟩
   (hb1.cell 0) (hb1.cell 1) (hb2.cell 0) (HP.out.imp (fun b hb=>⟨by omega,by omega⟩) (.of_ext hB0) hB0.size) (HQ.out.imp (fun b hb=>⟨by omega,by omega⟩) (.of_ext hB0) hB0.size)))
  (fun A B l o hs hl ho _=>(hs.block l (Array.getElem?_eq_some_iff.1 ho).1).trans ho)
  KeepR.trans (fun W l o o' hl ho _ _=>⟨by simp[World.putObj],fun b hb hlt=>(grownBy_putObj' W l o').block b hlt (fun e=>by injection e with e;omega)⟩) (Below.refl _ _) (fun _=>rfl)
  (fun pre W=>∃ v,UniV w w.heap.size W0.heap.size (jf1 (pre.map toME)) v W)
  (fun pre A B ⟨v,h⟩ ht=>⟨v,h.turned ht (by omega) (by omega)⟩) (fun pre A B ⟨v,h⟩ ht=>⟨v,h.ext ht⟩)
  ⟨_,hr1,OwnK.nil,hB0⟩ ?a1 ?g ?hgs ?hgk ?assign ?body ?done
 case assign =>
  intro x W K hK;simp only[encME,toME]
  gi_wp2
  exact hK
 case hgs=>exact fun x W=>KeepsOthers.alloc _ _
 case hgk=>exact fun x W=>.of_ext ((Ext.refl _).alloc _)
 case body =>
  rintro pre x W1 W2 o' ⟨v,hI⟩ hst hx hlen hlt1 hlt2 ⟨o,ho,hoc⟩;have hz:=hst.size;obtain⟨hxs,hxt⟩:=HM.out _ hx;simp only[toME] at hxs hxt;obtain⟨Wb,hWb⟩:∃ Wb,Wb=(W2.alloc (.cells #[.string x.x.n,.slice x.A x.n x.c] 43)).putObj (W0.heap.size+1) o':=⟨_,rfl⟩
  have hzb1:W2.heap.size+1≤Wb.heap.size:=by rw[hWb];simp
  have hzb2:Wb.heap.size≤W2.heap.size+1:=by rw[hWb];simp
  have hT:jcv W0.heap.size (W2.alloc (.cells #[.string x.x.n,.slice x.A x.n x.c] 43)) Wb:=by rw[hWb];exact jcv.putObj _ _ (.inr rfl)
  have hIb:=((hI.ext hst).ext ((Ext.refl _).alloc (.cells #[.string x.x.n,.slice x.A x.n x.c] 43))).turned hT (by omega) (by omega);have hcb:Blk Wb W2.heap.size 43 #[.string x.x.n,.slice x.A x.n x.c]:=(hT.block _ (by simp) (by omega) (by omega)).trans (Blk.new _ _ _);rw[← hWb];have HIB:=zh hIb;have HXT:=zh (show jae (fun b=>b<w.heap.size) Wb (.slice x.A x.n x.c) x.x.args from hxt.ext hIb.fx);have HXS:=zh hxs;have HXL:=zh (show (jf1 (pre.map toME)).length<100000 from Nat.lt_of_le_of_lt (jwa _) (by rw[List.length_map];omega));have hwb:=hIb.fx.size;obtain⟨A4,n4,c4,rfl,hn4,ha4,hb4⟩:=hIb.fo.form2;have c0:=hIb.fl.cell 0;have c2:=hcb.cell 0;have c3:=hcb.cell 1;have hl1:=hIb.fl.lt;have hl3:=hcb.lt;have f0:=hIb.fl.frozen 0;have HDW:=zh (show W0.heap.size+2≤Wb.heap.size from by omega);clear hWb hT hIb hxt hxs hI ho hoc hst;by_cases hs0:x.s=0
  · have h1:((x.s:Int) == 0)=true:=by simp[hs0]
    have HXM:=zh (show jf1 ((pre++[x]).map toME)=jf1 (pre.map toME)++[x.x] from by unfold jf1;rw[List.map_append,List.filter_append,List.map_append];simp[hs0,toME]);clear hs0
    gi_wp2_with (first
     | (gi_at_builtin;go_loud (refine jim (k:=kAtom) (S:=fun b=>b<w.heap.size) (T:=fun b=>b<w.heap.size) (base:=W0.heap.size+2) (xs:=jf1 (pre.map toME)) (ys:=[x.x]) rfl (.tmp 17) (.tmp 19) 30 (by rfl) i0 _ 40 Tryz.underlying30 hi0 hz0 hz1 hz2 (by rfl) (by rfl) (HIB.out.fo.ext ((Ext.refl _).alloc _)) (some ⟨Wb.heap.size,0,none⟩) 1 1 (by rfl) (jas.one (k:=kAtom) (x:=x.x) (Blk.new Wb 43 #[.string x.x.n,.slice x.A x.n x.c]) ⟨_,rfl,HXS.out,HXT.out.ext ((Ext.refl _).alloc _)⟩) (fun b hb _=>hb) (fun g hg hb=>absurd (HIB.out.fo.at_ g hg).1 (by omega)) (maxOf (by have:=HXL.out;omega)) (by have:=HXL.out;omega) (by have:=HDW.out;simp only[World.size_alloc];omega) ?_)
        intro v5 w5 hap;obtain⟨A5,n5,c5,rfl,hn5,ha5,hb5⟩:=hap.own.form2;have HAP:=zh hap;have hl5:=((HIB.out.fl.alloc (.cells #[.string x.x.n,.slice x.A x.n x.c] 43)).below hap.below (by omega))
        have p0:=hl5.cell 0;have g0:=hl5.frozen 0;have pl5:=hl5.lt;have hz5:=hap.grown.size;have HL5:=zh hl5;clear hap hl5))
    have hbel:=HAP.out.below;have hgr:=HAP.out.grown;refine⟨((KeepsOthers.alloc Wb _).trans (KeepsOthers.of_grownBy HAP.out.grown (fun j o h1 h2=>OwnK.cells (HIB.out.fo.ext ((Ext.refl _).alloc _)) j o h1 h2))).trans (KeepsOthers.setCell _ _ _),⟨by have h:=HAP.out.grown.size;simp only[World.size_alloc] at h;have h2:Wb.heap.size≤w5.heap.size:=(by omega);go_size;try exact h2,fun b hb hlt=>?_⟩,.slice A5 n5 c5,?_,?_,?_⟩
    · refine (Below.heap_setCell _ _ _ _ (by simp only;omega)).trans ((hbel.block b (by omega)).trans ?_)
      exact (Below.heap_alloc _ _ _ hlt)
    · simpa using HL5.out.set_ 0 (.slice A5 n5 c5)
    · rw [HXM.out]
      refine HAP.out.own.agree ((Agree.refl _ _).setCell (by simp only;omega) _) (fun g hg=>?_) (by go_size);have:=(HAP.out.own.at_ g hg).1;exact Below.heap_setCell _ _ _ _ (by simp only;omega)
    exact Ext.setNew (HAP.out.toExt (HIB.out.fx.alloc _) (by omega)) (Nat.le_refl _) _
  have h1:((x.s:Int) == 0)=false:=by simp[hs0]
  have HXM:=zh (show jf1 ((pre++[x]).map toME)=jf1 (pre.map toME) from by unfold jf1;rw[List.map_append,List.filter_append];simp[hs0,toME]);clear hs0
  gi_wp2
  exact⟨KeepsOthers.refl _,⟨Nat.le_refl _,.refl _ _⟩,_,by rw[HXM.out];exact HIB.out⟩
 case done =>
  rintro xs W hxs ⟨v,hI⟩ hK;obtain⟨A4,n4,c4,rfl,hn4,ha4,hb4⟩:=hI.fo.form2;have c0:=hI.fl.cell 0;have hl1:=hI.fl.lt;have HI:=zh hI;have HXX:=zh hxs;clear hI hxs
  gi_wp2
  have hF:=HI.out.turned (jcv.putObj (D:=W0.heap.size) (l:=W0.heap.size) W (.deferred none) (.inl rfl)) (by omega) (by omega);refine⟨by simp,.inl ⟨_,_,rfl,run_takeDeferred hK,?_⟩⟩;refine⟨.slice A4 n4 c4,by simp[results,Tryz.results111,go_sem],⟨_,rfl,?_⟩,hF.fx⟩;rw[← HXX.out];exact hF.fo.list (S':=Any) (fun _ _=>trivial) (fun _ _=>trivial)
theorem jyh (v u:Value) (xs ys:List GA) (w:World) {S T:Nat→Prop} (hv:jac S w v xs) (hu:jac T w u ys) (hl:xs.length+ys.length≤100000) (hx:Facts xs) (ax:Asc xs) (hy:Facts ys) (ay:Asc ys) :
  Calls Tryz.prog 110 #[v,u] w fun e w'=>(∃ r,e=.returned r∧jac Any w' r (ys.foldl putA xs))∧Ext w w':=by
 obtain⟨ps,qs,rfl,rfl,h⟩:=jta v u xs ys w hv hu hl;rw[js8 hx ax hy ay] at h;exact h
theorem jtb (v u:Value) (xs ys:List GA) (w:World) {S T:Nat→Prop} (hv:jac S w v xs) (hu:jac T w u ys) (hl:xs.length+ys.length≤100000) (hx:Facts xs) (ax:Asc xs) (hy:Facts ys) (ay:Asc ys) :
  Calls Tryz.prog 111 #[v,u] w fun e w'=>(∃ r,e=.returned r∧jac Any w' r (lessA xs ys))∧Ext w w':=by
 obtain⟨ps,qs,rfl,rfl,h⟩:=jo6 v u xs ys w hv hu hl;have e:=jn4 hx ax hy ay;rw[← e];exact h
end Go.Proofs.YthdojieomhighaaGreatDoor
namespace Go.Proofs.YthdojieomhighaaGreatDoor
open Go.RowKit
structure GB where
 rules:List GR
 time:Int
 given:List GA
 hist:List GC
def BaseR (S:Nat→Prop) (w:World) (v:Value) (B:GB):Prop:=∃ a b c:Value,v=.agg #[a,.int .i64 B.time,b,c]∧jal S w a B.rules∧jac S w b B.given∧jan S w c B.hist
theorem BaseR.ext {S:Nat→Prop} {w w':World} {v:Value} {B:GB} (h:BaseR S w v B) (he:Ext w w'):BaseR S w' v B:=by
 obtain⟨a,b,c,h1,h2,h3,h4⟩:=h;exact⟨a,b,c,h1,h2.ext he,h3.ext he,h4.ext he⟩
theorem BaseR.form {S:Nat→Prop} {w:World} {v:Value} {B:GB} (h:BaseR S w v B):∃ A1 c1 A2 c2 A3 c3,v=.agg #[.slice A1 B.rules.length c1,.int .i64 B.time,.slice A2 B.given.length c2,.slice A3 B.hist.length c3]:=by
 obtain⟨a,b,c,rfl,h2,h3,h4⟩:=h;obtain⟨A1,c1,rfl,_⟩:=jaa.form h2;obtain⟨A2,c2,rfl,_⟩:=jaa.form h3;obtain⟨A3,c3,rfl,_⟩:=jaa.form h4;exact⟨_,_,_,_,_,_,rfl⟩
theorem BaseR.low {S:Nat→Prop} {w:World} {v:Value} {B:GB} (h:BaseR S w v B):BaseR (fun i=>i<w.heap.size) w v B:=by
 obtain⟨a,b,c,h1,h2,h3,h4⟩:=h;exact⟨a,b,c,h1,ListK.sub (k:=kRule) (ListK.low (k:=kRule) h2) (fun _ h=>h.2),ListK.sub (k:=kAtom) (ListK.low (k:=kAtom) h3) (fun _ h=>h.2),ListK.sub (k:=jha) (ListK.low (k:=jha) h4) (fun _ h=>h.2)⟩
theorem j0z {l:List GR} {o:List Nat} (hl:o.length=l.length) (hs:passL l o=o) (hlow:∀ i,i<l.length→at0 o i<l.length):∃ f,dep l f∧∀ (i:Nat) (a:GR),l[i]? = some a→f a.head.n=at0 o i:=by
 have hi:=jdp (jk2 l) _ o hs
 have key:∀ (i:Nat) (a:GR) (k:Nat) (b:GR),l[i]? = some a→l[k]? = some b→stepH a b i k o=o∧∀ p∈a.body,stepJ l.length b i k o p=o:=by
  intro i a k b ha hb;have hil:=(List.getElem?_eq_some_iff.1 ha).1;have hkl:=(List.getElem?_eq_some_iff.1 hb).1;have h1:=hi i (by simpa using hil);unfold stepI at h1;rw[ha] at h1;have h2:=jdp (jk1 l a i) _ o h1 k (by simpa using hkl);unfold stepK at h2;rw[hb] at h2;have h3:Up o (stepH a b i k o):=jk0 _ _ _ _ _;have h4:=jex (jgr l.length b i k) a.body (stepH a b i k o);have h2':a.body.foldl (stepJ l.length b i k) (stepH a b i k o)=o:=h2;rw[h2'] at h4;have e:=h4.antisymm h3;rw[e] at h2';exact⟨e,jdp (jgr l.length b i k) _ o h2'⟩
 have hH:∀ (i:Nat) (a:GR) (k:Nat) (b:GR),l[i]? = some a→l[k]? = some b→b.head.n=a.head.n→at0 o k≤at0 o i:=by
  intro i a k b ha hb e;have hil:=(List.getElem?_eq_some_iff.1 ha).1;have h1:=(key i a k b ha hb).1;unfold stepH at h1;split at h1
  · have h2:=congrArg (fun x=>at0 x i) h1
    simp only[jfp (show i<o.length from by omega),if_pos] at h2;omega
  rename_i h;have:¬ at0 o i<at0 o k:=fun hc=>h ⟨e,hc⟩
  omega
 let f:ByteArray→Nat:=fun x=>match l.findIdx? (fun r=>decide (r.head.n=x)) with|some k=>at0 o k|none=>0
 have hfa:∀ (i:Nat) (a:GR),l[i]? = some a→f a.head.n=at0 o i:=by
  intro i a ha;show (match l.findIdx? (fun r=>decide (r.head.n=a.head.n)) with|some k=>at0 o k|none=>0)=_
  cases hfi:l.findIdx? (fun r=>decide (r.head.n=a.head.n)) with
  | none =>
    rw[List.findIdx?_eq_none_iff] at hfi;have:=hfi a (List.mem_of_getElem? ha);simp at this
  | some k =>
    rw[List.findIdx?_eq_some_iff_getElem] at hfi;obtain⟨hk,h1,_⟩:=hfi;have h3:=of_decide_eq_true h1;have h4:=hH i a k _ ha (List.getElem?_eq_getElem hk) h3;have h5:=hH k _ i a (List.getElem?_eq_getElem hk) ha h3.symm;show at0 o k=at0 o i;omega
 refine⟨f,fun r hr p hp ⟨r',hr',e⟩=>?_,hfa⟩;obtain⟨i,hil,rfl⟩:=List.mem_iff_getElem.1 hr;obtain⟨k,hkl,rfl⟩:=List.mem_iff_getElem.1 hr';have ha:=List.getElem?_eq_getElem hil;have hb:=List.getElem?_eq_getElem hkl;rw[← e,hfa k _ hb,hfa i _ ha];have h1:=(key i _ k _ ha hb).2 p hp;unfold stepJ at h1;split at h1
 · have h2:=congrArg (fun x=>at0 x i) h1
   simp only[jfp (show i<o.length from by omega),if_pos] at h2;omega
 rename_i h;have h2:=hlow i hil;have:¬ at0 o i<at0 o k+one p.no:=fun hc=>h ⟨e.symm,hc,by omega⟩
 omega
theorem jd6 (l:List GR):(jaq l).length=l.length:=jco l _
theorem jju {l:List GR} (h:jdk l=false):∀ i,i<l.length→at0 (jaq l) i<l.length:=fun i hi=>by
 rcases Nat.lt_or_ge (at0 (jaq l) i) l.length with h1|h1
 · exact h1
 exfalso
 rw[← jh9,List.any_eq_false] at h;exact h _ (List.mem_of_getElem? (jde (by rw[jd6];exact hi))) (decide_eq_true h1)
theorem jmg {l:List GR} {n:Nat} (he:passL l (jaz l n)=jaz l n):∀ {m:Nat},n≤m→jaz l m=jaz l n
 | 0,h=>by rw[Nat.le_zero.1 h]
 | m + 1,h=>by
   rcases Nat.lt_or_ge m n with h1|h1
   · rw[show n=m+1 from by omega]
   have ih:=jmg he h1;show passL l (jaz l m)=_;rw[ih,he]
theorem jrl {l:List GR} (h:jdk l=false):passL l (jaq l)=jaq l:=by
 have hlowN:∀ x∈jaq l,x<l.length:=fun x hx=>by
  obtain⟨i,hi,rfl⟩:=List.mem_iff_getElem.1 hx;have h1:=jju h i (by rw[← jd6];exact hi);have h2:=jde hi;rw[List.getElem?_eq_getElem hi] at h2;injection h2 with h2
  omega
 have hex:∃ n,n≤(l.length+1)*(l.length+2)∧passL l (jaz l n)=jaz l n:=by
  apply Classical.byContradiction
  intro hno
  have hgrow:∀ n,n≤(l.length+1)*(l.length+2)→n≤(jaz l n).sum:=by
   intro n
   induction n with
   | zero=>intro _;exact Nat.zero_le _
   | succ n ih =>
     intro hn;have h1:=ih (by omega);obtain⟨h2,h3⟩:=j0m (jom l (jaz l n));have h4:(jaz l n).sum≠(passL l (jaz l n)).sum:=fun e=>hno ⟨n,by omega,h3 e⟩
     show n+1≤(passL l (jaz l n)).sum;omega
  have h1:=hgrow _ (Nat.le_refl _);have h2:(jaq l).sum≤(jaq l).length*l.length:=jon hlowN;unfold jaq at h2;rw[jco] at h2
  have h3:(l.length+1)*(l.length+2)=l.length*l.length+3*l.length+2:=by
   rw[Nat.add_mul,Nat.mul_add];omega
  omega
 obtain⟨n,hn,he⟩:=hex;unfold jaq;rw[jmg he hn,he]
open Classical in
theorem jo7 {l:List GR} {o:List Nat} (h1:Low l o) (h2:∀ r∈l,∀ p∈r.body,metB l o r p):(l.map fun r=>at0 o ((idxB (heads l) r.head.n).getD 0))=jaq l:=by
 have hc:=jqe h2
 have hs:Strat l:=by
  unfold jdk at hc;exact Classical.byContradiction fun h=>of_decide_eq_false hc h
 obtain⟨f,hd,hf⟩:=j0z (jd6 l) (jrl hc) (jju hc);obtain⟨f0,hd0,hb0⟩:=jln (hs:=heads l) (fun r hr=>jcr.2 ⟨r,hr,rfl⟩) hs
 have hlow:∀ x∈heads l,f x<(heads l).length:=fun x hx=>by
  obtain⟨r,hr,rfl⟩:=jcr.1 hx;obtain⟨i,hi,rfl⟩:=List.mem_iff_getElem.1 hr;have k1:=hf i _ (List.getElem?_eq_getElem hi);have k2:=(jep hd0 ((l.length+1)*(l.length+2))).2 i _ (List.getElem?_eq_getElem hi);have k3:=hb0 _ hx;unfold jaq at k1;omega
 have hd1:dep l (fun x=>match idxB (heads l) x with|some i=>at0 o i|none=>0):=fun r hr p hp he=>by
  obtain⟨own,ho⟩:=jcp (jcr.2 ⟨r,hr,rfl⟩);obtain⟨j,hj⟩:=jcp (jcr.2 he);have:=h2 r hr p hp j own hj ho;simp only[hj,ho];exact this
 apply List.ext_getElem?
 intro i;by_cases hi:i<l.length
 · rw [List.getElem?_map,List.getElem?_eq_getElem hi,Option.map_some,jde (show i<(jaq l).length from by rw[jd6];exact hi)]
   obtain⟨own,ho⟩:=jcp (jcr.2 ⟨l[i],List.getElem_mem hi,rfl⟩);rw[ho,Option.getD_some];have k1:=hf i _ (List.getElem?_eq_getElem hi);have k2:=h1.2.2 f hd hlow _ _ ho;have k3:=(jep hd1 ((l.length+1)*(l.length+2))).2 i _ (List.getElem?_eq_getElem hi);simp only[ho] at k3;unfold jaq at k1 ⊢
   congr 1
   omega
 rw[List.getElem?_eq_none (by simp;omega),List.getElem?_eq_none (by rw[jd6];omega)]
theorem jhn {rules:List GR} (h:jag rules=0):(∀ r∈rules,Fine r)∧rules.length≤8∧argsB (jap rules)=true∧jdk rules=false:=by
 unfold jag at h;split at h
 · cases h
 split at h
 · cases h
 split at h
 · cases h
 split at h
 · cases h
 split at h
 · cases h
 rename_i h1 h2 h3 h4 h5;refine⟨fun r hr=>jxz ?_,by omega,by simpa using h3,by simpa using h5⟩;simp only[Bool.not_eq_false,List.all_eq_true] at h1 h4;unfold fineR;rw[h1 r hr,h4 r hr];rfl
theorem jyi {given:List GA} (h1:Facts given) (h2:Asc given):Rel ⟨given,List.replicate given.length 0,0⟩ ⟨given,List.replicate given.length 0⟩ :=
 ⟨⟨by simp,h1,h2⟩,by simp,jrh h2,fun _ _=>Iff.rfl⟩
theorem jes {rules:List GR} {given:List GA} (h:jbx rules given=true):jag rules=0∧Facts given∧Asc given∧given.length≤40:=by
 unfold jbx at h;simp only[Bool.and_eq_true,decide_eq_true_eq] at h;refine⟨h.1.1,?_,jgq h.1.2,?_⟩
 · have:=h.1.2
   unfold jbe at this;simp only[Bool.and_eq_true,List.all_eq_true] at this;exact this.1.1
 have:=h.1.2;unfold jbe at this;simp only[Bool.and_eq_true,decide_eq_true_eq] at this;exact this.2
def j0p (rules:List GR) (given:List GA):Option ST:=jgj rules (jaq rules) rules.length 0 ⟨given,List.replicate given.length 0,0⟩
theorem jyj {rules:List GR} {given:List GA} (h:jbx rules given=true):match j0p rules given with
  | none=>(runN rules given).2=false
  | some s=>(runN rules given).2=true∧Rel s (runN rules given).1∧s.facts.length≤300:=by
 obtain⟨h1,h2,h3,h4⟩:=jes h;obtain⟨k1,k2,k3,k4⟩:=jhn h1;have:=jny (levels:=jaq rules) k1 (L:=rules.length) (jju k4) rules.length 0 ⟨given,List.replicate given.length 0,0⟩ ⟨given,List.replicate given.length 0⟩ (Nat.zero_add _) (jyi h2 h3) (by show given.length≤300;omega);exact this
noncomputable def jcl (rules:List GR):List GC→List GA→Bool
 | [],_=>true
 | c :: cs,list=>ja4 c && ((backL list c).2 && (fineB rules (backL list c).1 && jcl rules cs (backL list c).1))
noncomputable def jbn (B:GB):Bool:=(decide (0≤B.time) && decide (B.time≤100000) && decide (B.hist.length≤30) && decide ((B.hist.length:Int)≤B.time)) && (fineB B.rules B.given && jcl B.rules B.hist.reverse B.given)
theorem jg1 {rules:List GR} {given:List GA} (h:fineB rules given=true):Facts given∧Asc given∧given.length≤40:=by
 unfold fineB at h;simp only[Bool.and_eq_true] at h;obtain⟨_,h2,h3,h4⟩:=jes h.1;exact⟨h2,h3,h4⟩
theorem je0 {c:GC} (h:ja4 c=true):jbe c.comes 300=true∧jbe c.goes 300=true∧jdo c.comes c.goes=false:=by
 unfold ja4 at h;simp only[Bool.and_eq_true,Bool.not_eq_true'] at h;exact⟨h.1.1,h.1.2,h.2⟩
theorem jyk (list:List GA) (c:GC):(backL list c).2=(c.comes.all (hasA list) && !jdo c.goes list):=by
 unfold backL jdo
 have e:(c.goes.all fun a=> !hasA list a) = !(c.goes.any fun x=>hasA list x):=by
  induction c.goes with
  | nil=>rfl
  | cons a l ih=>simp only[List.all_cons,List.any_cons,ih,Bool.not_or]
 rw[e];split
 · rename_i h;rw[h]
 rename_i h;simp only[Bool.not_eq_true] at h;rw[h]
theorem jrm {list:List GA} {c:GC} (h:(backL list c).2=true):(backL list c).1=doL list ⟨c.goes,c.comes⟩:=by
 unfold backL at h ⊢;split
 · rfl
 rename_i h2;rw[if_neg h2] at h;cases h
theorem jo8 {α:Type} {l:List α} {k:Nat} (h:k<l.length):l.reverse.drop k=l[l.length-1-k] :: l.reverse.drop (k+1):=by
 rw[List.drop_eq_getElem_cons (by rw[List.length_reverse];exact h),List.getElem_reverse]
theorem jrn {rules:List GR} {cs:List GC} {list:List GA} {k:Nat} (h:cs.length≤k):jcl rules (cs.reverse.drop k) list=true:=by
 rw[List.drop_eq_nil_of_le (by rw[List.length_reverse];exact h)];rfl
theorem jin (list:List GA) (g:GC) (v a b:Value) (w:World) {S T U:Nat→Prop} (hv:jac S w v list) (ha:jac T w a g.comes) (hb:jac U w b g.goes) (hl:list.length≤40000) (h1:Facts list) (h2:Asc list) (hc:ja4 g=true) :
  Calls Tryz.prog 51 #[v,.agg #[a,b]] w fun e w'=>(∃ r,e=.returned r∧jac Any w' r (doL list ⟨g.goes,g.comes⟩))∧Ext w w':=by
 obtain⟨A,c,rfl,_,_⟩:=jaa.form hv;obtain⟨P,p,rfl,_,_⟩:=jaa.form ha;obtain⟨Q,q,rfl,_,_⟩:=jaa.form hb;obtain⟨k1,k2,_⟩:=je0 hc;obtain⟨c1,c2,c3⟩:=jdt k1;obtain⟨d1,d2,d3⟩:=jdt k2;obtain⟨l1,l2,_⟩:=jn3 h1 h2 c1 c2;have hll:=jib list g.comes;obtain⟨W,hW⟩:∃ W,W=w.alloc (.cells #[.slice P g.comes.length p,.slice Q g.goes.length q] 68):=⟨_,rfl⟩
 have HB:=zh (show Blk W w.heap.size 68 #[.slice P g.comes.length p,.slice Q g.goes.length q] from by rw[hW];exact Blk.new _ _ _);have HX:=zh (show Ext w W from by rw[hW];exact (Ext.refl _).alloc _);have HWO:=zh (fun (W':World) (hW':Ext W W')=>jtb _ _ list g.comes W' (hv.ext (HX.out.trans' hW')) (ha.ext (HX.out.trans' hW')) (by omega) h1 h2 c1 c2);have HUN:=zh (fun (W':World) (x:Value) (hW':Ext W W') (hx:jac Any W' x (lessA list g.comes))=>jyh _ _ (lessA list g.comes) g.goes W' hx (hb.ext (HX.out.trans' hW')) (by omega) l1 l2 d1 d2);have p0:=HB.out.cell 0;have p1:=HB.out.cell 1;have pl:=HB.out.lt;clear hv ha hb h1 h2 hc k1 k2 c1 c2 d1 d2 l1 l2 hll
 go_enter Tryz.func51,Tryz.ntmps51;go_wp2_with fail
 rw[← hW];clear hW
 go_region_held3 (fun W'=>W'.cell? ⟨w.heap.size,0,none⟩=some (.slice P g.comes.length p)∧W'.cell? ⟨w.heap.size,1,none⟩=some (.slice Q g.goes.length q))
  (first|exact⟨((HB.out.ext HX3.out).cell 0).trans rfl,((HB.out.ext HX3.out).cell 1).trans rfl⟩|exact⟨((HB.out.ext HX2.out).cell 0).trans rfl,((HB.out.ext HX2.out).cell 1).trans rfl⟩|exact⟨((HB.out.ext (Ext.refl W).drew).cell 0).trans rfl,((HB.out.ext (Ext.refl W).drew).cell 1).trans rfl⟩)
  (first
   | (go_at_call 111;refine (HWO.out _ (Ext.refl W).drew).mono ?_;rintro e w2 ⟨⟨r2,rfl,hr2⟩,hx2⟩
      obtain⟨R2,e2,rfl,_,_⟩:=jaa.form hr2;have HX2:=zh ((Ext.refl W).drew.trans' hx2);have HR2:=zh hr2;clear hr2 hx2)
   | (go_at_call 110;refine (HUN.out _ _ HX2.out HR2.out).mono ?_;rintro e w3 ⟨⟨r3,rfl,hr3⟩,hx3⟩
      have HX3:=zh (HX2.out.trans' hx3);have HR3:=zh hr3;clear hr3 hx3))
 all_goals go_wp2_with fail
 all_goals go_ret
 all_goals exact⟨⟨_,rfl,HR3.out⟩,HX.out.trans' HX3.out⟩
end Go.Proofs.YthdojieomhighaaGreatDoor
