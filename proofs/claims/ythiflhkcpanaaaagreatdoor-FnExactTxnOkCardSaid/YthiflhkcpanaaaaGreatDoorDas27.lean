/- Own texts, joined. -/
import Derived.Test.YthiflhkcpanaaaaGreatDoorDas26
import Derived.Shelf.Sort.Plain
import Derived.Shelf.Slices.CompactS
import Derived.Shelf.Slices.Cells
import Derived.Shelf.Slices.In.SortNone
import Derived.Shelf.SlSortCmp.SiftDown1
import Derived.Shelf.SlSortCmp.HeapSort1
import Derived.Shelf.SlSortCmp.Insertion1
import Derived.Shelf.SlSortCmp.Median1
import Derived.Shelf.SlSortCmp.Pivot1
import Derived.Shelf.SlSortCmp.ReverseRange1
import Derived.Shelf.SlSortCmp.PartialInsertion1
import Derived.Shelf.SlSortCmp.PartitionEqual1
import Derived.Shelf.SlSortCmp.Partition1
import Derived.Shelf.SlSortCmp.Pdq1
import Derived.Shelf.SlSortCmp.Whole1
import Derived.Shelf.SlSortCmp.NoneTotal
import Derived.Lib.SlicesCompact
import Derived.Sort.Walk0
set_option linter.unusedSimpArgs false
set_option linter.unusedVariables false
set_option maxHeartbeats 4000000
set_option maxRecDepth 100000
namespace Go.Proofs.YthiflhkcpanaaaaGreatDoor
open Go.RowKit Go.Shelf
attribute [local go_sem] Oper.semAt_some
theorem jiw {α:Type} {k:Kind α} {S T:Nat->Prop} {w:World} {v:Value} {xs ys:List α} {base:Nat} {e:TypeId} {F:Fence} {n:Nat} {P:Program} {ops:Array Oper} {rest:List Oper} {o:Oper} {a:Act} {Q:Exit->Act->World->Prop} (hgd:o.guard=none) (s x':Operand) (t:TypeId)
  (ho:o.op=.call { callee:=.builtin .append,args:= #[s,x'],argTypes:= #[t,t] })
  (i:TypeInfo) (z:Value) (bytes:Nat) (ht:P.underlying t=some (.slice e)) (hi:P.info? e=some i) (hz:i.zero=some z)
  (hsize:i.size=k.size) (hby:i.bytes=bytes) (hzs:z.cells.size=k.size)
  (hs:a.eval s=v) (hown:OwnK k base e S w v xs) (A:Option Addr) (m c:Nat) (hx:a.eval x'=.slice A m c) (hu:jar k T w (.slice A m c) ys) (hT:∀ b,T b->b<w.heap.size->S b) (hTv:∀ g,v.ownBlock=some g->¬ T g)
  (h63:xs.length+m<=maxLen) (hbytes:(xs.length+m)*bytes<=140737488355328) (hbase:base<=w.heap.size)
  (h:∀ v' w',Apped k base e S w v (xs++ys) v' w'->wpListIn F n P ops Q rest (a.put o.dst v') w'):wpListIn F n P ops Q (o :: rest) a w:=by
 refine wpListIn_plain hgd fun K hK'=>?_
 obtain⟨v',w',hr,h2⟩:=jux (P:=P) w t o.type i z bytes ht hi hz hsize hby hzs hown A m c hu hT hTv h63 hbytes hbase;unfold Oper.wpIn;refine⟨?_,?_⟩
 . simp[Oper.about,ho,resolve,Target.leads,Sem.run_pure]
 rw[Oper.semAt_plain F _ _ (by rw[ho];intro c hc';cases hc')];simp[execOp,ho,resolve,invoke,builtin,hs,hx,hr,Result.andThen];exact hK' _ _ (h v' w' h2)
theorem OwnK.cells {α:Type} {k:Kind α} {S:Nat->Prop} {w:World} {v:Value} {xs:List α} {base:Nat} {e:TypeId} (h:OwnK k base e S w v xs):∀ (g:Nat) (o:Obj),v.ownBlock=some g->w.heap[g]? = some o->o.isCells=true:=by
 intro g o hg ho;obtain⟨rows,T,h1,_⟩:=h;rcases h1.2 with ⟨rfl,_⟩|⟨g',cap,cur,rfl,_,hc,_⟩
 . simp[Value.ownBlock] at hg
 simp only[Value.ownBlock] at hg;injection hg with hg
 subst hg;rw[hc] at ho;injection ho with ho
 subst ho
 rfl
structure MS where
 x:GA
 A:Option Addr
 n:Nat
 c:Nat
 s:Int
def toME (e:MS):ME:=⟨e.x,.slice e.A e.n e.c,e.s⟩
theorem jfy.lift {α β:Type} {F:Fence} {n:Nat} {P:Program} {g:Nat} {lb:Array Value} {encs:α->Array Value} {Step:World->World->Prop} {E:World->World->α->Prop} {Kp:World->World->Prop} {S:List α->Prop} {N:Nat} {w:World}
  (f:β->α) (hE:∀ W0 W1 x,E W0 W1 x->∃ b,f b=x) (h:jfy F n P g lb encs Step E Kp S N w):jfy F n P g lb (fun b=>encs (f b)) Step (fun W0 W1 b=>E W0 W1 (f b)) Kp (fun L=>S (L.map f)) N w:=by
 intro l J W hW hJ hY h0;refine (h l (fun pre W=>∃ q:List β,q.map f=pre/\J q W) W hW (fun s A B ⟨q,e,hq⟩ hs=>⟨q,e,hJ q A B hq hs⟩) (fun pre x W0 W1 ⟨q,e,hq⟩ hs hE' hlen=>?_) ⟨[],rfl,h0⟩).mono ?_
 . obtain ⟨b,rfl⟩:=hE _ _ _ hE'
   obtain⟨fn,tmps,assign,body,hy,hR⟩:=hY q b W0 W1 hq hs hE' (by rw[<- e] at hlen;simpa using hlen);exact⟨fn,tmps,assign,body,hy,hR.mono fun e' W' ⟨h1,h2,h3⟩=>⟨h1,⟨q++[b],by simp[e],h2⟩,h3⟩⟩
 rintro e W' ⟨hv,xs,hS,q,rfl,hq⟩;exact⟨hv,q,hS,hq⟩
structure UniV (w0:World) (ob D:Nat) (xs:List GA) (v:Value) (W:World):Prop where
 fl:Blk W ob 24 #[v]
 fo:OwnK kAtom (D+2) 69 (fun b=>b<w0.heap.size) W v xs
 fx:Ext w0 W
section
variable {w0:World} {ob D:Nat} {xs:List GA} {A B:World} {v:Value}
theorem UniV.turned (h:UniV w0 ob D xs v A) (ht:jcy D A B) (h1:ob<D) (h3:w0.heap.size<=D):UniV w0 ob D xs v B :=
 ⟨(ht.block _ h.fl.lt (by omega) (by omega)).trans h.fl,
   h.fo.agree (fun b hb hlt=>ht.block b hlt (by omega) (by omega)) (fun g hg=>ht.block g (h.fo.at_ g hg).2 (by have:=(h.fo.at_ g hg).1;omega) (by have:=(h.fo.at_ g hg).1;omega)) ht.size,
   ⟨ht.os.trans h.fx.os,ht.tape.trans h.fx.tape,ht.output.trans h.fx.output,Nat.le_trans h.fx.size ht.size,fun b hb=>(ht.block b (Nat.lt_of_lt_of_le hb h.fx.size) (by omega) (by omega)).trans (h.fx.block b hb)⟩⟩
theorem UniV.ext (h:UniV w0 ob D xs v A) (he:Ext A B):UniV w0 ob D xs v B:=⟨h.fl.ext he,h.fo.ext he,h.fx.t he⟩
end
theorem jfz {S:Nat->Prop} {w:World} {v:Value} {ps:List P2} (h:jdo S w v ps) {p:P2} (hp:p∈ps):p.1.n.size<=maxLen/\jad S w p.2 p.1.args:=by
 obtain⟨A,c,rfl,_⟩:=jaa.form h;obtain⟨i,hi⟩:=List.mem_iff_getElem?.1 hp;obtain⟨b,off,x,_,_,hx,h1,h2,_,_⟩:=jdo.at_ h (k:=i) (List.getElem?_eq_some_iff.1 hi).1;obtain rfl:p=x:=Option.some.inj (hi.symm.trans hx);exact⟨h1,h2⟩
theorem jd0:∀ (n:Nat) (ps qs:List P2) (e:ME),e∈jb0 n ps qs->(e.x,e.v)∈ps∨(e.x,e.v)∈qs
 | 0,_,_,e,h=>by simp[jb0] at h
 | n+1,[],[],e,h=>by simp[jb0] at h
 | n + 1,x :: xs,[],e,h=>by
   rw[jb0] at h;rcases List.mem_cons.1 h with rfl|h
   . exact .inl List.mem_cons_self
   . exact (jd0 n xs [] e h).imp (List.mem_cons_of_mem _) id
 | n + 1,[],y :: ys,e,h=>by
   rw[jb0] at h;rcases List.mem_cons.1 h with rfl|h
   . exact .inr List.mem_cons_self
   . exact (jd0 n [] ys e h).imp id (List.mem_cons_of_mem _)
 | n + 1,x :: xs,y :: ys,e,h=>by
   rw[jb0] at h;split at h
   . rcases List.mem_cons.1 h with rfl|h
     . exact .inl List.mem_cons_self
     exact (jd0 n xs (y :: ys) e h).imp (List.mem_cons_of_mem _) id
   split at h
   . rcases List.mem_cons.1 h with rfl|h
     . exact .inr List.mem_cons_self
     exact (jd0 n (x :: xs) ys e h).imp id (List.mem_cons_of_mem _)
   rcases List.mem_cons.1 h with rfl|h
   . exact .inl List.mem_cons_self
   exact (jd0 n xs ys e h).imp (List.mem_cons_of_mem _) (List.mem_cons_of_mem _)
theorem jd1:∀ (n:Nat) (ps qs:List P2),(jb0 n ps qs).length<=n
 | 0,_,_=>by simp[jb0]
 | n+1,[],[]=>by simp[jb0]
 | n+1,x :: xs,[]=>by rw[jb0,List.length_cons];have:=jd1 n xs [];omega
 | n+1,[],y :: ys=>by rw[jb0,List.length_cons];have:=jd1 n [] ys;omega
 | n + 1,x :: xs,y :: ys=>by
   rw[jb0];split
   . rw[List.length_cons];have:=jd1 n xs (y :: ys);omega
   split
   . rw[List.length_cons];have:=jd1 n (x :: xs) ys;omega
   rw[List.length_cons];have:=jd1 n xs ys;omega
theorem jv4:(Tryz.prog.info? 69).map (fun i=>(i.zero,i.size,i.bytes))=some (some (.agg #[.string ByteArray.empty,.slice none 0 0]),2,40):=by kernel_rfl
def jf7 (L:List ME):List GA:=(L.filter fun e=>e.s == 0).map (·.x)
theorem jxp (L:List ME):(jf7 L).length<=L.length:=by
 unfold jf7;rw[List.length_map];exact List.length_filter_le _ _
theorem juq (v u:Value) (xs ys:List GA) (w:World) {S T:Nat->Prop} (hv:jab S w v xs) (hu:jab T w u ys) (hl:xs.length+ys.length<=100000) :
  ∃ ps qs:List P2,ps.map (·.1)=xs/\qs.map (·.1)=ys /\
  Calls Tryz.prog 132 #[v,u] w fun e w'=>(∃ r,e=.returned r/\jab Any w' r (xsOf (jah ps qs)))/\Ext w w':=by
 obtain⟨ps,hps,hp⟩:=hv.low.pairs;obtain⟨qs,hqs,hq⟩:=hu.low.pairs;refine⟨ps,qs,hps,hqs,?_⟩;have hlen:ps.length+qs.length<=100000:=by rw[<- hps,<- hqs] at hl;simpa using hl
 have hml:(jah ps qs).length<=100000:=Nat.le_trans (jd1 _ _ _) hlen;clear hps hqs hv hu hl;obtain⟨A,c,rfl,hc1,hc2⟩:=jaa.form hp;obtain⟨B,d,rfl,hd1,hd2⟩:=jaa.form hq;obtain⟨i0,hi0,hz0,hz1,hz2⟩:=info_parts jv4;have HP:=zh hp;have HQ:=zh hq;have HM:=zh (fun (x:ME) (hx:x∈jah ps qs)=>(show x.x.n.size<=maxLen/\jad (fun b=>b<w.heap.size) w x.v x.x.args from (jd0 _ _ _ _ hx).elim (fun h=>jfz hp h) (fun h=>jfz hq h)));clear hp hq;refine (callsIn_wide (n:=5)).1 ?_;refine callsIn_of_wp_marks Tryz.func132 rfl trivial ?_ rfl;simp only[Tryz.ntmps132,List.size_toArray,List.length_cons,List.length_nil,Nat.reduceAdd,Nat.reduceSub,Array.replicate_succ,Array.replicate_zero,List.push_toArray,List.append_toArray,List.nil_append,List.cons_append];have tok:True:=trivial
 gi_wp2_with (first
  | (refine⟨trivial,?_⟩;gi_at_call 130;have _t:=tok;refine (callsIn_wide.2 (jc0 _ _ _ _)).mono ?_;clear tok _t;rintro e w1 ⟨rfl,hx1⟩)
  | (refine⟨trivial,?_⟩;gi_at_call 130;refine (callsIn_wide.2 (jc0 _ _ _ _)).mono ?_;rintro e w2 ⟨rfl,hx2⟩)
  | (refine⟨trivial,?_⟩;gi_at_call 131;refine (callsIn_wide.2 (jid _ _ _ _ _ _ _)).mono ?_;rintro e w3 ⟨rfl,rfl⟩))
 have hs1:=hx1.size;have hs2:=hx2.size;simp only[World.size_alloc] at hs1;obtain⟨W0,hW0⟩:=nm (((w2.alloc (.cells #[.slice A ps.length c,.func (.func 194) #[] #[]] 166)).alloc (.cells #[.slice B qs.length d,.func (.func 194) #[] #[]] 166)));have hB0:Ext w W0:=by rw[hW0];exact (((((Ext.refl w).alloc _).t hx1).t hx2).alloc _).alloc _
 have hB1:Ext (w.alloc (.cells #[.slice none 0 0] 24)) W0:=by rw[hW0];exact ((hx1.t hx2).alloc _).alloc _
 have hr1:Blk W0 w.heap.size 24 #[.slice none 0 0]:=(Blk.new w _ _).ext hB1;have hb1:Blk W0 w2.heap.size 166 #[.slice A ps.length c,.func (.func 194) #[] #[]]:=by rw[hW0];exact (Blk.new _ _ _).alloc _
 have hb2:Blk W0 (w2.heap.size+1) 166 #[.slice B qs.length d,.func (.func 194) #[] #[]]:=by
  rw[hW0];have:=Blk.new (w2.alloc (.cells #[.slice A ps.length c,.func (.func 194) #[] #[]] 166)) 166 #[.slice B qs.length d,.func (.func 194) #[] #[]]
  rwa [World.size_alloc] at this
 have hD:W0.heap.size=w2.heap.size+2:=by rw[hW0];simp
 have HD:=zh hD;have hD1:w2.heap.size+2<=W0.heap.size:=by omega
 rw[<- hW0];clear hW0 hB1 hx1 hx2 hD
 refine jf6 (F:=Fence.wide) (α:=MS) rfl (by omega) (gf:=195) (lb:= #[.pointer (some ⟨w2.heap.size,0,none⟩),.pointer (some ⟨w2.heap.size+1,0,none⟩)]) rfl trivial (enters_of Tryz.func195 (by kernel_rfl) rfl)
  (jfy.lift toME (fun _ _ x hx=>by
    obtain⟨VA,vc,hva,_,_⟩:=jaa.form (HM.o x hx).2;exact⟨⟨x.x,VA,_,vc,x.s⟩,by unfold toME;rw[<- hva]⟩) (jky 4 (by omega) w2.heap.size (w2.heap.size+1) (fun b=>b≠w.heap.size/\b<w2.heap.size+2) W0 _ _ ps qs ⟨by omega,by omega⟩ ⟨by omega,by omega⟩
   (hb1.cell 0) (hb1.cell 1) (hb2.cell 0) (HP.o.imp (fun b hb=>⟨by omega,by omega⟩) (.of_ext hB0) hB0.size) (HQ.o.imp (fun b hb=>⟨by omega,by omega⟩) (.of_ext hB0) hB0.size)))
  (fun A B l o hs hl ho _=>(hs.block l (Array.getElem?_eq_some_iff.1 ho).1).trans ho)
  KeepR.trans (fun W l o o' hl ho _ _=>⟨by simp[World.putObj],fun b hb hlt=>(grownBy_putObj' W l o').block b hlt (fun e=>by injection e with e;omega)⟩) (Below.refl _ _) (fun _=>rfl)
  (fun pre W=>∃ v,UniV w w.heap.size W0.heap.size (xsOf (pre.map toME)) v W)
  (fun pre A B ⟨v,h⟩ ht=>⟨v,h.turned ht (by omega) (by omega)⟩) (fun pre A B ⟨v,h⟩ ht=>⟨v,h.ext ht⟩)
  ⟨_,hr1,OwnK.nil,hB0⟩ ?a1 ?g ?hgs ?hgk ?assign ?body ?done
 case assign =>
  intro x W K hK;simp only[encME,toME]
  gi_wp2
  exact hK
 case hgs=>exact fun x W=>KeepsOthers.alloc _ _
 case hgk=>exact fun x W=>.of_ext ((Ext.refl _).alloc _)
 case body =>
  rintro pre x W1 W2 o' ⟨v,hI⟩ hst hx hlen hlt1 hlt2 ⟨o,ho,hoc⟩;have hz:=hst.size;obtain⟨hxs,hxt⟩:=HM.o _ hx;simp only[toME] at hxs hxt;obtain⟨Wb,hWb⟩:=nm ((W2.alloc (.cells #[.string x.x.n,.slice x.A x.n x.c] 69)).putObj (W0.heap.size+1) o');have hzb1:W2.heap.size+1<=Wb.heap.size:=by rw[hWb];simp
  have hzb2:Wb.heap.size<=W2.heap.size+1:=by rw[hWb];simp
  have hT:jcy W0.heap.size (W2.alloc (.cells #[.string x.x.n,.slice x.A x.n x.c] 69)) Wb:=by rw[hWb];exact jcy.putObj _ _ (.inr rfl)
  have hIb:=((hI.ext hst).ext ((Ext.refl _).alloc (.cells #[.string x.x.n,.slice x.A x.n x.c] 69))).turned hT (by omega) (by omega);have hcb:Blk Wb W2.heap.size 69 #[.string x.x.n,.slice x.A x.n x.c]:=(hT.block _ (by simp) (by omega) (by omega)).trans (Blk.new _ _ _);rw[<- hWb];have HIB:=zh hIb;have HXT:=zh (show jad (fun b=>b<w.heap.size) Wb (.slice x.A x.n x.c) x.x.args from hxt.ext hIb.fx);have HXS:=zh hxs;have HXL:=zh (show (xsOf (pre.map toME)).length<100000 from by unfold xsOf;rw[List.length_map,List.length_map];omega);have hwb:=hIb.fx.size;obtain⟨A4,n4,c4,rfl,hn4,ha4,hb4⟩:=hIb.fo.form2;have c0:=hIb.fl.cell 0;have c2:=hcb.cell 0;have c3:=hcb.cell 1;have hl1:=hIb.fl.lt;have hl3:=hcb.lt;have f0:=hIb.fl.frozen 0;have HDW:=zh (show W0.heap.size+2<=Wb.heap.size from by omega);have HXM:=zh (show xsOf ((pre++[x]).map toME)=xsOf (pre.map toME)++[x.x] from by unfold xsOf;simp[toME]);clear hWb hT hIb hxt hxs hI ho hoc hst
  gi_wp2_with (first
   | (gi_at_builtin;go_loud (refine jiw (k:=kAtom) (S:=fun b=>b<w.heap.size) (T:=fun b=>b<w.heap.size) (base:=W0.heap.size+2) (xs:=xsOf (pre.map toME)) (ys:=[x.x]) rfl (.tmp 14) (.tmp 16) 24 (by rfl) i0 _ 40 Tryz.underlying24 hi0 hz0 hz1 hz2 (by rfl) (by rfl) (HIB.o.fo.ext ((Ext.refl _).alloc _)) (some ⟨Wb.heap.size,0,none⟩) 1 1 (by rfl) (jar.one (k:=kAtom) (x:=x.x) (Blk.new Wb 69 #[.string x.x.n,.slice x.A x.n x.c]) ⟨_,rfl,HXS.o,HXT.o.ext ((Ext.refl _).alloc _)⟩) (fun b hb _=>hb) (fun g hg hb=>absurd (HIB.o.fo.at_ g hg).1 (by omega)) (maxOf (by have:=HXL.o;omega)) (by have:=HXL.o;omega) (by have:=HDW.o;simp only[World.size_alloc];omega) ?_)
      intro v5 w5 hap;obtain⟨A5,n5,c5,rfl,hn5,ha5,hb5⟩:=hap.own.form2;have HAP:=zh hap;have hl5:=((HIB.o.fl.alloc (.cells #[.string x.x.n,.slice x.A x.n x.c] 69)).below hap.below (by omega))
      have p0:=hl5.cell 0;have g0:=hl5.frozen 0;have pl5:=hl5.lt;have hz5:=hap.grown.size;have HL5:=zh hl5;clear hap hl5))
  have hbel:=HAP.o.below;have hgr:=HAP.o.grown;refine⟨((KeepsOthers.alloc Wb _).trans (KeepsOthers.of_grownBy HAP.o.grown (fun j o h1 h2=>OwnK.cells (HIB.o.fo.ext ((Ext.refl _).alloc _)) j o h1 h2))).trans (KeepsOthers.setCell _ _ _),⟨by have h:=HAP.o.grown.size;simp only[World.size_alloc] at h;have h2:Wb.heap.size<=w5.heap.size:=(by omega);go_size;try exact h2,fun b hb hlt=>?_⟩,.slice A5 n5 c5,?_,?_,?_⟩
  . refine (Below.heap_setCell _ _ _ _ (by simp only;omega)).trans ((hbel.block b (by omega)).trans ?_)
    exact (Below.heap_alloc _ _ _ hlt)
  . simpa using HL5.o.set_ 0 (.slice A5 n5 c5)
  . rw [HXM.o]
    refine HAP.o.own.agree ((Agree.refl _ _).setCell (by simp only;omega) _) (fun g hg=>?_) (by go_size);have:=(HAP.o.own.at_ g hg).1;exact Below.heap_setCell _ _ _ _ (by simp only;omega)
  exact Ext.setNew (HAP.o.toExt (HIB.o.fx.alloc _) (by omega)) (Nat.le_refl _) _
 case done =>
  rintro xs W hxs ⟨v,hI⟩ hK;obtain⟨A4,n4,c4,rfl,hn4,ha4,hb4⟩:=hI.fo.form2;have c0:=hI.fl.cell 0;have hl1:=hI.fl.lt;have HI:=zh hI;have HXX:=zh hxs;clear hI hxs
  gi_wp2
  have hF:=HI.o.turned (jcy.putObj (D:=W0.heap.size) (l:=W0.heap.size) W (.deferred none) (.inl rfl)) (by omega) (by omega);refine⟨by simp,.inl ⟨_,_,rfl,run_takeDeferred hK,?_⟩⟩;refine⟨.slice A4 n4 c4,by simp[results,Tryz.results132,go_sem],⟨_,rfl,?_⟩,hF.fx⟩;rw[<- HXX.o];exact hF.fo.list (S':=Any) (fun _ _=>trivial) (fun _ _=>trivial)
theorem jqb (v u:Value) (xs ys:List GA) (w:World) {S T:Nat->Prop} (hv:jab S w v xs) (hu:jab T w u ys) (hl:xs.length+ys.length<=100000) :
  ∃ ps qs:List P2,ps.map (·.1)=xs/\qs.map (·.1)=ys /\
  Calls Tryz.prog 133 #[v,u] w fun e w'=>(∃ r,e=.returned r/\jab Any w' r (jf7 (jah ps qs)))/\Ext w w':=by
 obtain⟨ps,hps,hp⟩:=hv.low.pairs;obtain⟨qs,hqs,hq⟩:=hu.low.pairs;refine⟨ps,qs,hps,hqs,?_⟩;have hlen:ps.length+qs.length<=100000:=by rw[<- hps,<- hqs] at hl;simpa using hl
 have hml:(jah ps qs).length<=100000:=Nat.le_trans (jd1 _ _ _) hlen;clear hps hqs hv hu hl;obtain⟨A,c,rfl,hc1,hc2⟩:=jaa.form hp;obtain⟨B,d,rfl,hd1,hd2⟩:=jaa.form hq;obtain⟨i0,hi0,hz0,hz1,hz2⟩:=info_parts jv4;have HP:=zh hp;have HQ:=zh hq;have HM:=zh (fun (x:ME) (hx:x∈jah ps qs)=>(show x.x.n.size<=maxLen/\jad (fun b=>b<w.heap.size) w x.v x.x.args from (jd0 _ _ _ _ hx).elim (fun h=>jfz hp h) (fun h=>jfz hq h)));clear hp hq;refine (callsIn_wide (n:=5)).1 ?_;refine callsIn_of_wp_marks Tryz.func133 rfl trivial ?_ rfl;simp only[Tryz.ntmps133,List.size_toArray,List.length_cons,List.length_nil,Nat.reduceAdd,Nat.reduceSub,Array.replicate_succ,Array.replicate_zero,List.push_toArray,List.append_toArray,List.nil_append,List.cons_append];have tok:True:=trivial
 gi_wp2_with (first
  | (refine⟨trivial,?_⟩;gi_at_call 130;have _t:=tok;refine (callsIn_wide.2 (jc0 _ _ _ _)).mono ?_;clear tok _t;rintro e w1 ⟨rfl,hx1⟩)
  | (refine⟨trivial,?_⟩;gi_at_call 130;refine (callsIn_wide.2 (jc0 _ _ _ _)).mono ?_;rintro e w2 ⟨rfl,hx2⟩)
  | (refine⟨trivial,?_⟩;gi_at_call 131;refine (callsIn_wide.2 (jid _ _ _ _ _ _ _)).mono ?_;rintro e w3 ⟨rfl,rfl⟩))
 have hs1:=hx1.size;have hs2:=hx2.size;simp only[World.size_alloc] at hs1;obtain⟨W0,hW0⟩:=nm (((w2.alloc (.cells #[.slice A ps.length c,.func (.func 194) #[] #[]] 166)).alloc (.cells #[.slice B qs.length d,.func (.func 194) #[] #[]] 166)));have hB0:Ext w W0:=by rw[hW0];exact (((((Ext.refl w).alloc _).t hx1).t hx2).alloc _).alloc _
 have hB1:Ext (w.alloc (.cells #[.slice none 0 0] 24)) W0:=by rw[hW0];exact ((hx1.t hx2).alloc _).alloc _
 have hr1:Blk W0 w.heap.size 24 #[.slice none 0 0]:=(Blk.new w _ _).ext hB1;have hb1:Blk W0 w2.heap.size 166 #[.slice A ps.length c,.func (.func 194) #[] #[]]:=by rw[hW0];exact (Blk.new _ _ _).alloc _
 have hb2:Blk W0 (w2.heap.size+1) 166 #[.slice B qs.length d,.func (.func 194) #[] #[]]:=by
  rw[hW0];have:=Blk.new (w2.alloc (.cells #[.slice A ps.length c,.func (.func 194) #[] #[]] 166)) 166 #[.slice B qs.length d,.func (.func 194) #[] #[]]
  rwa [World.size_alloc] at this
 have hD:W0.heap.size=w2.heap.size+2:=by rw[hW0];simp
 have HD:=zh hD;have hD1:w2.heap.size+2<=W0.heap.size:=by omega
 rw[<- hW0];clear hW0 hB1 hx1 hx2 hD
 refine jf6 (F:=Fence.wide) (α:=MS) rfl (by omega) (gf:=195) (lb:= #[.pointer (some ⟨w2.heap.size,0,none⟩),.pointer (some ⟨w2.heap.size+1,0,none⟩)]) rfl trivial (enters_of Tryz.func195 (by kernel_rfl) rfl)
  (jfy.lift toME (fun _ _ x hx=>by
    obtain⟨VA,vc,hva,_,_⟩:=jaa.form (HM.o x hx).2;exact⟨⟨x.x,VA,_,vc,x.s⟩,by unfold toME;rw[<- hva]⟩) (jky 4 (by omega) w2.heap.size (w2.heap.size+1) (fun b=>b≠w.heap.size/\b<w2.heap.size+2) W0 _ _ ps qs ⟨by omega,by omega⟩ ⟨by omega,by omega⟩
   (hb1.cell 0) (hb1.cell 1) (hb2.cell 0) (HP.o.imp (fun b hb=>⟨by omega,by omega⟩) (.of_ext hB0) hB0.size) (HQ.o.imp (fun b hb=>⟨by omega,by omega⟩) (.of_ext hB0) hB0.size)))
  (fun A B l o hs hl ho _=>(hs.block l (Array.getElem?_eq_some_iff.1 ho).1).trans ho)
  KeepR.trans (fun W l o o' hl ho _ _=>⟨by simp[World.putObj],fun b hb hlt=>(grownBy_putObj' W l o').block b hlt (fun e=>by injection e with e;omega)⟩) (Below.refl _ _) (fun _=>rfl)
  (fun pre W=>∃ v,UniV w w.heap.size W0.heap.size (jf7 (pre.map toME)) v W)
  (fun pre A B ⟨v,h⟩ ht=>⟨v,h.turned ht (by omega) (by omega)⟩) (fun pre A B ⟨v,h⟩ ht=>⟨v,h.ext ht⟩)
  ⟨_,hr1,OwnK.nil,hB0⟩ ?a1 ?g ?hgs ?hgk ?assign ?body ?done
 case assign =>
  intro x W K hK;simp only[encME,toME]
  gi_wp2
  exact hK
 case hgs=>exact fun x W=>KeepsOthers.alloc _ _
 case hgk=>exact fun x W=>.of_ext ((Ext.refl _).alloc _)
 case body =>
  rintro pre x W1 W2 o' ⟨v,hI⟩ hst hx hlen hlt1 hlt2 ⟨o,ho,hoc⟩;have hz:=hst.size;obtain⟨hxs,hxt⟩:=HM.o _ hx;simp only[toME] at hxs hxt;obtain⟨Wb,hWb⟩:=nm ((W2.alloc (.cells #[.string x.x.n,.slice x.A x.n x.c] 69)).putObj (W0.heap.size+1) o');have hzb1:W2.heap.size+1<=Wb.heap.size:=by rw[hWb];simp
  have hzb2:Wb.heap.size<=W2.heap.size+1:=by rw[hWb];simp
  have hT:jcy W0.heap.size (W2.alloc (.cells #[.string x.x.n,.slice x.A x.n x.c] 69)) Wb:=by rw[hWb];exact jcy.putObj _ _ (.inr rfl)
  have hIb:=((hI.ext hst).ext ((Ext.refl _).alloc (.cells #[.string x.x.n,.slice x.A x.n x.c] 69))).turned hT (by omega) (by omega);have hcb:Blk Wb W2.heap.size 69 #[.string x.x.n,.slice x.A x.n x.c]:=(hT.block _ (by simp) (by omega) (by omega)).trans (Blk.new _ _ _);rw[<- hWb];have HIB:=zh hIb;have HXT:=zh (show jad (fun b=>b<w.heap.size) Wb (.slice x.A x.n x.c) x.x.args from hxt.ext hIb.fx);have HXS:=zh hxs;have HXL:=zh (show (jf7 (pre.map toME)).length<100000 from Nat.lt_of_le_of_lt (jxp _) (by rw[List.length_map];omega));have hwb:=hIb.fx.size;obtain⟨A4,n4,c4,rfl,hn4,ha4,hb4⟩:=hIb.fo.form2;have c0:=hIb.fl.cell 0;have c2:=hcb.cell 0;have c3:=hcb.cell 1;have hl1:=hIb.fl.lt;have hl3:=hcb.lt;have f0:=hIb.fl.frozen 0;have HDW:=zh (show W0.heap.size+2<=Wb.heap.size from by omega);clear hWb hT hIb hxt hxs hI ho hoc hst;by_cases hs0:x.s=0
  . have h1:((x.s:Int) == 0)=true:=by simp[hs0]
    have HXM:=zh (show jf7 ((pre++[x]).map toME)=jf7 (pre.map toME)++[x.x] from by unfold jf7;rw[List.map_append,List.filter_append,List.map_append];simp[hs0,toME]);clear hs0
    gi_wp2_with (first
     | (gi_at_builtin;go_loud (refine jiw (k:=kAtom) (S:=fun b=>b<w.heap.size) (T:=fun b=>b<w.heap.size) (base:=W0.heap.size+2) (xs:=jf7 (pre.map toME)) (ys:=[x.x]) rfl (.tmp 17) (.tmp 19) 24 (by rfl) i0 _ 40 Tryz.underlying24 hi0 hz0 hz1 hz2 (by rfl) (by rfl) (HIB.o.fo.ext ((Ext.refl _).alloc _)) (some ⟨Wb.heap.size,0,none⟩) 1 1 (by rfl) (jar.one (k:=kAtom) (x:=x.x) (Blk.new Wb 69 #[.string x.x.n,.slice x.A x.n x.c]) ⟨_,rfl,HXS.o,HXT.o.ext ((Ext.refl _).alloc _)⟩) (fun b hb _=>hb) (fun g hg hb=>absurd (HIB.o.fo.at_ g hg).1 (by omega)) (maxOf (by have:=HXL.o;omega)) (by have:=HXL.o;omega) (by have:=HDW.o;simp only[World.size_alloc];omega) ?_)
        intro v5 w5 hap;obtain⟨A5,n5,c5,rfl,hn5,ha5,hb5⟩:=hap.own.form2;have HAP:=zh hap;have hl5:=((HIB.o.fl.alloc (.cells #[.string x.x.n,.slice x.A x.n x.c] 69)).below hap.below (by omega))
        have p0:=hl5.cell 0;have g0:=hl5.frozen 0;have pl5:=hl5.lt;have hz5:=hap.grown.size;have HL5:=zh hl5;clear hap hl5))
    have hbel:=HAP.o.below;have hgr:=HAP.o.grown;refine⟨((KeepsOthers.alloc Wb _).trans (KeepsOthers.of_grownBy HAP.o.grown (fun j o h1 h2=>OwnK.cells (HIB.o.fo.ext ((Ext.refl _).alloc _)) j o h1 h2))).trans (KeepsOthers.setCell _ _ _),⟨by have h:=HAP.o.grown.size;simp only[World.size_alloc] at h;have h2:Wb.heap.size<=w5.heap.size:=(by omega);go_size;try exact h2,fun b hb hlt=>?_⟩,.slice A5 n5 c5,?_,?_,?_⟩
    . refine (Below.heap_setCell _ _ _ _ (by simp only;omega)).trans ((hbel.block b (by omega)).trans ?_)
      exact (Below.heap_alloc _ _ _ hlt)
    . simpa using HL5.o.set_ 0 (.slice A5 n5 c5)
    . rw [HXM.o]
      refine HAP.o.own.agree ((Agree.refl _ _).setCell (by simp only;omega) _) (fun g hg=>?_) (by go_size);have:=(HAP.o.own.at_ g hg).1;exact Below.heap_setCell _ _ _ _ (by simp only;omega)
    exact Ext.setNew (HAP.o.toExt (HIB.o.fx.alloc _) (by omega)) (Nat.le_refl _) _
  have h1:((x.s:Int) == 0)=false:=by simp[hs0]
  have HXM:=zh (show jf7 ((pre++[x]).map toME)=jf7 (pre.map toME) from by unfold jf7;rw[List.map_append,List.filter_append];simp[hs0,toME]);clear hs0
  gi_wp2
  exact⟨KeepsOthers.refl _,⟨Nat.le_refl _,.refl _ _⟩,_,by rw[HXM.o];exact HIB.o⟩
 case done =>
  rintro xs W hxs ⟨v,hI⟩ hK;obtain⟨A4,n4,c4,rfl,hn4,ha4,hb4⟩:=hI.fo.form2;have c0:=hI.fl.cell 0;have hl1:=hI.fl.lt;have HI:=zh hI;have HXX:=zh hxs;clear hI hxs
  gi_wp2
  have hF:=HI.o.turned (jcy.putObj (D:=W0.heap.size) (l:=W0.heap.size) W (.deferred none) (.inl rfl)) (by omega) (by omega);refine⟨by simp,.inl ⟨_,_,rfl,run_takeDeferred hK,?_⟩⟩;refine⟨.slice A4 n4 c4,by simp[results,Tryz.results133,go_sem],⟨_,rfl,?_⟩,hF.fx⟩;rw[<- HXX.o];exact hF.fo.list (S':=Any) (fun _ _=>trivial) (fun _ _=>trivial)
theorem jsu (v u:Value) (xs ys:List GA) (w:World) {S T:Nat->Prop} (hv:jab S w v xs) (hu:jab T w u ys) (hl:xs.length+ys.length<=100000) (hx:Facts xs) (ax:Asc xs) (hy:Facts ys) (ay:Asc ys) :
  Calls Tryz.prog 132 #[v,u] w fun e w'=>(∃ r,e=.returned r/\jab Any w' r (ys.foldl putA xs))/\Ext w w':=by
 obtain⟨ps,qs,rfl,rfl,h⟩:=juq v u xs ys w hv hu hl;rw[jt6 hx ax hy ay] at h;exact h
theorem jm3 (v u:Value) (xs ys:List GA) (w:World) {S T:Nat->Prop} (hv:jab S w v xs) (hu:jab T w u ys) (hl:xs.length+ys.length<=100000) (hx:Facts xs) (ax:Asc xs) (hy:Facts ys) (ay:Asc ys) :
  Calls Tryz.prog 133 #[v,u] w fun e w'=>(∃ r,e=.returned r/\jab Any w' r (lessA xs ys))/\Ext w w':=by
 obtain⟨ps,qs,rfl,rfl,h⟩:=jqb v u xs ys w hv hu hl;have e:=jop hx ax hy ay;rw[<- e];exact h
end Go.Proofs.YthiflhkcpanaaaaGreatDoor
namespace Go.Proofs.YthiflhkcpanaaaaGreatDoor
open Go.RowKit
theorem jix (list:List GA) (g:GC) (v a b:Value) (w:World) {S T U:Nat->Prop} (hv:jab S w v list) (ha:jab T w a g.comes) (hb:jab U w b g.goes) (hl:list.length<=40000) (h1:Facts list) (h2:Asc list) (hc:jas g=true) :
  Calls Tryz.prog 67 #[v,.agg #[a,b]] w fun e w'=>(∃ r,e=.returned r/\jab Any w' r (doL list ⟨g.goes,g.comes⟩))/\Ext w w':=by
 obtain⟨A,c,rfl,_,_⟩:=jaa.form hv;obtain⟨P,p,rfl,_,_⟩:=jaa.form ha;obtain⟨Q,q,rfl,_,_⟩:=jaa.form hb;obtain⟨k1,k2,_⟩:=jct hc;obtain⟨c1,c2,c3⟩:=jbw k1;obtain⟨d1,d2,d3⟩:=jbw k2;obtain⟨l1,l2,_⟩:=jj1 h1 h2 c1 c2;have hll:=jge list g.comes;obtain⟨W,hW⟩:=nm (w.alloc (.cells #[.slice P g.comes.length p,.slice Q g.goes.length q] 36));have HB:=zh (show Blk W w.heap.size 36 #[.slice P g.comes.length p,.slice Q g.goes.length q] from by rw[hW];exact Blk.new _ _ _);have HX:=zh (show Ext w W from by rw[hW];exact (Ext.refl _).alloc _);have HWO:=zh (fun (W':World) (hW':Ext W W')=>jm3 _ _ list g.comes W' (hv.ext (HX.o.t hW')) (ha.ext (HX.o.t hW')) (by omega) h1 h2 c1 c2);have HUN:=zh (fun (W':World) (x:Value) (hW':Ext W W') (hx:jab Any W' x (lessA list g.comes))=>jsu _ _ (lessA list g.comes) g.goes W' hx (hb.ext (HX.o.t hW')) (by omega) l1 l2 d1 d2);have p0:=HB.o.cell 0;have p1:=HB.o.cell 1;have pl:=HB.o.lt;clear hv ha hb h1 h2 hc k1 k2 c1 c2 d1 d2 l1 l2 hll
 go_in;go_wp2_with fail
 rw[<- hW];clear hW
 go_region_held3 (fun W'=>W'.cell? ⟨w.heap.size,0,none⟩=some (.slice P g.comes.length p)/\W'.cell? ⟨w.heap.size,1,none⟩=some (.slice Q g.goes.length q))
  (first|exact⟨((HB.o.ext HX3.o).cell 0).trans rfl,((HB.o.ext HX3.o).cell 1).trans rfl⟩|exact⟨((HB.o.ext HX2.o).cell 0).trans rfl,((HB.o.ext HX2.o).cell 1).trans rfl⟩|exact⟨((HB.o.ext (Ext.refl W).drew).cell 0).trans rfl,((HB.o.ext (Ext.refl W).drew).cell 1).trans rfl⟩)
  (first
   | (go_at_call 133;refine (HWO.o _ (Ext.refl W).drew).mono ?_;rintro e w2 ⟨⟨r2,rfl,hr2⟩,hx2⟩
      obtain⟨R2,e2,rfl,_,_⟩:=jaa.form hr2;have HX2:=zh ((Ext.refl W).drew.t hx2);have HR2:=zh hr2;clear hr2 hx2)
   | (go_at_call 132;refine (HUN.o _ _ HX2.o HR2.o).mono ?_;rintro e w3 ⟨⟨r3,rfl,hr3⟩,hx3⟩
      have HX3:=zh (HX2.o.t hx3);have HR3:=zh hr3;clear hr3 hx3))
 all_goals go_wp2_with fail
 all_goals go_ret
 all_goals exact⟨⟨_,rfl,HR3.o⟩,HX.o.t HX3.o⟩
theorem j2c (x:ByteArray) (w:World):Calls Tryz.prog 271 #[.string x] w fun e w'=>e=.returned (.bool false)/\w'=w:=by
 have e:(!x.toList == x.toList)=false:=by simp
 go_in;go_wp2;go_ret
 first
  | exact⟨rfl,rfl⟩
  | (refine⟨?_,rfl⟩;simp)
theorem jv5 (x y:ByteArray) (w:World):Calls Tryz.prog 318 #[.string x,.string y] w fun e w'=>e=.returned (.bool (Op.bytesLess x.toList y.toList))/\w'=w:=by
 have tok:True:=trivial
 go_in;go_wp2_with (first|(go_at_call 271;refine (j2c _ _).mono ?_;rintro e w1 ⟨rfl,e1⟩;obtain rfl:w=w1:=e1.symm)|fail)
 go_ret;exact⟨rfl,rfl⟩
theorem j1k {xs:List ByteArray} (ha:AscS xs) {i k:Nat} {s x:ByteArray} (hi:xs[i]? = some s) (hk:xs[k]? = some x):Op.bytesLess x.toList s.toList=decide (k<i):=by
 rw[jlg];obtain⟨h1,rfl⟩:=List.getElem?_eq_some_iff.1 hi;obtain⟨h2,rfl⟩:=List.getElem?_eq_some_iff.1 hk;rcases Nat.lt_trichotomy k i with h|h|h
 . rw[decide_eq_true h];exact List.pairwise_iff_getElem.1 ha k i h2 h1 h
 . subst h;rw[decide_eq_false (by omega)]
   exact jl0 _
 rw[decide_eq_false (by omega)];have:=List.pairwise_iff_getElem.1 ha i k h1 h2 h
 cases hh:ltS xs[k] xs[i] with
 | false=>rfl
 | true=>have h3:=jgn hh this;rw[jl0] at h3;cases h3
theorem jqc (xs:List ByteArray) (v:Value) (s:ByteArray) (i:Nat) (w:World) {V:Nat->Prop} (h:StrsR V w v xs) (ha:AscS xs) (hi:xs[i]? = some s) (hl:xs.length<=4294967296) :
  Calls Tryz.prog 292 #[v,.string s] w fun e w'=>e=.returned (.tuple #[.int .i64 (i:Int),.bool true])/\w'=w:=by
 obtain⟨A,c,rfl,hc1,hc2⟩:=jaa.form h;have hil:i<xs.length:=(List.getElem?_eq_some_iff.1 hi).1;have HS:=zh h;have HA:=zh ha;have HI:=zh hi;clear h ha hi
 go_in;go_wp2_with fail
 go_loopw [7,8,9] (fun a b m wr=>∃ lo hi:Nat,a=.int .i64 lo/\b=.int .i64 hi/\lo<=i/\i<=hi/\hi<=xs.length/\wr=w) (fun a b _ _=>(intOf b-intOf a).toNat)
 case atStart=>exact⟨0,xs.length,rfl,rfl,Nat.zero_le _,by omega,Nat.le_refl _,rfl⟩
 case round =>
  obtain⟨lo,hi,rfl,rfl,h1,h2,h3,rfl⟩:=hrel;by_cases hlt:lo<hi
  . have hlt1:(lo:Int)<(hi:Int):=by omega
    have hm1:(lo+hi) / 2<xs.length:=by omega
    obtain⟨b,o,x,rfl,hb,hx,_,hcell⟩:=StrsR.at_ HS.o hm1;have hls:=j1k HA.o HI.o hx;by_cases hm:(lo+hi) / 2<i
    . rw [decide_eq_true hm] at hls
      have HM:=zh hm;have hm0:(((lo+hi) / 2:Nat):Int)=((lo:Int)+(hi:Int)) / 2:=by omega
      have HM0:=zh hm0;clear hm hm0;go_wp2_with (first|(go_at_call 318;refine (jv5 _ _ _).mono ?_;rintro e w1 ⟨rfl,e1⟩;obtain rfl:wr=w1:=e1.symm)|fail)
      have hm:=HM.o;have hm0:=HM0.o;go_roundw
      case rel=>exact⟨(lo+hi) / 2+1,hi,congrArg _ (by omega),rfl,by omega,h2,h3,trivial⟩
      case measure=>simp[intOf];omega
    rw[decide_eq_false hm] at hls;have HM:=zh hm;have hm0:(((lo+hi) / 2:Nat):Int)=((lo:Int)+(hi:Int)) / 2:=by omega
    have HM0:=zh hm0;clear hm hm0;go_wp2_with (first|(go_at_call 318;refine (jv5 _ _ _).mono ?_;rintro e w1 ⟨rfl,e1⟩;obtain rfl:wr=w1:=e1.symm)|fail)
    have hm:=HM.o;have hm0:=HM0.o;go_roundw
    case rel=>exact⟨lo,(lo+hi) / 2,rfl,congrArg _ (by omega),h1,by omega,by omega,trivial⟩
    case measure=>simp[intOf];omega
  have hlt1:¬ (lo:Int)<(hi:Int):=by omega
  obtain rfl:lo=hi:=by omega
  obtain rfl:lo=i:=by omega
  have hi1:(lo:Int)<(xs.length:Int):=by omega
  obtain⟨b,o,x,rfl,hb,hx,_,hcell⟩:=StrsR.at_ HS.o hil;obtain rfl:x=s:=Option.some.inj (hx.symm.trans HI.o);have e1:(x.toList == x.toList)=true:=by simp
  go_wp2_with fail
  go_ret2;exact⟨rfl,rfl⟩
end Go.Proofs.YthiflhkcpanaaaaGreatDoor
namespace Go.Proofs
open Go.Shelf
def Tryz.lays190_ren:Go.Shelf.Ren:=⟨fun|190=>290|125=>223|258=>317|128=>269|129=>270|302=>329|303=>330|304=>331|305=>332|306=>333|307=>334|308=>318|309=>335|310=>336|333=>343|329=>299|330=>300|334=>344|335=>345|336=>271|344=>349|n=>n,fun|31=>140|9=>9|3=>3|46=>260|0=>0|51=>309|53=>311|4=>4|183=>303|182=>302|131=>227|5=>5|218=>337|222=>341|228=>354|229=>355|n=>n,fun|n=>n⟩
theorem Tryz.lays190:Go.Proofs.Lays.n190 Tryz.prog Tryz.lays190_ren:= {
 mixed:=by kernel_rfl
 f125:=Tryz.func223.trans (congrArg some (by kernel_rfl))
 f128:=Tryz.func269.trans (congrArg some (by kernel_rfl))
 f129:=Tryz.func270.trans (congrArg some (by kernel_rfl))
 f190:=Tryz.func290.trans (congrArg some (by kernel_rfl))
 f258:=Tryz.func317.trans (congrArg some (by kernel_rfl))
 f302:=Tryz.func329.trans (congrArg some (by kernel_rfl))
 f303:=Tryz.func330.trans (congrArg some (by kernel_rfl))
 f304:=Tryz.func331.trans (congrArg some (by kernel_rfl))
 f305:=Tryz.func332.trans (congrArg some (by kernel_rfl))
 f306:=Tryz.func333.trans (congrArg some (by kernel_rfl))
 f307:=Tryz.func334.trans (congrArg some (by kernel_rfl))
 f308:=Tryz.func318.trans (congrArg some (by kernel_rfl))
 f309:=Tryz.func335.trans (congrArg some (by kernel_rfl))
 f310:=Tryz.func336.trans (congrArg some (by kernel_rfl))
 f329:=Tryz.func299.trans (congrArg some (by kernel_rfl))
 f330:=Tryz.func300.trans (congrArg some (by kernel_rfl))
 f333:=Tryz.func343.trans (congrArg some (by kernel_rfl))
 f334:=Tryz.func344.trans (congrArg some (by kernel_rfl))
 f335:=Tryz.func345.trans (congrArg some (by kernel_rfl))
 f336:=Tryz.func271.trans (congrArg some (by kernel_rfl))
 f344:=Tryz.func349.trans (congrArg some (by kernel_rfl))
 t0:=Tryz.underlying0
 a0:=Tryz.isAgg0
 z0:=Tryz.sizeOf0
 v0:=Tryz.zeroValue0
 t3:=Tryz.underlying3
 a3:=Tryz.isAgg3
 z3:=Tryz.sizeOf3
 v3:=Tryz.zeroValue3
 t4:=Tryz.underlying4
 a4:=Tryz.isAgg4
 z4:=Tryz.sizeOf4
 v4:=Tryz.zeroValue4
 t5:=Tryz.underlying5
 a5:=Tryz.isAgg5
 z5:=Tryz.sizeOf5
 v5:=Tryz.zeroValue5
 t9:=Tryz.underlying9
 a9:=Tryz.isAgg9
 z9:=Tryz.sizeOf9
 v9:=Tryz.zeroValue9
 t31:=Tryz.underlying140
 a31:=Tryz.isAgg140
 z31:=Tryz.sizeOf140
 v31:=Tryz.zeroValue140
 t46:=Tryz.underlying260
 a46:=Tryz.isAgg260
 z46:=Tryz.sizeOf260
 v46:=Tryz.zeroValue260
 t51:=Tryz.underlying309
 a51:=Tryz.isAgg309
 z51:=Tryz.sizeOf309
 v51:=Tryz.zeroValue309
 t53:=Tryz.underlying311
 a53:=Tryz.isAgg311
 z53:=Tryz.sizeOf311
 v53:=Tryz.zeroValue311
 t131:=Tryz.underlying227
 a131:=Tryz.isAgg227
 z131:=Tryz.sizeOf227
 v131:=Tryz.zeroValue227
 t182:=Tryz.underlying302
 a182:=Tryz.isAgg302
 z182:=Tryz.sizeOf302
 v182:=Tryz.zeroValue302
 t183:=Tryz.underlying303
 a183:=Tryz.isAgg303
 z183:=Tryz.sizeOf303
 v183:=Tryz.zeroValue303
 t218:=Tryz.underlying337
 a218:=Tryz.isAgg337
 z218:=Tryz.sizeOf337
 v218:=Tryz.zeroValue337
 t222:=Tryz.underlying341
 a222:=Tryz.isAgg341
 z222:=Tryz.sizeOf341
 v222:=Tryz.zeroValue341
 t228:=Tryz.underlying354
 a228:=Tryz.isAgg354
 z228:=Tryz.sizeOf354
 v228:=Tryz.zeroValue354
 t229:=Tryz.underlying355
 a229:=Tryz.isAgg355
 z229:=Tryz.sizeOf355
 v229:=Tryz.zeroValue355 }
open Go.Sort Go.RowKit in
theorem Tryz.slices_Sort_string (blk off cap:Nat) (ss:List (List UInt8)) (w:World) (hH:Holds encStr w blk off ss.toArray) (hblk:blk<w.heap.size) (hsz:ss.length<4611686018427387904) :
 Calls Tryz.prog 290 #[.slice (some ⟨blk,off,none⟩) ss.length cap] w fun e w' =>
  e=.returned (.tuple #[])/\∃ n os,w'=grow (putRow encStr (Sort.ahead w n) blk off (ss.mergeSort fun x y=>decide (x<=y)).toArray) os:=Any.slices_Sort_string Tryz.lays190 blk off cap ss w hH hblk hsz
def Tryz.lays194_ren:Go.Shelf.Ren:=⟨fun|194=>291|n=>n,fun|31=>140|9=>9|3=>3|4=>4|0=>0|n=>n,fun|n=>n⟩
theorem Tryz.lays194:Go.Proofs.Lays.n194 Tryz.prog Tryz.lays194_ren:= {
 mixed:=by kernel_rfl
 f194:=Tryz.func291.trans (congrArg some (by kernel_rfl))
 t0:=Tryz.underlying0
 a0:=Tryz.isAgg0
 z0:=Tryz.sizeOf0
 v0:=Tryz.zeroValue0
 t3:=Tryz.underlying3
 a3:=Tryz.isAgg3
 z3:=Tryz.sizeOf3
 v3:=Tryz.zeroValue3
 t4:=Tryz.underlying4
 a4:=Tryz.isAgg4
 z4:=Tryz.sizeOf4
 v4:=Tryz.zeroValue4
 t9:=Tryz.underlying9
 a9:=Tryz.isAgg9
 z9:=Tryz.sizeOf9
 v9:=Tryz.zeroValue9
 t31:=Tryz.underlying140
 a31:=Tryz.isAgg140
 z31:=Tryz.sizeOf140
 v31:=Tryz.zeroValue140 }
open Go.RowKit Go.Lib Go.Sort in
theorem Tryz.slices_Compact_string (blk off cap:Nat) (zs:List (List UInt8)) (w:World) (hH:Holds encStr w blk off zs.toArray) (hsz:zs.length<=9223372036854775807) (hcap:zs.length<=cap) :
 Calls Tryz.prog 291 #[.slice (some ⟨blk,off,none⟩) zs.length cap] w fun e w'=>e=.returned (.slice (some ⟨blk,off,none⟩) (Lib.compact zs).length cap)/\∃ q,w'=putRow encStr (Sort.ahead w q) blk off (Lib.compact zs++List.replicate (zs.length-(Lib.compact zs).length) []).toArray:=Any.slices_Compact_string Tryz.lays194 blk off cap zs w hH hsz hcap
open Go.RowKit Go.Lib Go.Sort in
theorem Tryz.slices_Compact_string_empty (a:Option Addr) (cap:Nat) (w:World) :
 Calls Tryz.prog 291 #[.slice a 0 cap] w fun e w'=>e=.returned (.slice a 0 cap)/\w'=w:=Any.slices_Compact_string_empty Tryz.lays194 a cap w
open Go.RowKit Go.Sort in
theorem Tryz.slices_Sort_string_none (p:Option Addr) (cap:Nat) (w:World) :
 Calls Tryz.prog 290 #[.slice p 0 cap] w fun e w'=>e=.returned (.tuple #[])/\w'=w:=Any.slices_Sort_string_none Tryz.lays190 p cap w
end Go.Proofs
namespace Go.Proofs.YthiflhkcpanaaaaGreatDoor
open Go.RowKit
def jb6 (ts:List GT):List ByteArray:=(ts.filter (·.v)).map (·.n)
def ja4 (ps:List GP):List ByteArray:=ps.flatMap fun p=>jb6 p.atom.args
theorem jgv {ps:List GP} {x:ByteArray}:x∈ja4 ps↔x∈varsN ps:=by
 rw[jfh];unfold ja4;rw[List.mem_flatMap];exact Iff.rfl
theorem jh1 (x y:List UInt8):x<y↔ltS (strOf x) (strOf y)=true:=by
 rw[<- jlg,bytesLess_eq,decide_eq_true_iff,ByteArray.toList_eq,ByteArray.toList_eq];exact Iff.rfl
theorem jh2 (x y:List UInt8):x<=y↔ltS (strOf y) (strOf x)=false:=by
 rw[<- Bool.not_eq_true,<- jh1];exact Iff.rfl
theorem jz6 {x y:List UInt8} (h:strOf x=strOf y):x=y:=by
 have:=congrArg (fun b:ByteArray=>b.data.toList) h;simpa [strOf] using this
theorem jh3 {x y:List UInt8} (h:x<=y) (hn:x≠y):x<y:=by
 rw[jh1];exact jq1 ((jh2 x y).1 h) (fun e=>hn (jz6 e).symm)
theorem jqd {x y z:List UInt8} (h:x<=y) (k:y<=z):x<=z:=by
 rw[jh2]
 cases hh:ltS (strOf z) (strOf x) with
 | false=>rfl
 | true =>
   by_cases e:y=z
   . subst e;rw[jh2] at h;rw[h] at hh;cases hh
   have h1:=(jh1 _ _).1 (jh3 k e);have h2:=jgn h1 hh;rw[jh2] at h;rw[h] at h2;cases h2
theorem jqe (x y:List UInt8):x<=y∨y<=x:=by
 rw[jh2,jh2]
 cases h1:ltS (strOf y) (strOf x) with
 | false=>exact .inl rfl
 | true =>
   refine .inr ?_
   cases h2:ltS (strOf x) (strOf y) with
   | false=>rfl
   | true=>have:=jgn h1 h2;rw[jl0] at this;cases this
theorem jz7 {d:Array (List UInt8)} (hs:∀ i j,i<=j->j<d.size->d[i]! <=d[j]!):∀ m,m<=d.size->(∀ x,x∈Lib.compactUpTo d m↔∃ j,j<m/\d[j]! = x)/\(Lib.compactUpTo d m).Pairwise (· < ·)
 | 0,_=>⟨fun x=>⟨fun h=>by simp[Lib.compactUpTo] at h,fun ⟨j,h,_⟩=>absurd h (Nat.not_lt_zero _)⟩,by simp[Lib.compactUpTo]⟩
 | m + 1, hm=>by
   obtain⟨h1,h2⟩:=jz7 hs m (by omega);rw[Lib.compactUpTo_succ];by_cases hk:Lib.keeps d m=true
   . rw [if_pos hk]
     refine⟨fun x=>?_,?_⟩
     . rw [List.mem_append,h1,List.mem_singleton]
       constructor
       . rintro (⟨j,hj,rfl⟩|rfl)
         . exact⟨j,by omega,rfl⟩
         exact⟨m,by omega,rfl⟩
       rintro ⟨j,hj,rfl⟩;by_cases e:j=m
       . subst e;exact .inr rfl
       exact .inl ⟨j,by omega,rfl⟩
     refine List.pairwise_append.2 ⟨h2,List.pairwise_singleton _ _,fun a ha b hb=>?_⟩;obtain⟨j,hj,rfl⟩:=(h1 a).1 ha;rw[List.mem_singleton] at hb;subst hb
     have hne:d[m]! ≠d[m-1]! :=by
      unfold Lib.keeps at hk;rcases of_decide_eq_true hk with h0|h0
      . omega
      exact h0
     have a1:=hs j (m-1) (by omega) (by omega);have a2:=jh3 (hs (m-1) m (by omega) (by omega)) (fun e=>hne e.symm);by_cases e:d[j]! = d[m-1]!
     . rw[e];exact a2
     exact (jh1 _ _).2 (jgn ((jh1 _ _).1 (jh3 a1 e)) ((jh1 _ _).1 a2))
   have hk':Lib.keeps d m=false:=by simpa using hk
   rw[if_neg hk,List.append_nil];refine⟨fun x=>?_,h2⟩;rw[h1]
   constructor
   . rintro ⟨j,hj,rfl⟩;exact⟨j,by omega,rfl⟩
   rintro ⟨j,hj,rfl⟩;by_cases e:j=m
   . subst e
     unfold Lib.keeps at hk';have h0:=of_decide_eq_false hk';have h3:j≠0:=fun e=>h0 (.inl e)
     have h4:d[j]! = d[j-1]! :=Classical.byContradiction fun e=>h0 (.inr e)
     exact⟨j-1,by omega,h4.symm⟩
   exact⟨j,by omega,rfl⟩
def sortW (zs:List (List UInt8)):List (List UInt8):=zs.mergeSort fun x y=>decide (x<=y)
theorem jsv (zs:List (List UInt8)):(sortW zs).Pairwise fun x y=>x<=y:=by
 have h:=List.pairwise_mergeSort (le:=fun x y:List UInt8=>decide (x<=y)) (fun a b c h1 h2=>decide_eq_true (jqd (of_decide_eq_true h1) (of_decide_eq_true h2)))
  (fun a b=>by rcases jqe a b with h|h<;>simp[h]) zs
 exact h.imp fun h=>of_decide_eq_true h
theorem jnl (zs:List (List UInt8)):(∀ x,x∈Lib.compact (sortW zs)↔x∈zs)/\(Lib.compact (sortW zs)).Pairwise (· < ·):=by
 have hs:∀ i j,i<=j->j<(sortW zs).toArray.size->(sortW zs).toArray[i]! <=(sortW zs).toArray[j]! :=by
  intro i j hij hj;have hj':j<(sortW zs).length:=by simpa using hj
  have hi':i<(sortW zs).length:=by omega
  have e1:(sortW zs).toArray[i]! = (sortW zs)[i]:=by simp[getElem!_pos,hi']
  have e2:(sortW zs).toArray[j]! = (sortW zs)[j]:=by simp[getElem!_pos,hj']
  rw[e1,e2];by_cases e:i=j
  . subst e;rw[jh2];exact jl0 _
  exact List.pairwise_iff_getElem.1 (jsv zs) i j hi' hj' (by omega)
 obtain⟨h1,h2⟩:=jz7 hs (sortW zs).length (by simp);refine⟨fun x=>?_,h2⟩;have h3:x∈Lib.compact (sortW zs)↔_:=h1 x;have hp:x∈sortW zs↔x∈zs:=(List.mergeSort_perm zs fun x y=>decide (x<=y)).mem_iff;rw[h3,<- hp];have e:∀ j (hj:j<(sortW zs).length),(sortW zs).toArray[j]! = (sortW zs)[j]:=fun j hj=>by simp[getElem!_pos,hj]
 constructor
 . rintro ⟨j,hj,rfl⟩
   rw[e j hj];exact List.getElem_mem hj
 intro hx;obtain⟨j,hj,rfl⟩:=List.getElem_of_mem hx;exact⟨j,hj,e j hj⟩
theorem jsw (ps:List GP):(Lib.compact (sortW ((ja4 ps).map fun s=>s.data.toList))).map strOf=varsN ps:=by
 obtain⟨h1,h2⟩:=jnl ((ja4 ps).map fun s=>s.data.toList);refine jy7 jww ?_ ((jgq ps).imp fun h=>of_decide_eq_true h) (fun x=>?_)
 . refine List.pairwise_map.2 (h2.imp fun {a b} h=>?_)
   exact of_decide_eq_true ((jh1 a b).1 h)
 rw[List.mem_map,<- jgv]
 constructor
 . rintro ⟨y,hy,rfl⟩
   obtain⟨s,hs,rfl⟩:=List.mem_map.1 ((h1 y).1 hy);exact hs
 intro hx;exact⟨x.data.toList,(h1 _).2 (List.mem_map.2 ⟨x,hx,rfl⟩),rfl⟩
end Go.Proofs.YthiflhkcpanaaaaGreatDoor
