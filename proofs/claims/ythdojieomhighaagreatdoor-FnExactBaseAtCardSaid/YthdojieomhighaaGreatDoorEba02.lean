/- Own texts, joined. -/
import Derived.Test.YthdojieomhighaaGreatDoorCas01
import Derived.Test.YthdojieomhighaaGreatDoorCas07
import Derived.Test.YthdojieomhighaaGreatDoorCas02
import Derived.Test.YthdojieomhighaaGreatDoorEba01
import Derived.Test.YthdojieomhighaaGreatDoorCas04
import Derived.Test.YthdojieomhighaaGreatDoorCas33
import Derived.Test.YthdojieomhighaaGreatDoorCas34
import Derived.Test.YthdojieomhighaaGreatDoorCas22
import Derived.Test.YthdojieomhighaaGreatDoorCas18
import Derived.Test.YthdojieomhighaaGreatDoorCas30
import Derived.Test.YthdojieomhighaaGreatDoorCas06
import Derived.Test.YthdojieomhighaaGreatDoorCas21
import Derived.Test.YthdojieomhighaaGreatDoorCas20
import Derived.Test.YthdojieomhighaaGreatDoorCas11
import Derived.Test.YthdojieomhighaaGreatDoorCas31
import Derived.Test.YthdojieomhighaaGreatDoorCas32
set_option linter.unusedSimpArgs false
set_option linter.unusedVariables false
set_option maxHeartbeats 4000000
set_option maxRecDepth 100000
namespace Go.Proofs.YthdojieomhighaaGreatDoor
open Go.RowKit
section
variable {α:Type} (m:Nat→α→α) (c:α→Nat)
def costL (l:List α):Nat:=(l.map c).sum
def mList:Nat→List α→List α
 | _,[]=>[]
 | k,a :: l=>m k a :: mList (k+c a) l
theorem j15:∀ (k:Nat) (l:List α),(mList m c k l).length=l.length
 | _,[]=>rfl
 | k,a :: l=>by simp[mList,j15 (k+c a) l]
theorem j2u:∀ (k:Nat) (l:List α) (a:α),mList m c k (l++[a])=mList m c k l++[m (k+costL c l) a]
 | k,[],a=>by simp[mList,costL]
 | k,b :: l,a=>by
   have ih:=j2u (k+c b) l a;simp only[List.cons_append,mList,ih,costL,List.map_cons,List.sum_cons];rw[Nat.add_assoc]
theorem j3v (l:List α) (a:α):costL c (l++[a])=costL c l+c a:=by simp[costL]
theorem j2a {xs:List α} {k i:Nat} {x:α} (h:xs[i]? = some x):(mList m c k (xs.take i)++xs.drop i).set i (m (k+costL c (xs.take i)) x)=mList m c k (xs.take (i+1))++xs.drop (i+1):=by
 obtain⟨hi,rfl⟩:=List.getElem?_eq_some_iff.1 h;have hl:(mList m c k (xs.take i)).length=i:=by rw[j15,List.length_take];omega
 rw[List.set_append_right _ _ (by omega),hl,Nat.sub_self,List.drop_eq_getElem_cons hi,List.set_cons_zero,List.take_succ_eq_append_getElem hi,j2u,List.append_assoc]
 rfl
theorem j2b {xs:List α} {i:Nat} {x:α} (h:xs[i]? = some x):costL c (xs.take (i+1))=costL c (xs.take i)+c x:=by
 obtain⟨hi,rfl⟩:=List.getElem?_eq_some_iff.1 h;rw[List.take_succ_eq_append_getElem hi,j3v]
theorem j1y (xs:List α) (i:Nat):costL c (xs.take i)≤costL c xs:=by
 have h:costL c xs=costL c (xs.take i)+costL c (xs.drop i):=by
  unfold costL;rw[← List.sum_append,← List.map_append,List.take_append_drop]
 omega
theorem j2c {xs:List α} {k i:Nat} {x:α} (hi:i≤xs.length) (h:(mList m c k (xs.take i)++xs.drop i)[i]? = some x):xs[i]? = some x:=by
 rw[List.getElem?_append_right (by rw[j15,List.length_take];omega),j15,List.length_take,Nat.min_eq_left hi,Nat.sub_self,List.getElem?_drop,Nat.add_zero] at h;exact h
end
def costC (g:GC):Nat:=j1n g.comes+j1n g.goes
def j1z (k:Nat) (g:GC):GC:=⟨j1o k g.comes,j1o (k+j1n g.comes) g.goes⟩
theorem jby.upd {S:Nat→Prop} {w:World} {A:Option Addr} {n c:Nat} {xs:List GC} (h:jby S w (.slice A n c) xs) {i:Nat} (hi:i<n) :
  ∃ (b off:Nat) (S1 S2:Nat→Prop) (g:GC) (v u:Value),A=some ⟨b,off,none⟩∧b<w.heap.size∧S b∧xs[i]? = some g∧(∀ m,S1 m∨S2 m→S m∧m≠b∧m<w.heap.size)∧(∀ m,S1 m→¬ S2 m) ∧
    w.cell? ⟨b,off+i*2,none⟩=some v∧w.cell? ⟨b,off+i*2+1,none⟩=some u∧jba S1 w v g.comes∧jba S2 w u g.goes ∧
    ∀ (w2:World) (y:GC),jab (fun m=>S1 m∨S2 m) w w2→jba S1 w2 v y.comes→jba S2 w2 u y.goes→jby S w2 (.slice A n c) (xs.set i y):=by
 obtain⟨b,off,F,x,cs,rfl,hb,hs,hx,hfr,hF,hl,hcs,hE,hup⟩:=jad.update h hi;obtain⟨v,u,S1,S2,rfl,h3,h4,h5,h6,h7⟩:=hE;have c0:=hcs 0 _ rfl;have c1:=hcs 1 _ rfl;refine⟨b,off,S1,S2,x,v,u,rfl,hb,hs,hx,fun m hm=>hF m (hm.elim (h5 m) (h6 m)),h7,c0,c1,h3,h4,fun w2 y hin k1 k2=>?_⟩;have hnb:¬ (S1 b∨S2 b):=fun h=>(hF b (h.elim (h5 b) (h6 b))).2.1 rfl
 have hbk:w2.heap[b]? = w.heap[b]? :=hin.block b hb hnb;refine hup w2 [v,u] y hin.size (fun m hm hn hlt=>hin.block m hlt (fun h=>hn (h.elim (h5 m) (h6 m)))) (fun o _=>World.cell?_of_block (w:=w) (a:=⟨b,o,none⟩) hbk) (fun o=>World.frozen?_of_block (w:=w) (a:=⟨b,o,none⟩) hbk) rfl (fun j z hz=>?_) ⟨v,u,S1,S2,rfl,k1,k2,h5,h6,h7⟩;exact (World.cell?_of_block (w:=w) (a:=⟨b,_,none⟩) hbk).trans (hcs j z hz)
theorem j2k (v:Value) (xs:List GC) (k:Nat) (w:World) {S:Nat→Prop} (hv:jby S w v xs) (h1:1≤k) (h2:k+costL costC xs≤100000000) :
  Calls Tryz.prog 89 #[v,.int .i64 k] w fun e w'=>(∃ q:Nat,q=k+costL costC xs∧e=.returned (.int .i64 q))∧jby S w' v (mList j1z costC k xs)∧jab S w w':=by
 obtain⟨A,c,rfl,hc1,hc2⟩:=jad.form hv;have HV:=zh hv;clear hv
 go_enter Tryz.func89,Tryz.ntmps89;go_wp2;go_loopw [1,5] (fun kk i wr=>∃ (j q:Nat),j≤xs.length∧i=.int .i64 j∧kk=.int .i64 q∧q≤100000000∧1≤q∧Hid (q=k+costL costC (xs.take j))∧Hid (jby S wr (.slice A xs.length c) (mList j1z costC k (xs.take j)++xs.drop j))∧Hid (jab S w wr)) (fun _ i _=>xs.length-(intOf i).toNat)
 case atStart=>exact⟨0,k,Nat.zero_le _,rfl,rfl,by omega,h1,by show _=_;simp[costL],HV,jab.refl _ _⟩
 case round =>
  obtain⟨j,q,hj,rfl,rfl,hq1,hq2,hq,ht,hin⟩:=hrel;have hk0:(0:Int)≤(j:Int):=by omega
  by_cases hlt:j<xs.length
  · obtain ⟨b,off,S1,S2,g,v,u,rfl,hb,hs,hx,hF,hdis,c0,c1,ht1,ht2,hup⟩:=jby.upd ht.out (i:=j) hlt
    have hxj:=j2c j1z costC hj hx;obtain⟨B,d,rfl,hd1,hd2⟩:=jad.form ht1;obtain⟨D,d',rfl,hd3,hd4⟩:=jad.form ht2;have hk1:(j:Int)<(xs.length:Int):=by omega
    have HU:=zh hup;have HF:=zh hF;have HD:=zh hdis;have HT1:=zh ht1;have HT2:=zh ht2;have HK:=zh (j2b costC hxj)
    have hq3:q+(j1n g.comes+j1n g.goes)≤100000000:=by
     have h3:=hq.out;have h4:=HK.out;have h5:=j1y costC xs (j+1);have h9:costC g=j1n g.comes+j1n g.goes:=rfl;omega
    have HN:=zh (j2a j1z costC (k:=k) hxj);have tok:True:=trivial;clear hup hx hF ht1 ht2 hxj hdis
    go_wp2_with (first
     | (go_at_call 35;have _t:=tok;refine (j1u (S:=S1) _ g.comes q _ HT1.out hq2 (by omega)).mono ?_;clear tok _t;rintro e w1 ⟨⟨q2,hq2',rfl⟩,hv1,hi1⟩
        have hz1:=hi1.size;have d1:=(World.cell?_of_block (w:=wr) (a:=⟨b,off+j*2+1,none⟩) (hi1.block b hb (fun h=>(HF.out b (.inl h)).2.1 rfl))).trans c1;have HQ2:=zh hq2';have HV1:=zh hv1;have HI1:=zh hi1;have hq4:q2+j1n g.goes≤100000000:=(by omega)
        have hq5:1≤q2:=(by omega)
        clear hq2' hv1 hi1)
     | (go_at_call 35;refine (j1u (S:=S2) _ g.goes q2 _ (jad.imp HT2.out (fun _ h _=>h) (fun i hi hlt=>HI1.out.block i hlt (fun h=>HD.out i h hi)) HI1.out.size) hq5 hq4).mono ?_;rintro e w2 ⟨⟨q3,hq3',rfl⟩,hv2,hi2⟩
        have HQ3:=zh hq3';have HV2:=zh hv2;have HI2:=zh hi2;have hq6:q3≤100000000:=(by omega)
        have hq7:1≤q3:=(by omega)
        clear hq3' hv2 hi2))
    go_roundw
    case rel =>
     have hV2:=HV2.out;rw[HQ2.out] at hV2;have hI:=(HI1.out.sub (T:=fun m=>S1 m∨S2 m) (fun i h _=>.inl h)).trans' (HI2.out.sub (fun i h _=>.inr h));have hT:=HU.out w2 (j1z q g) hI (jad.imp HV1.out (fun _ h _=>h) (fun i hi hlt=>HI2.out.block i hlt (fun h=>HD.out i hi h)) HI2.out.size) hV2;rw[hq.out,HN.out] at hT;refine⟨j+1,q3,by omega,by go_num,rfl,hq6,hq7,by have h3:=HQ2.out;have h3':=HQ3.out;have h4:=HK.out;have h5:=hq.out;have h9:costC g=j1n g.comes+j1n g.goes:=rfl;show _=_;omega,hT,?_⟩;exact hin.out.trans' (hI.sub (fun i hi _=>(HF.out i hi).1))
    case measure=>simp[intOf];omega
  have hjj:j=xs.length:=by omega
  have HF:=zh (show mList j1z costC k (xs.take j)++xs.drop j=mList j1z costC k xs from by rw[hjj,List.drop_length,List.append_nil,List.take_length]);have HQ:=zh (show q=k+costL costC xs from by rw[hq.out,hjj,List.take_length]);clear hjj;go_wp2;go_ret;exact⟨⟨q,HQ.out,rfl⟩,by rw[← HF.out];exact ht.out,hin.out⟩
end Go.Proofs.YthdojieomhighaaGreatDoor
namespace Go.Proofs.YthdojieomhighaaGreatDoor
open Go.RowKit
def costP (p:GP):Nat:=2+2*p.atom.args.length
def mPart (k:Nat) (p:GP):GP:=⟨((k:Int) % 3 == 0),⟨mtext (k+1),j1t (k+2) p.atom.args.length⟩⟩
def costR (r:GR):Nat:=1+2*r.head.args.length+costL costP r.body
def mRule (k:Nat) (r:GR):GR:=⟨⟨mtext k,j1t (k+1) r.head.args.length⟩,mList mPart costP (k+1+2*r.head.args.length) r.body⟩
theorem j1q (w:World) (p:Addr) (u:Value):(w.setCell p u).heap.size=w.heap.size:=by simp[World.setCell]
theorem jci.upd {S:Nat→Prop} {w:World} {A:Option Addr} {n c:Nat} {xs:List GP} (h:jci S w (.slice A n c) xs) {i:Nat} (hi:i<n) :
  ∃ (b off:Nat) (F:Nat→Prop) (x:GP) (u:Value),A=some ⟨b,off,none⟩∧b<w.heap.size∧S b∧xs[i]? = some x∧(∀ m,F m→S m∧m≠b∧m<w.heap.size) ∧
    w.frozen? ⟨b,off+i*3,none⟩=false∧w.frozen? ⟨b,off+i*3+1,none⟩=false∧w.cell? ⟨b,off+i*3,none⟩=some (.bool x.no)∧w.cell? ⟨b,off+i*3+1,none⟩=some (.string x.atom.n)∧w.cell? ⟨b,off+i*3+2,none⟩=some u∧ja8 F w u x.atom.args ∧
    ∀ (w1 w2:World) (y:GP),Ext (w.setCell ⟨b,off+i*3,none⟩ (.bool y.no)) w1→jab F (w1.setCell ⟨b,off+i*3+1,none⟩ (.string y.atom.n)) w2→y.atom.n.size≤maxLen→ja8 F w2 u y.atom.args→jci S w2 (.slice A n c) (xs.set i y):=by
 obtain⟨b,off,F,x,cs,rfl,hb,hs,hx,hfr,hF,hl,hcs,hE,hup⟩:=jad.update h hi;obtain⟨u,rfl,hxs,ht⟩:=hE;have c0:=hcs 0 _ rfl;have c1:=hcs 1 _ rfl;have c2:=hcs 2 _ rfl;have f0:=hfr 0 (by decide);have f1:=hfr 1 (by decide);refine⟨b,off,F,x,u,rfl,hb,hs,hx,hF,f0,f1,c0,c1,c2,ht,fun w1 w2 y he hin hy ht2=>?_⟩;have hsz:=he.size;have hsz2:=hin.size;rw[j1q] at hsz hsz2;have hnF:¬ F b:=fun h=>(hF b h).2.1 rfl
 have hb0:b<(w.setCell ⟨b,off+i*3,none⟩ (.bool y.no)).heap.size:=by rw[j1q];exact hb
 have hb1:b<w1.heap.size:=by omega
 have g0:w1.cell? ⟨b,off+i*3,none⟩=some (.bool y.no):=(he.cells.1 b _ hb0).trans (World.cell?_setCell_same _ _ _ c0);have gx:∀ o,o≠off+i*3→w1.cell? ⟨b,o,none⟩=w.cell? ⟨b,o,none⟩:=fun o ho=>(he.cells.1 b o hb0).trans (World.cell?_setCell_other _ _ _ _ (fun e=>ho (congrArg Addr.off e).symm))
 have g1:w1.cell? ⟨b,off+i*3+1,none⟩=some (.string x.atom.n):=(gx _ (by omega)).trans c1;have hblk:w2.heap[b]? = (w1.setCell ⟨b,off+i*3+1,none⟩ (.string y.atom.n)).heap[b]? :=hin.block b (by rw[j1q];exact hb1) hnF;have hcell:∀ o,w2.cell? ⟨b,o,none⟩=(w1.setCell ⟨b,off+i*3+1,none⟩ (.string y.atom.n)).cell? ⟨b,o,none⟩:=fun o=>World.cell?_of_block hblk
 have hfroz:∀ o,w2.frozen? ⟨b,o,none⟩=(w1.setCell ⟨b,off+i*3+1,none⟩ (.string y.atom.n)).frozen? ⟨b,o,none⟩:=fun o=>World.frozen?_of_block hblk
 have hoth:∀ o,o≠off+i*3+1→w2.cell? ⟨b,o,none⟩=w1.cell? ⟨b,o,none⟩:=fun o ho=>(hcell o).trans (World.cell?_setCell_other _ _ _ _ (fun e=>ho (congrArg Addr.off e).symm))
 refine hup _ [.bool y.no,.string y.atom.n,u] y (by omega) (fun m hm hn hlt=>?_) (fun o ho=>?_) (fun o=>?_) rfl (fun j v hv=>?_) ⟨u,rfl,hy,ht2⟩
 · rw[hin.block m (by rw[j1q];omega) hn,Below.heap_setCell _ _ _ _ hm,he.block m (by rw[j1q];exact hlt),Below.heap_setCell _ _ _ _ hm]
 · have e1:o≠off+i*3∧o≠off+i*3+1:=by
     rcases ho with ho|ho
     · have:o<off+i*3:=ho
       omega
     have:off+(i+1)*3≤o:=ho;omega
   rw[hoth o e1.2,gx o e1.1]
 · rw[hfroz,j1r,he.cells.2 b o hb0,j1r]
 match j,hv with
 | 0,hv =>
   simp at hv;subst hv;show w2.cell? ⟨b,off+(i*3+0),none⟩=_;rw[Nat.add_zero,hoth _ (by omega)];exact g0
 | 1,hv =>
   simp at hv;subst hv;show w2.cell? ⟨b,off+(i*3+1),none⟩=_;rw[hcell];exact World.cell?_setCell_same _ _ _ g1
 | 2,hv =>
   simp at hv;subst hv;show w2.cell? ⟨b,off+(i*3+2),none⟩=_;rw[hoth _ (by omega),gx _ (by omega)];exact c2
theorem jc7.upd {S:Nat→Prop} {w:World} {A:Option Addr} {n c:Nat} {xs:List GR} (h:jc7 S w (.slice A n c) xs) {i:Nat} (hi:i<n) :
  ∃ (b off:Nat) (S1 S2:Nat→Prop) (x:GR) (v u:Value),A=some ⟨b,off,none⟩∧b<w.heap.size∧S b∧xs[i]? = some x∧(∀ m,S1 m∨S2 m→S m∧m≠b∧m<w.heap.size)∧(∀ m,S1 m→¬ S2 m) ∧
    w.frozen? ⟨b,off+i*3,none⟩=false∧w.cell? ⟨b,off+i*3,none⟩=some (.string x.head.n)∧w.cell? ⟨b,off+i*3+1,none⟩=some v∧w.cell? ⟨b,off+i*3+2,none⟩=some u∧ja8 S1 w v x.head.args∧jci S2 w u x.body ∧
    ∀ (w1 w2:World) (y:GR),Ext w w1→jab (fun m=>S1 m∨S2 m) (w1.setCell ⟨b,off+i*3,none⟩ (.string y.head.n)) w2→y.head.n.size≤maxLen→ja8 S1 w2 v y.head.args→jci S2 w2 u y.body→jc7 S w2 (.slice A n c) (xs.set i y):=by
 obtain⟨b,off,F,x,cs,rfl,hb,hs,hx,hfr,hF,hl,hcs,hE,hup⟩:=jad.update h hi;obtain⟨v,u,S1,S2,rfl,hxs,h3,h4,h5,h6,h7⟩:=hE;have c0:=hcs 0 _ rfl;have c1:=hcs 1 _ rfl;have c2:=hcs 2 _ rfl;have f0:=hfr 0 (by decide);refine⟨b,off,S1,S2,x,v,u,rfl,hb,hs,hx,fun m hm=>hF m (hm.elim (h5 m) (h6 m)),h7,f0,c0,c1,c2,h3,h4,fun w1 w2 y he hin hy k1 k2=>?_⟩;have hsz:=he.size;have hsz2:=hin.size;rw[j1q] at hsz2;have hnb:¬ (S1 b∨S2 b):=fun h=>(hF b (h.elim (h5 b) (h6 b))).2.1 rfl
 have hb1:b<w1.heap.size:=by omega
 have e0:w1.cell? ⟨b,off+i*3,none⟩=some (.string x.head.n):=(he.cells.1 b _ hb).trans c0;have hblk:w2.heap[b]? = (w1.setCell ⟨b,off+i*3,none⟩ (.string y.head.n)).heap[b]? :=hin.block b (by rw[j1q];exact hb1) hnb;have hcell:∀ o,w2.cell? ⟨b,o,none⟩=(w1.setCell ⟨b,off+i*3,none⟩ (.string y.head.n)).cell? ⟨b,o,none⟩:=fun o=>World.cell?_of_block hblk
 have hfroz:∀ o,w2.frozen? ⟨b,o,none⟩=(w1.setCell ⟨b,off+i*3,none⟩ (.string y.head.n)).frozen? ⟨b,o,none⟩:=fun o=>World.frozen?_of_block hblk
 have hoth:∀ o,o≠off+i*3→w2.cell? ⟨b,o,none⟩=w.cell? ⟨b,o,none⟩:=fun o ho=>(hcell o).trans ((World.cell?_setCell_other _ _ _ _ (fun e=>ho (congrArg Addr.off e).symm)).trans (he.cells.1 b o hb))
 refine hup _ [.string y.head.n,v,u] y (by omega) (fun m hm hn hlt=>?_) (fun o ho=>?_) (fun o=>?_) rfl (fun j z hz=>?_) ⟨v,u,S1,S2,rfl,hy,k1,k2,h5,h6,h7⟩
 · rw[hin.block m (by rw[j1q];omega) (fun h=>hn (h.elim (h5 m) (h6 m))),Below.heap_setCell _ _ _ _ hm,he.block m hlt]
 · have e1:o≠off+i*3:=by
     rcases ho with ho|ho
     · have:o<off+i*3:=ho
       omega
     have:off+(i+1)*3≤o:=ho;omega
   exact hoth o e1
 · rw[hfroz,j1r,he.cells.2 b o hb]
 match j,hz with
 | 0,hz =>
   simp at hz;subst hz;show w2.cell? ⟨b,off+(i*3+0),none⟩=_;rw[Nat.add_zero,hcell];exact World.cell?_setCell_same _ _ _ e0
 | 1,hz =>
   simp at hz;subst hz;show w2.cell? ⟨b,off+(i*3+1),none⟩=_;rw[hoth _ (by omega)];exact c1
 | 2,hz =>
   simp at hz;subst hz;show w2.cell? ⟨b,off+(i*3+2),none⟩=_;rw[hoth _ (by omega)];exact c2
theorem j20 (v:Value) (xs:List GP) (k:Nat) (w:World) {S:Nat→Prop} (hv:jci S w v xs) (h1:1≤k) (h2:k+costL costP xs≤100000000) :
  Calls Tryz.prog 147 #[v,.int .i64 k] w fun e w'=>(∃ q:Nat,q=k+costL costP xs∧e=.returned (.int .i64 q))∧jci S w' v (mList mPart costP k xs)∧jab S w w':=by
 obtain⟨A,c,rfl,hc1,hc2⟩:=jad.form hv;have HV:=zh hv;clear hv
 go_enter Tryz.func147,Tryz.ntmps147;go_wp2;go_loopw [1,5] (fun kk i wr=>∃ (j q:Nat),j≤xs.length∧i=.int .i64 j∧kk=.int .i64 q∧q≤100000000∧1≤q∧Hid (q=k+costL costP (xs.take j))∧Hid (jci S wr (.slice A xs.length c) (mList mPart costP k (xs.take j)++xs.drop j))∧Hid (jab S w wr)) (fun _ i _=>xs.length-(intOf i).toNat)
 case atStart=>exact⟨0,k,Nat.zero_le _,rfl,rfl,by omega,h1,by show _=_;simp[costL],HV,jab.refl _ _⟩
 case round =>
  obtain⟨j,q,hj,rfl,rfl,hq1,hq2,hq,ht,hin⟩:=hrel;have hk0:(0:Int)≤(j:Int):=by omega
  by_cases hlt:j<xs.length
  · obtain ⟨b,off,F,x,u,rfl,hb,hs,hx,hF,f0,f1,c0,c1,c2,htm,hup⟩:=jci.upd ht.out (i:=j) hlt
    have hxj:=j2c mPart costP hj hx;obtain⟨B,d,rfl,hd1,hd2⟩:=jad.form htm;have hk1:(j:Int)<(xs.length:Int):=by omega
    have HU:=zh hup;have HS:=zh hs;have HF:=zh hF;have HT:=zh htm;have HK:=zh (j2b costP hxj)
    have hq3:q+2+2*x.atom.args.length≤100000000:=by
     have h3:=hq.out;have h4:=HK.out;have h5:=j1y costP xs (j+1);have hcp:costP x=2+2*x.atom.args.length:=rfl;omega
    have HN:=zh (j2a mPart costP (k:=k) hxj);have HM:=zh (fun (W:World)=>j1s (q+1) W (by omega) (by omega));clear hup hs hx hF htm hxj
    go_wp2_with (first
     | (go_at_call 93;refine (HM.out _).mono ?_;rintro e w1 ⟨rfl,hx1⟩;have hz1:=hx1.size
        have d1:=(hx1.cells.1 b (off+j*3+1) (by go_size)).trans ((World.cell?_setCell_other _ _ _ _ (by simp)).trans c1);have d2:=(hx1.cells.1 b (off+j*3+2) (by go_size)).trans ((World.cell?_setCell_other _ _ _ _ (by simp)).trans c2);have e1:=(hx1.cells.2 b (off+j*3+1) (by go_size)).trans ((j1r _ _ _ _).trans f1);have HX1:=zh hx1;clear hx1)
     | (go_at_call 94;refine (j1x (S:=F) _ x.atom.args (q+1+1) _ (jad.imp ((jad.imp HT.out (fun _ h _=>h) ((Agree.refl _ _).setCell (fun hb=>(HF.out b hb).2.1 rfl) _) (by go_size)).ext HX1.out) (fun _ h _=>h) ((Agree.refl _ _).setCell (fun hb=>(HF.out b hb).2.1 rfl) _) (by go_size)) (by omega) (by omega)).mono ?_;rintro e w2 ⟨⟨q2,hq2',rfl⟩,ht2,hin2⟩;have HQ2:=zh hq2';have HT2:=zh ht2;have HI2:=zh hin2;have hq4:q2≤100000000:=(by omega);have hq5:1≤q2:=(by omega);clear hq2' ht2 hin2))
    go_roundw
    case rel =>
     have hT:=HU.out w1 w2 (mPart q x) HX1.out HI2.out (j14 _ (by omega)) HT2.out;rw[hq.out,HN.out] at hT;refine⟨j+1,q2,by omega,by go_num,rfl,hq4,hq5,by have h3:=HQ2.out;have h4:=HK.out;have h5:=hq.out;have hcp:costP x=2+2*x.atom.args.length:=rfl;show _=_;omega,hT,?_⟩;exact ((hin.out.trans' (jab.set _ _ _ HS.out)).trans' (jab.of_ext HX1.out)).trans' ((jab.set _ _ _ HS.out).trans' (HI2.out.sub (fun i hi _=>(HF.out i hi).1)))
    case measure=>simp[intOf];omega
  have hjj:j=xs.length:=by omega
  have HF:=zh (show mList mPart costP k (xs.take j)++xs.drop j=mList mPart costP k xs from by rw[hjj,List.drop_length,List.append_nil,List.take_length]);have HQ:=zh (show q=k+costL costP xs from by rw[hq.out,hjj,List.take_length]);clear hjj;go_wp2;go_ret;exact⟨⟨q,HQ.out,rfl⟩,by rw[← HF.out];exact ht.out,hin.out⟩
theorem j21 (v:Value) (xs:List GR) (k:Nat) (w:World) {S:Nat→Prop} (hv:jc7 S w v xs) (h1:1≤k) (h2:k+costL costR xs≤100000000) :
  Calls Tryz.prog 88 #[v,.int .i64 k] w fun e w'=>(∃ q:Nat,q=k+costL costR xs∧e=.returned (.int .i64 q))∧jc7 S w' v (mList mRule costR k xs)∧jab S w w':=by
 obtain⟨A,c,rfl,hc1,hc2⟩:=jad.form hv;have HV:=zh hv;clear hv
 go_enter Tryz.func88,Tryz.ntmps88;go_wp2;go_loopw [1,5] (fun kk i wr=>∃ (j q:Nat),j≤xs.length∧i=.int .i64 j∧kk=.int .i64 q∧q≤100000000∧1≤q∧Hid (q=k+costL costR (xs.take j))∧Hid (jc7 S wr (.slice A xs.length c) (mList mRule costR k (xs.take j)++xs.drop j))∧Hid (jab S w wr)) (fun _ i _=>xs.length-(intOf i).toNat)
 case atStart=>exact⟨0,k,Nat.zero_le _,rfl,rfl,by omega,h1,by show _=_;simp[costL],HV,jab.refl _ _⟩
 case round =>
  obtain⟨j,q,hj,rfl,rfl,hq1,hq2,hq,ht,hin⟩:=hrel;have hk0:(0:Int)≤(j:Int):=by omega
  by_cases hlt:j<xs.length
  · obtain ⟨b,off,S1,S2,x,v,u,rfl,hb,hs,hx,hF,hdis,f0,c0,c1,c2,ht1,ht2,hup⟩:=jc7.upd ht.out (i:=j) hlt
    have hxj:=j2c mRule costR hj hx;obtain⟨B,d,rfl,hd1,hd2⟩:=jad.form ht1;obtain⟨D,d',rfl,hd3,hd4⟩:=jad.form ht2;have hk1:(j:Int)<(xs.length:Int):=by omega
    have HU:=zh hup;have HS:=zh hs;have HF:=zh hF;have HD:=zh hdis;have HT1:=zh ht1;have HT2:=zh ht2;have HK:=zh (j2b costR hxj)
    have hq3:q+1+2*x.head.args.length+costL costP x.body≤100000000:=by
     have h3:=hq.out;have h4:=HK.out;have h5:=j1y costR xs (j+1);have h9:costR x=1+2*x.head.args.length+costL costP x.body:=rfl;omega
    have HN:=zh (j2a mRule costR (k:=k) hxj);have HM:=zh (fun (W:World)=>j1s q W hq2 (by omega));clear hup hs hx hF ht1 ht2 hxj hdis
    go_wp2_with (first
     | (go_at_call 93;refine (HM.out _).mono ?_;rintro e w1 ⟨rfl,hx1⟩;have hz1:=hx1.size
        have d0:=(hx1.cells.1 b (off+j*3) hb).trans c0;have d1:=(hx1.cells.1 b (off+j*3+1) hb).trans c1;have d2:=(hx1.cells.1 b (off+j*3+2) hb).trans c2;have e0:=(hx1.cells.2 b (off+j*3) hb).trans f0;have HX1:=zh hx1;clear hx1)
     | (go_at_call 94;refine (j1x (S:=S1) _ x.head.args (q+1) _ (jad.imp (jad.ext HT1.out HX1.out) (fun _ h _=>h) ((Agree.refl _ _).setCell (fun h=>(HF.out b (.inl h)).2.1 rfl) _) (by go_size)) (by omega) (by omega)).mono ?_;rintro e w2 ⟨⟨q2,hq2',rfl⟩,ht2,hin2⟩
        have hz2:=hin2.size;rw[j1q] at hz2;have p2:=(World.cell?_of_block (w:=w1.setCell ⟨b,off+j*3,none⟩ (.string (mtext q))) (a:=⟨b,off+j*3+2,none⟩) (hin2.block b (by rw[j1q];omega) (fun h=>(HF.out b (.inl h)).2.1 rfl))).trans ((World.cell?_setCell_other _ _ _ _ (by simp)).trans d2);have HQ2:=zh hq2';have HV1:=zh ht2;have HI1:=zh hin2;have hq4:q2+costL costP x.body≤100000000:=(by omega);have hq5:1≤q2:=(by omega);clear hq2' ht2 hin2)
     | (go_at_call 147;refine (j20 (S:=S2) _ x.body q2 _ (jad.imp (jad.imp (jad.ext HT2.out HX1.out) (fun _ h _=>h) ((Agree.refl _ _).setCell (fun h=>(HF.out b (.inr h)).2.1 rfl) _) (by go_size)) (fun _ h _=>h) (fun i hi hlt=>HI1.out.block i hlt (fun h=>HD.out i h hi)) HI1.out.size) hq5 hq4).mono ?_;rintro e w3 ⟨⟨q3,hq3',rfl⟩,hv2,hi2⟩
        have HQ3:=zh hq3';have HV2:=zh hv2;have HI2:=zh hi2;have hq6:q3≤100000000:=(by omega)
        have hq7:1≤q3:=(by omega)
        clear hq3' hv2 hi2))
    go_roundw
    case rel =>
     have hV2:=HV2.out;rw[HQ2.out] at hV2;have hI:=(HI1.out.sub (T:=fun m=>S1 m∨S2 m) (fun i h _=>.inl h)).trans' (HI2.out.sub (fun i h _=>.inr h));have hT:=HU.out w1 w3 (mRule q x) HX1.out hI (j14 _ (by omega)) (jad.imp HV1.out (fun _ h _=>h) (fun i hi hlt=>HI2.out.block i hlt (fun h=>HD.out i hi h)) HI2.out.size) hV2;rw[hq.out,HN.out] at hT;refine⟨j+1,q3,by omega,by go_num,rfl,hq6,hq7,by have h3:=HQ2.out;have h3':=HQ3.out;have h4:=HK.out;have h5:=hq.out;have h9:costR x=1+2*x.head.args.length+costL costP x.body:=rfl;show _=_;omega,hT,?_⟩;exact ((hin.out.trans' (jab.of_ext HX1.out)).trans' (jab.set _ _ _ HS.out)).trans' (hI.sub (fun i hi _=>(HF.out i hi).1))
    case measure=>simp[intOf];omega
  have hjj:j=xs.length:=by omega
  have HF:=zh (show mList mRule costR k (xs.take j)++xs.drop j=mList mRule costR k xs from by rw[hjj,List.drop_length,List.append_nil,List.take_length]);have HQ:=zh (show q=k+costL costR xs from by rw[hq.out,hjj,List.take_length]);clear hjj;go_wp2;go_ret;exact⟨⟨q,HQ.out,rfl⟩,by rw[← HF.out];exact ht.out,hin.out⟩
theorem BaseO.imp {S S':Nat→Prop} {w w':World} {v:Value} {B:GB} (h:BaseO S w v B) (hS:∀ b,S b→b<w.heap.size→S' b) (he:Agree S w w') (hsz:w.heap.size≤w'.heap.size):BaseO S' w' v B:=by
 obtain⟨a,b,c,S1,S2,S3,h1,h2,h3,h4,h5,h6,h7,h8⟩:=h;refine⟨a,b,c,fun i=>S1 i∧i<w.heap.size,fun i=>S2 i∧i<w.heap.size,fun i=>S3 i∧i<w.heap.size,h1,jad.imp h2 (fun i h k=>⟨h,k⟩) (fun i h k=>he i (h5 i (.inl h)) k) hsz,jad.imp h3 (fun i h k=>⟨h,k⟩) (fun i h k=>he i (h5 i (.inr (.inl h))) k) hsz,jad.imp h4 (fun i h k=>⟨h,k⟩) (fun i h k=>he i (h5 i (.inr (.inr h))) k) hsz,?_,fun i h k=>h6 i h.1 k.1,fun i h k=>h7 i h.1 k.1,fun i h k=>h8 i h.1 k.1⟩;rintro i (h|h|h)
 · exact hS i (h5 i (.inl h.1)) h.2
 · exact hS i (h5 i (.inr (.inl h.1))) h.2
 exact hS i (h5 i (.inr (.inr h.1))) h.2
theorem BaseO.ext {S:Nat→Prop} {w w':World} {v:Value} {B:GB} (h:BaseO S w v B) (he:Ext w w'):BaseO S w' v B:=h.imp (fun _ h _=>h) (.of_ext he) he.size
def costB (B:GB):Nat:=costL costR B.rules+j1n B.given+costL costC B.hist
def mBase (k:Nat) (B:GB):GB:=⟨mList mRule costR k B.rules,B.time,j1o (k+costL costR B.rules) B.given,mList j1z costC (k+costL costR B.rules+j1n B.given) B.hist⟩
theorem j27 (B:GB) (v:Value) (k:Nat) (w:World) {S:Nat→Prop} (hv:BaseO S w v B) (h1:1≤k) (h2:k+costB B≤100000000) :
  Calls Tryz.prog 31 #[v,.int .i64 k] w fun e w'=>(∃ q:Nat,q=k+costB B∧e=.returned (.int .i64 q))∧BaseO S w' v (mBase k B)∧jab S w w':=by
 have hlow:=hv.imp (S':=fun i=>S i∧i<w.heap.size) (fun i h k=>⟨h,k⟩) (Agree.refl _ _) (Nat.le_refl _);obtain⟨a,b,c,S1,S2,S3,rfl,ha,hb,hc,hS,h12,h13,h23⟩:=hlow;clear hv;obtain⟨A1,p1,rfl,hp1,hp1'⟩:=jad.form ha;obtain⟨B1,q1,rfl,hq1,hq1'⟩:=jad.form hb;obtain⟨C1,r1,rfl,hr1,hr1'⟩:=jad.form hc;have hcost:k+(costL costR B.rules+j1n B.given+costL costC B.hist)≤100000000:=h2;have HBk:=zh (Blk.new w 33 #[.slice A1 B.rules.length p1,.int .i64 B.time,.slice B1 B.given.length q1,.slice C1 B.hist.length r1]);have HA:=zh ha;have HB:=zh hb;have HC:=zh hc;have HS:=zh hS;have H12:=zh h12;have H13:=zh h13;have H23:=zh h23;clear ha hb hc hS h12 h13 h23 h2
 go_enter Tryz.func31,Tryz.ntmps31
 go_wp2_with (first
  | (go_at_call 88;refine (j21 (S:=S1) _ B.rules k _ (jad.ext HA.out ((Ext.refl _).alloc _)) h1 (by omega)).mono ?_;rintro e w1 ⟨⟨q,hq,rfl⟩,hv1,hi1⟩
     have hb1:=hi1.blk HBk.out (fun h=>by have:=(HS.out _ (.inl h)).2;omega);have s0:=hb1.cell 0;have s1:=hb1.cell 1;have s2:=hb1.cell 2;have s3:=hb1.cell 3;have HV1:=zh hv1;have HI1:=zh hi1;have HQ:=zh hq;have HB1:=zh hb1;have hq0:1≤q:=(by omega);have hq1:q+(j1n B.given+costL costC B.hist)≤100000000:=(by omega);clear hq hv1 hi1 hb1)
  | (go_at_call 35;refine (j1u (S:=S2) _ B.given q _ (jad.imp (jad.ext HB.out ((Ext.refl _).alloc _)) (fun _ h _=>h) (fun i hi hlt=>HI1.out.block i hlt (fun h=>H12.out i h hi)) HI1.out.size) hq0 (by omega)).mono ?_;rintro e w2 ⟨⟨q2,hq2,rfl⟩,hv2,hi2⟩
     have hb2:=hi2.blk HB1.out (fun h=>by have:=(HS.out _ (.inr (.inl h))).2;omega);have r0:=hb2.cell 0;have r1:=hb2.cell 1;have r2:=hb2.cell 2;have r3:=hb2.cell 3;have HV2:=zh hv2;have HI2:=zh hi2;have HQ2:=zh hq2;have hq3:1≤q2:=(by omega);have hq4:q2+costL costC B.hist≤100000000:=(by omega);clear hq2 hv2 hi2 hb2)
  | (go_at_call 89;refine (j2k (S:=S3) _ B.hist q2 _ (jad.imp (jad.imp (jad.ext HC.out ((Ext.refl _).alloc _)) (fun _ h _=>h) (fun i hi hlt=>HI1.out.block i hlt (fun h=>H13.out i h hi)) HI1.out.size) (fun _ h _=>h) (fun i hi hlt=>HI2.out.block i hlt (fun h=>H23.out i h hi)) HI2.out.size) hq3 hq4).mono ?_;rintro e w3 ⟨⟨q3,hq3',rfl⟩,hv3,hi3⟩
     have HV3:=zh hv3;have HI3:=zh hi3;have HQ3:=zh hq3';clear hv3 hi3 hq3'))
 go_ret;have e1:=HQ.out;have e2:=HQ2.out;have e3:=HQ3.out;have hV2:=HV2.out;rw[e1] at hV2;have hV3:=HV3.out;rw[e2,e1] at hV3;refine⟨⟨q3,by show q3=k+(costL costR B.rules+j1n B.given+costL costC B.hist);omega,rfl⟩,⟨_,_,_,S1,S2,S3,rfl,?_,?_,hV3,fun i h=>(HS.out i h).1,H12.out,H13.out,H23.out⟩,?_⟩
 · exact jad.imp (jad.imp HV1.out (fun _ h _=>h) (fun i hi hlt=>HI2.out.block i hlt (fun h=>H12.out i hi h)) HI2.out.size) (fun _ h _=>h) (fun i hi hlt=>HI3.out.block i hlt (fun h=>H13.out i hi h)) HI3.out.size
 · exact jad.imp hV2 (fun _ h _=>h) (fun i hi hlt=>HI3.out.block i hlt (fun h=>H23.out i hi h)) HI3.out.size
 exact (((jab.of_ext ((Ext.refl _).alloc _)).trans' (HI1.out.sub (fun i h _=>(HS.out i (.inl h)).1))).trans' (HI2.out.sub (fun i h _=>(HS.out i (.inr (.inl h))).1))).trans' (HI3.out.sub (fun i h _=>(HS.out i (.inr (.inr h))).1))
theorem j28 (l:List GT):l.length≤jbt l:=Nat.le_add_right _ _
theorem j10 {α:Type} {c f:α→Nat}:∀ {l:List α},(∀ x∈l,c x≤2*(1+f x))→costL c l≤2*(l.length+(l.map f).sum)
 | [],_=>Nat.zero_le _
 | x :: l,h=>by
   have h1:=h x (by simp);have h2:=j10 (l:=l) (fun y hy=>h y (List.mem_cons_of_mem _ hy));unfold costL at h2 ⊢;simp only[List.map_cons,List.sum_cons,List.length_cons];omega
theorem j4g (p:GP):costP p≤2*(1+wPart p):=by
 have:=j28 p.atom.args;unfold costP wPart wAtom;omega
theorem j4h (r:GR):costR r≤2*(1+wRule r):=by
 have h1:costL costP r.body≤2*jdb r.body:=j10 fun p _=>j4g p
 have h2:=j28 r.head.args;unfold costR wRule wAtom;omega
theorem j39 (l:List GR):costL costR l≤2*jdc l:=j10 fun r _=>j4h r
theorem j29:Facts []:=fun a ha=>by cases ha
theorem j2v {rules:List GR} {given:List GA} (h:fineB rules given=true):Facts given∧Asc given∧given.length≤40:=by
 unfold fineB at h;simp only[Bool.and_eq_true] at h;obtain⟨_,h2,h3,h4⟩:=jes h.1;exact⟨h2,h3,h4⟩
theorem j3a {c:GC} (h:ja4 c=true):jbe c.comes 300=true∧jbe c.goes 300=true:=by
 unfold ja4 at h;simp only[Bool.and_eq_true] at h;exact h.1
theorem j16 {B:GB} (h:jbn B=true):(0≤B.time∧B.time≤100000∧B.hist.length≤30∧(B.hist.length:Int)≤B.time)∧fineB B.rules B.given=true∧jcl B.rules B.hist.reverse B.given=true:=by
 unfold jbn at h;simp only[Bool.and_eq_true,decide_eq_true_eq] at h;exact⟨⟨h.1.1.1.1,h.1.1.1.2,h.1.1.2,h.1.2⟩,h.2.1,h.2.2⟩
def histL (B:GB) (i:Nat):GC:=B.hist.getD (B.hist.length-1-i) ⟨[],[]⟩
theorem j3q (B:GB) (i:Nat):agoL B (i+1)=(backL (agoL B i) (histL B i)).1:=rfl
theorem j2f {B:GB} {i:Nat} (hi:i<B.hist.length):histL B i=B.hist[B.hist.length-1-i]:=by
 unfold histL;rw[List.getD_eq_getElem?_getD,List.getElem?_eq_getElem (by omega)]
 rfl
theorem j22 {B:GB} (h:jbn B=true):∀ i,i≤B.hist.length→fineB B.rules (agoL B i)=true∧jcl B.rules (B.hist.reverse.drop i) (agoL B i)=true
 | 0,_=>⟨(j16 h).2.1,by have h2:=(j16 h).2.2;rw[List.drop_zero];exact h2⟩
 | i + 1,hi=>by
   obtain⟨_,h2⟩:=j22 h i (by omega);rw[jo8 (by omega:i<B.hist.length)] at h2;unfold jcl at h2;simp only[Bool.and_eq_true] at h2;rw[j3q,j2f (by omega)];exact⟨h2.2.2.1,h2.2.2.2⟩
theorem j3r {B:GB} (h:jbn B=true) {i:Nat} (hi:i<B.hist.length):ja4 (histL B i)=true∧(backL (agoL B i) (histL B i)).2=true:=by
 obtain⟨_,h2⟩:=j22 h i (by omega);rw[jo8 hi] at h2;unfold jcl at h2;simp only[Bool.and_eq_true] at h2;rw[j2f hi];exact⟨h2.1,h2.2.1⟩
theorem j4x {B:GB} (h:jbn B=true) {c:GC} (hc:c∈B.hist):ja4 c=true:=by
 obtain⟨m,hm,rfl⟩:=List.getElem_of_mem hc;have h1:=(j3r h (i:=B.hist.length-1-m) (by omega)).1;rw[j2f (by omega)] at h1;have e:B.hist.length-1-(B.hist.length-1-m)=m:=by omega
 simp only[e] at h1;exact h1
theorem j4y {B:GB} (h:jbn B=true):LiteB B:=by
 obtain⟨⟨t0,t1,t2,t3⟩,hf,_⟩:=j16 h;obtain⟨g1,g2,g3⟩:=j2v hf
 have hr:jag B.rules=0:=by
  unfold fineB at hf;simp only[Bool.and_eq_true] at hf;exact (jes hf.1).1
 obtain⟨r1,r2,_,_⟩:=jhn hr;refine⟨⟨by omega,fun x hx=>Nat.le_trans (jmq (g1 x hx)).1 (by omega)⟩,⟨by omega,fun c hc=>?_⟩,⟨by omega,by omega⟩,r2,fun r hr=>?_⟩
 · obtain ⟨k1,k2⟩:=j3a (j4x h hc)
   obtain⟨c1,_,c3⟩:=jdt k1;obtain⟨d1,_,d3⟩:=jdt k2;exact⟨⟨c3,fun x hx=>Nat.le_trans (jmq (c1 x hx)).1 (by omega)⟩,⟨d3,fun x hx=>Nat.le_trans (jmq (d1 x hx)).1 (by omega)⟩⟩
 have hf:=r1 r hr;exact⟨hf.few,Nat.le_trans (ju5 hf.head).2.1 (by omega),fun p hp=>Nat.le_trans (ju5 (hf.body p hp)).2.1 (by omega)⟩
theorem j2l {B:GB} (h:jbn B=true) {i:Nat} (hi:i≤B.hist.length):Facts (agoL B i)∧Asc (agoL B i)∧(agoL B i).length≤40:=j2v (j22 h i hi).1
theorem at_in {B:GB} {t:Int} (h:B.time-B.hist.length≤t∧t≤B.time):atL B t=(agoL B (B.time-t).toNat,true):=by
 unfold atL;rw[if_pos (show inB t (B.time-B.hist.length) B.time=true from by unfold inB;simp;exact h)]
theorem j4u {B:GB} {t:Int} (h:¬ (B.time-B.hist.length≤t∧t≤B.time)):atL B t=([],false):=by
 unfold atL;rw[if_neg (show ¬ inB t (B.time-B.hist.length) B.time=true from by unfold inB;simp;omega)]
theorem j4a (a:GA):costA a≤2*(1+wAtom a):=by unfold costA wAtom jbt;omega
theorem j2d (l:List GA):j1n l≤2*jb1 l:=j10 (c:=costA) fun a _=>j4a a
theorem j4i (c:GC):costC c≤2*jbp c:=by
 have h1:=j2d c.comes;have h2:=j2d c.goes;unfold costC jbp;omega
theorem j4j (B:GB):costB B≤2*wBase B:=by
 have h1:=j39 B.rules;have h2:=j2d B.given;have h3:costL costC B.hist≤2*jb7 B.hist:=j10 (c:=costC) (f:=jbp) fun c _=>by have:=j4i c;omega
 unfold costB wBase;omega
theorem j23 (v:Value) (xs:List GA) (w:World) {S:Nat→Prop} (hv:jac S w v xs) (hw:xs.length≤1048576) (hp:∀ x∈xs,x.args.length≤1048576) :
  Calls Tryz.prog 75 #[v] w fun e w'=>(∃ u,e=.returned u∧jba (From w.heap.size) w' u xs)∧Ext w w':=by
 obtain⟨A,c,rfl,hc1,hc2⟩:=jaa.form hv;obtain⟨i0,hi0,hz0,hz1,hz2⟩:=info_parts jdy;obtain⟨cs0,hcs0,hmk⟩:=made 30 43 i0 _ Tryz.underlying30 hi0 hz0 xs.length (by rw[hz2];omega) (by omega);rw[hz1] at hcs0;have HC:=zh hcs0;have HV:=zh hv;have HN:=zh hw;have HP:=zh hp;by_cases h0:xs.length=0
 · have hnil:xs=[]:=List.eq_nil_of_length_eq_zero h0
   have h1:((xs.length:Int) == 0)=true:=by rw[h0];rfl
   clear hcs0 hi0 hz0 hz1 hz2 hv hmk hw hp
   go_enter Tryz.func75,Tryz.ntmps75;go_wp2;go_ret;exact⟨⟨_,rfl,by rw[hnil];exact jad.nil 0 (Nat.zero_le _) none⟩,Ext.refl _⟩
 have h1:((xs.length:Int) == 0)=false:=by rw[beq_eq_false_iff_ne];omega
 clear hcs0 hi0 hz0 hz1 hz2 hv hw hp
 go_enter Tryz.func75,Tryz.ntmps75;go_wp2;go_loopw [14] (fun i wr=>∃ (k:Nat) (cs:Array Value),k≤xs.length∧i=.int .i64 k∧cs.size=xs.length*2∧Blk wr w.heap.size 43 cs∧jb4 jt7 w.heap.size (From (w.heap.size+1)) wr cs xs k∧Ext w wr) (fun i _=>xs.length-(intOf i).toNat)
 case atStart=>exact⟨0,cs0,Nat.zero_le _,rfl,HC.out,Blk.new _ _ _,jb4.zero,(Ext.refl _).alloc _⟩
 case round =>
  obtain⟨k,cs,hk,rfl,hcs,hb,hf,hx⟩:=hrel;by_cases hlt:k<xs.length
  · obtain ⟨b,off,x,v1,rfl,hb0,hxk,hxs,ht,hc0,hc1⟩:=jac.at_ (HV.out.ext hx) hlt
    obtain⟨A1,c1,rfl,hq1,hq2⟩:=jaa.form ht;have HW:=zh (HP.out x (List.mem_of_getElem? hxk));have HK:=zh hxk;have HS:=zh hcs;have HF:=zh hf;have HB:=zh hb;have HT:=zh (ht.ext ((Ext.refl wr).alloc (.cells #[.string x.n,.slice A1 x.args.length c1] 43)));have hg:=hb.lt;have hk0:(0:Int)≤(k:Int):=by omega
    have hk1:(k:Int)<(xs.length:Int):=by omega
    clear hxk hcs hf hb hmk ht
    go_wp2_with (first
     | (go_at_call 120;refine (j26 x _ _ HT.out HW.out).mono ?_;rintro e w1 ⟨⟨u,rfl,hu⟩,hx0⟩
        have hx1:=((Ext.refl wr).alloc (.cells #[.string x.n,.slice A1 x.args.length c1] 43)).trans' hx0;have HU:=zh (hu.imp (S':=From wr.heap.size) (fun b hb _=>by have h:(wr.alloc (.cells #[.string x.n,.slice A1 x.args.length c1] 43)).heap.size≤b:=hb;rw[World.size_alloc] at h;show wr.heap.size≤b;omega) (.refl _ _) (Nat.le_refl _));obtain⟨B,d,rfl,hd1,hd2⟩:=jad.form hu;obtain⟨⟨u0,hr0⟩,hf0⟩:=(HB.out.ext hx1).ready (i:=k*2) (by have:=HS.out;omega);obtain⟨⟨u1,hr1⟩,hf1⟩:=(HB.out.ext hx1).ready (i:=k*2+1) (by have:=HS.out;omega);clear hu)
     | fail)
    go_roundw
    case rel =>
     have hb1:=HB.out.ext hx1
     have ha:Agree (From (w.heap.size+1)) w1 ((w1.setCell ⟨w.heap.size,k*2,none⟩ (.string x.n)).setCell ⟨w.heap.size,k*2+1,none⟩ (.slice B x.args.length d)) :=
      ((Agree.refl _ _).set (by simp) _).set (by simp) _
     have hsz:w1.heap.size≤((w1.setCell ⟨w.heap.size,k*2,none⟩ (.string x.n)).setCell ⟨w.heap.size,k*2+1,none⟩ (.slice B x.args.length d)).heap.size:=by go_size
     refine⟨k+1,_,by omega,by go_num,?_,((hb1.set_ _ _).set_ _ _),HF.out.step (fun m hm hlt=>(jc5 hm).trans ((jc5 hm).trans (hx1.block m hlt))) (Nat.le_trans hx1.size hsz) hg (fun m hm=>by show w.heap.size+1≤m;omega) HK.out (l:=[.string x.n,.slice B x.args.length d]) ⟨_,rfl,hxs,jad.imp HU.out (fun b hb _=>hb) (fun b hb hlt=>ha b (by show w.heap.size+1≤b;have:wr.heap.size≤b:=hb;omega) hlt) hsz⟩ (jtn (by have:=HS.out;omega)) (fun o ho=>jpp o ho),(Below.setCell (Below.setCell (hx.trans' hx1) (Nat.le_refl _) _) (Nat.le_refl _) _)⟩;simp[HS.out]
    case measure=>simp[intOf];omega
  have hkk:k=xs.length:=by omega
  go_wp2;go_ret;refine⟨⟨_,rfl,?_⟩,hx⟩;exact jb4.slice (c:=xs.length) (hkk▸hf) hb rfl (Nat.le_refl _) (by unfold maxLen;have:=HN.out;omega) (Nat.le_refl _) (jdi (by omega))
end Go.Proofs.YthdojieomhighaaGreatDoor
