/- Own texts, joined. -/
import Derived.Test.YthdojieomhighaaGreatDoorCas33
import Derived.Test.YthdojieomhighaaGreatDoorEtb01
import Derived.Test.YthdojieomhighaaGreatDoorCas34
import Derived.Test.YthdojieomhighaaGreatDoorCas22
import Derived.Test.YthdojieomhighaaGreatDoorCas21
import Derived.Test.YthdojieomhighaaGreatDoorCas18
import Derived.Test.YthdojieomhighaaGreatDoorCas30
import Derived.Test.YthdojieomhighaaGreatDoorCas06
import Derived.Test.YthdojieomhighaaGreatDoorCas32
set_option linter.unusedSimpArgs false
set_option linter.unusedVariables false
set_option maxHeartbeats 4000000
set_option maxRecDepth 100000
namespace Go.Proofs.YthdojieomhighaaGreatDoor
open Go.RowKit
def costP (p:GP):Nat:=2+2*p.atom.args.length
def mPart (k:Nat) (p:GP):GP:=⟨((k:Int) % 3 == 0),⟨mtext (k+1),mTerms (k+2) p.atom.args.length⟩⟩
def costR (r:GR):Nat:=1+2*r.head.args.length+costL costP r.body
def mRule (k:Nat) (r:GR):GR:=⟨⟨mtext k,mTerms (k+1) r.head.args.length⟩,mList mPart costP (k+1+2*r.head.args.length) r.body⟩
theorem size_set1 (w:World) (p:Addr) (u:Value):(w.setCell p u).heap.size=w.heap.size:=by simp[World.setCell]
theorem jci.upd {S:Nat→Prop} {w:World} {A:Option Addr} {n c:Nat} {xs:List GP} (h:jci S w (.slice A n c) xs) {i:Nat} (hi:i<n) :
  ∃ (b off:Nat) (F:Nat→Prop) (x:GP) (u:Value),A=some ⟨b,off,none⟩∧b<w.heap.size∧S b∧xs[i]? = some x∧(∀ m,F m→S m∧m≠b∧m<w.heap.size) ∧
    w.frozen? ⟨b,off+i*3,none⟩=false∧w.frozen? ⟨b,off+i*3+1,none⟩=false∧w.cell? ⟨b,off+i*3,none⟩=some (.bool x.no)∧w.cell? ⟨b,off+i*3+1,none⟩=some (.string x.atom.n)∧w.cell? ⟨b,off+i*3+2,none⟩=some u∧ja8 F w u x.atom.args ∧
    ∀ (w1 w2:World) (y:GP),Ext (w.setCell ⟨b,off+i*3,none⟩ (.bool y.no)) w1→jab F (w1.setCell ⟨b,off+i*3+1,none⟩ (.string y.atom.n)) w2→y.atom.n.size≤maxLen→ja8 F w2 u y.atom.args→jci S w2 (.slice A n c) (xs.set i y):=by
 obtain⟨b,off,F,x,cs,rfl,hb,hs,hx,hfr,hF,hl,hcs,hE,hup⟩:=jad.update h hi;obtain⟨u,rfl,hxs,ht⟩:=hE;have c0:=hcs 0 _ rfl;have c1:=hcs 1 _ rfl;have c2:=hcs 2 _ rfl;have f0:=hfr 0 (by decide);have f1:=hfr 1 (by decide);refine⟨b,off,F,x,u,rfl,hb,hs,hx,hF,f0,f1,c0,c1,c2,ht,fun w1 w2 y he hin hy ht2=>?_⟩;have hsz:=he.size;have hsz2:=hin.size;rw[size_set1] at hsz hsz2;have hnF:¬ F b:=fun h=>(hF b h).2.1 rfl
 have hb0:b<(w.setCell ⟨b,off+i*3,none⟩ (.bool y.no)).heap.size:=by rw[size_set1];exact hb
 have hb1:b<w1.heap.size:=by omega
 have g0:w1.cell? ⟨b,off+i*3,none⟩=some (.bool y.no):=(he.cells.1 b _ hb0).trans (World.cell?_setCell_same _ _ _ c0);have gx:∀ o,o≠off+i*3→w1.cell? ⟨b,o,none⟩=w.cell? ⟨b,o,none⟩:=fun o ho=>(he.cells.1 b o hb0).trans (World.cell?_setCell_other _ _ _ _ (fun e=>ho (congrArg Addr.off e).symm))
 have g1:w1.cell? ⟨b,off+i*3+1,none⟩=some (.string x.atom.n):=(gx _ (by omega)).trans c1;have hblk:w2.heap[b]? = (w1.setCell ⟨b,off+i*3+1,none⟩ (.string y.atom.n)).heap[b]? :=hin.block b (by rw[size_set1];exact hb1) hnF;have hcell:∀ o,w2.cell? ⟨b,o,none⟩=(w1.setCell ⟨b,off+i*3+1,none⟩ (.string y.atom.n)).cell? ⟨b,o,none⟩:=fun o=>World.cell?_of_block hblk
 have hfroz:∀ o,w2.frozen? ⟨b,o,none⟩=(w1.setCell ⟨b,off+i*3+1,none⟩ (.string y.atom.n)).frozen? ⟨b,o,none⟩:=fun o=>World.frozen?_of_block hblk
 have hoth:∀ o,o≠off+i*3+1→w2.cell? ⟨b,o,none⟩=w1.cell? ⟨b,o,none⟩:=fun o ho=>(hcell o).trans (World.cell?_setCell_other _ _ _ _ (fun e=>ho (congrArg Addr.off e).symm))
 refine hup _ [.bool y.no,.string y.atom.n,u] y (by omega) (fun m hm hn hlt=>?_) (fun o ho=>?_) (fun o=>?_) rfl (fun j v hv=>?_) ⟨u,rfl,hy,ht2⟩
 · rw[hin.block m (by rw[size_set1];omega) hn,Below.heap_setCell _ _ _ _ hm,he.block m (by rw[size_set1];exact hlt),Below.heap_setCell _ _ _ _ hm]
 · have e1:o≠off+i*3∧o≠off+i*3+1:=by
     rcases ho with ho|ho
     · have:o<off+i*3:=ho
       omega
     have:off+(i+1)*3≤o:=ho;omega
   rw[hoth o e1.2,gx o e1.1]
 · rw[hfroz,frozen_set,he.cells.2 b o hb0,frozen_set]
 match j,hv with
 | 0,hv =>
   simp at hv;subst hv;show w2.cell? ⟨b,off+(i*3+0),none⟩=_;rw[Nat.add_zero,hoth _ (by omega)];exact g0
 | 1,hv =>
   simp at hv;subst hv;show w2.cell? ⟨b,off+(i*3+1),none⟩=_;rw[hcell];exact World.cell?_setCell_same _ _ _ g1
 | 2,hv =>
   simp at hv;subst hv;show w2.cell? ⟨b,off+(i*3+2),none⟩=_;rw[hoth _ (by omega),gx _ (by omega)];exact c2
theorem jc7.upd {S:Nat→Prop} {w:World} {A:Option Addr} {n c:Nat} {xs:List GR} (h:jc7 S w (.slice A n c) xs) {i:Nat} (hi:i<n) :
  ∃ (b off:Nat) (S1 S2:Nat→Prop) (x:GR) (v u:Value),A=some ⟨b,off,none⟩∧b<w.heap.size∧S b∧xs[i]? = some x∧(∀ m,S1 m∨S2 m→S m∧m≠b∧m<w.heap.size)∧(∀ m,S1 m→¬ S2 m) ∧
    w.frozen? ⟨b,off+i*3,none⟩=false∧w.cell? ⟨b,off+i*3,none⟩=some (.string x.head.n)∧w.cell? ⟨b,off+i*3+1,none⟩=some v∧w.cell? ⟨b,off+i*3+2,none⟩=some u∧ja8 S1 w v x.head.args∧jci S2 w u x.body ∧
    ∀ (w1 w2:World) (y:GR),Ext w w1→jab (fun m=>S1 m∨S2 m) (w1.setCell ⟨b,off+i*3,none⟩ (.string y.head.n)) w2→y.head.n.size≤maxLen→ja8 S1 w2 v y.head.args→jci S2 w2 u y.body→jc7 S w2 (.slice A n c) (xs.set i y):=by
 obtain⟨b,off,F,x,cs,rfl,hb,hs,hx,hfr,hF,hl,hcs,hE,hup⟩:=jad.update h hi;obtain⟨v,u,S1,S2,rfl,hxs,h3,h4,h5,h6,h7⟩:=hE;have c0:=hcs 0 _ rfl;have c1:=hcs 1 _ rfl;have c2:=hcs 2 _ rfl;have f0:=hfr 0 (by decide);refine⟨b,off,S1,S2,x,v,u,rfl,hb,hs,hx,fun m hm=>hF m (hm.elim (h5 m) (h6 m)),h7,f0,c0,c1,c2,h3,h4,fun w1 w2 y he hin hy k1 k2=>?_⟩;have hsz:=he.size;have hsz2:=hin.size;rw[size_set1] at hsz2;have hnb:¬ (S1 b∨S2 b):=fun h=>(hF b (h.elim (h5 b) (h6 b))).2.1 rfl
 have hb1:b<w1.heap.size:=by omega
 have e0:w1.cell? ⟨b,off+i*3,none⟩=some (.string x.head.n):=(he.cells.1 b _ hb).trans c0;have hblk:w2.heap[b]? = (w1.setCell ⟨b,off+i*3,none⟩ (.string y.head.n)).heap[b]? :=hin.block b (by rw[size_set1];exact hb1) hnb;have hcell:∀ o,w2.cell? ⟨b,o,none⟩=(w1.setCell ⟨b,off+i*3,none⟩ (.string y.head.n)).cell? ⟨b,o,none⟩:=fun o=>World.cell?_of_block hblk
 have hfroz:∀ o,w2.frozen? ⟨b,o,none⟩=(w1.setCell ⟨b,off+i*3,none⟩ (.string y.head.n)).frozen? ⟨b,o,none⟩:=fun o=>World.frozen?_of_block hblk
 have hoth:∀ o,o≠off+i*3→w2.cell? ⟨b,o,none⟩=w.cell? ⟨b,o,none⟩:=fun o ho=>(hcell o).trans ((World.cell?_setCell_other _ _ _ _ (fun e=>ho (congrArg Addr.off e).symm)).trans (he.cells.1 b o hb))
 refine hup _ [.string y.head.n,v,u] y (by omega) (fun m hm hn hlt=>?_) (fun o ho=>?_) (fun o=>?_) rfl (fun j z hz=>?_) ⟨v,u,S1,S2,rfl,hy,k1,k2,h5,h6,h7⟩
 · rw[hin.block m (by rw[size_set1];omega) (fun h=>hn (h.elim (h5 m) (h6 m))),Below.heap_setCell _ _ _ _ hm,he.block m hlt]
 · have e1:o≠off+i*3:=by
     rcases ho with ho|ho
     · have:o<off+i*3:=ho
       omega
     have:off+(i+1)*3≤o:=ho;omega
   exact hoth o e1
 · rw[hfroz,frozen_set,he.cells.2 b o hb]
 match j,hz with
 | 0,hz =>
   simp at hz;subst hz;show w2.cell? ⟨b,off+(i*3+0),none⟩=_;rw[Nat.add_zero,hcell];exact World.cell?_setCell_same _ _ _ e0
 | 1,hz =>
   simp at hz;subst hz;show w2.cell? ⟨b,off+(i*3+1),none⟩=_;rw[hoth _ (by omega)];exact c1
 | 2,hz =>
   simp at hz;subst hz;show w2.cell? ⟨b,off+(i*3+2),none⟩=_;rw[hoth _ (by omega)];exact c2
theorem markPartS_any (v:Value) (xs:List GP) (k:Nat) (w:World) {S:Nat→Prop} (hv:jci S w v xs) (h1:1≤k) (h2:k+costL costP xs≤100000000) :
  Calls Tryz.prog 147 #[v,.int .i64 k] w fun e w'=>(∃ q:Nat,q=k+costL costP xs∧e=.returned (.int .i64 q))∧jci S w' v (mList mPart costP k xs)∧jab S w w':=by
 obtain⟨A,c,rfl,hc1,hc2⟩:=jad.form hv;have HV:=zh hv;clear hv
 go_enter Tryz.func147,Tryz.ntmps147;go_wp2;go_loopw [1,5] (fun kk i wr=>∃ (j q:Nat),j≤xs.length∧i=.int .i64 j∧kk=.int .i64 q∧q≤100000000∧1≤q∧Hid (q=k+costL costP (xs.take j))∧Hid (jci S wr (.slice A xs.length c) (mList mPart costP k (xs.take j)++xs.drop j))∧Hid (jab S w wr)) (fun _ i _=>xs.length-(intOf i).toNat)
 case atStart=>exact⟨0,k,Nat.zero_le _,rfl,rfl,by omega,h1,by show _=_;simp[costL],HV,jab.refl _ _⟩
 case round =>
  obtain⟨j,q,hj,rfl,rfl,hq1,hq2,hq,ht,hin⟩:=hrel;have hk0:(0:Int)≤(j:Int):=by omega
  by_cases hlt:j<xs.length
  · obtain ⟨b,off,F,x,u,rfl,hb,hs,hx,hF,f0,f1,c0,c1,c2,htm,hup⟩:=jci.upd ht.out (i:=j) hlt
    have hxj:=mList_next mPart costP hj hx;obtain⟨B,d,rfl,hd1,hd2⟩:=jad.form htm;have hk1:(j:Int)<(xs.length:Int):=by omega
    have HU:=zh hup;have HS:=zh hs;have HF:=zh hF;have HT:=zh htm;have HK:=zh (costL_take costP hxj)
    have hq3:q+2+2*x.atom.args.length≤100000000:=by
     have h3:=hq.out;have h4:=HK.out;have h5:=costL_take_le costP xs (j+1);have hcp:costP x=2+2*x.atom.args.length:=rfl;omega
    have HN:=zh (mList_step mPart costP (k:=k) hxj);have HM:=zh (fun (W:World)=>markText_any (q+1) W (by omega) (by omega));clear hup hs hx hF htm hxj
    go_wp2_with (first
     | (go_at_call 93;refine (HM.out _).mono ?_;rintro e w1 ⟨rfl,hx1⟩;have hz1:=hx1.size
        have d1:=(hx1.cells.1 b (off+j*3+1) (by go_size)).trans ((World.cell?_setCell_other _ _ _ _ (by simp)).trans c1);have d2:=(hx1.cells.1 b (off+j*3+2) (by go_size)).trans ((World.cell?_setCell_other _ _ _ _ (by simp)).trans c2);have e1:=(hx1.cells.2 b (off+j*3+1) (by go_size)).trans ((frozen_set _ _ _ _).trans f1);have HX1:=zh hx1;clear hx1)
     | (go_at_call 94;refine (markTermS_any (S:=F) _ x.atom.args (q+1+1) _ (jad.imp ((jad.imp HT.out (fun _ h _=>h) ((Agree.refl _ _).setCell (fun hb=>(HF.out b hb).2.1 rfl) _) (by go_size)).ext HX1.out) (fun _ h _=>h) ((Agree.refl _ _).setCell (fun hb=>(HF.out b hb).2.1 rfl) _) (by go_size)) (by omega) (by omega)).mono ?_;rintro e w2 ⟨⟨q2,hq2',rfl⟩,ht2,hin2⟩;have HQ2:=zh hq2';have HT2:=zh ht2;have HI2:=zh hin2;have hq4:q2≤100000000:=(by omega);have hq5:1≤q2:=(by omega);clear hq2' ht2 hin2))
    go_roundw
    case rel =>
     have hT:=HU.out w1 w2 (mPart q x) HX1.out HI2.out (mtext_max _ (by omega)) HT2.out;rw[hq.out,HN.out] at hT;refine⟨j+1,q2,by omega,by go_num,rfl,hq4,hq5,by have h3:=HQ2.out;have h4:=HK.out;have h5:=hq.out;have hcp:costP x=2+2*x.atom.args.length:=rfl;show _=_;omega,hT,?_⟩;exact ((hin.out.trans' (jab.set _ _ _ HS.out)).trans' (jab.of_ext HX1.out)).trans' ((jab.set _ _ _ HS.out).trans' (HI2.out.sub (fun i hi _=>(HF.out i hi).1)))
    case measure=>simp[intOf];omega
  have hjj:j=xs.length:=by omega
  have HF:=zh (show mList mPart costP k (xs.take j)++xs.drop j=mList mPart costP k xs from by rw[hjj,List.drop_length,List.append_nil,List.take_length]);have HQ:=zh (show q=k+costL costP xs from by rw[hq.out,hjj,List.take_length]);clear hjj;go_wp2;go_ret;exact⟨⟨q,HQ.out,rfl⟩,by rw[← HF.out];exact ht.out,hin.out⟩
theorem markRuleS_any (v:Value) (xs:List GR) (k:Nat) (w:World) {S:Nat→Prop} (hv:jc7 S w v xs) (h1:1≤k) (h2:k+costL costR xs≤100000000) :
  Calls Tryz.prog 88 #[v,.int .i64 k] w fun e w'=>(∃ q:Nat,q=k+costL costR xs∧e=.returned (.int .i64 q))∧jc7 S w' v (mList mRule costR k xs)∧jab S w w':=by
 obtain⟨A,c,rfl,hc1,hc2⟩:=jad.form hv;have HV:=zh hv;clear hv
 go_enter Tryz.func88,Tryz.ntmps88;go_wp2;go_loopw [1,5] (fun kk i wr=>∃ (j q:Nat),j≤xs.length∧i=.int .i64 j∧kk=.int .i64 q∧q≤100000000∧1≤q∧Hid (q=k+costL costR (xs.take j))∧Hid (jc7 S wr (.slice A xs.length c) (mList mRule costR k (xs.take j)++xs.drop j))∧Hid (jab S w wr)) (fun _ i _=>xs.length-(intOf i).toNat)
 case atStart=>exact⟨0,k,Nat.zero_le _,rfl,rfl,by omega,h1,by show _=_;simp[costL],HV,jab.refl _ _⟩
 case round =>
  obtain⟨j,q,hj,rfl,rfl,hq1,hq2,hq,ht,hin⟩:=hrel;have hk0:(0:Int)≤(j:Int):=by omega
  by_cases hlt:j<xs.length
  · obtain ⟨b,off,S1,S2,x,v,u,rfl,hb,hs,hx,hF,hdis,f0,c0,c1,c2,ht1,ht2,hup⟩:=jc7.upd ht.out (i:=j) hlt
    have hxj:=mList_next mRule costR hj hx;obtain⟨B,d,rfl,hd1,hd2⟩:=jad.form ht1;obtain⟨D,d',rfl,hd3,hd4⟩:=jad.form ht2;have hk1:(j:Int)<(xs.length:Int):=by omega
    have HU:=zh hup;have HS:=zh hs;have HF:=zh hF;have HD:=zh hdis;have HT1:=zh ht1;have HT2:=zh ht2;have HK:=zh (costL_take costR hxj)
    have hq3:q+1+2*x.head.args.length+costL costP x.body≤100000000:=by
     have h3:=hq.out;have h4:=HK.out;have h5:=costL_take_le costR xs (j+1);have h9:costR x=1+2*x.head.args.length+costL costP x.body:=rfl;omega
    have HN:=zh (mList_step mRule costR (k:=k) hxj);have HM:=zh (fun (W:World)=>markText_any q W hq2 (by omega));clear hup hs hx hF ht1 ht2 hxj hdis
    go_wp2_with (first
     | (go_at_call 93;refine (HM.out _).mono ?_;rintro e w1 ⟨rfl,hx1⟩;have hz1:=hx1.size
        have d0:=(hx1.cells.1 b (off+j*3) hb).trans c0;have d1:=(hx1.cells.1 b (off+j*3+1) hb).trans c1;have d2:=(hx1.cells.1 b (off+j*3+2) hb).trans c2;have e0:=(hx1.cells.2 b (off+j*3) hb).trans f0;have HX1:=zh hx1;clear hx1)
     | (go_at_call 94;refine (markTermS_any (S:=S1) _ x.head.args (q+1) _ (jad.imp (jad.ext HT1.out HX1.out) (fun _ h _=>h) ((Agree.refl _ _).setCell (fun h=>(HF.out b (.inl h)).2.1 rfl) _) (by go_size)) (by omega) (by omega)).mono ?_;rintro e w2 ⟨⟨q2,hq2',rfl⟩,ht2,hin2⟩
        have hz2:=hin2.size;rw[size_set1] at hz2;have p2:=(World.cell?_of_block (w:=w1.setCell ⟨b,off+j*3,none⟩ (.string (mtext q))) (a:=⟨b,off+j*3+2,none⟩) (hin2.block b (by rw[size_set1];omega) (fun h=>(HF.out b (.inl h)).2.1 rfl))).trans ((World.cell?_setCell_other _ _ _ _ (by simp)).trans d2);have HQ2:=zh hq2';have HV1:=zh ht2;have HI1:=zh hin2;have hq4:q2+costL costP x.body≤100000000:=(by omega);have hq5:1≤q2:=(by omega);clear hq2' ht2 hin2)
     | (go_at_call 147;refine (markPartS_any (S:=S2) _ x.body q2 _ (jad.imp (jad.imp (jad.ext HT2.out HX1.out) (fun _ h _=>h) ((Agree.refl _ _).setCell (fun h=>(HF.out b (.inr h)).2.1 rfl) _) (by go_size)) (fun _ h _=>h) (fun i hi hlt=>HI1.out.block i hlt (fun h=>HD.out i h hi)) HI1.out.size) hq5 hq4).mono ?_;rintro e w3 ⟨⟨q3,hq3',rfl⟩,hv2,hi2⟩
        have HQ3:=zh hq3';have HV2:=zh hv2;have HI2:=zh hi2;have hq6:q3≤100000000:=(by omega)
        have hq7:1≤q3:=(by omega)
        clear hq3' hv2 hi2))
    go_roundw
    case rel =>
     have hV2:=HV2.out;rw[HQ2.out] at hV2;have hI:=(HI1.out.sub (T:=fun m=>S1 m∨S2 m) (fun i h _=>.inl h)).trans' (HI2.out.sub (fun i h _=>.inr h));have hT:=HU.out w1 w3 (mRule q x) HX1.out hI (mtext_max _ (by omega)) (jad.imp HV1.out (fun _ h _=>h) (fun i hi hlt=>HI2.out.block i hlt (fun h=>HD.out i hi h)) HI2.out.size) hV2;rw[hq.out,HN.out] at hT;refine⟨j+1,q3,by omega,by go_num,rfl,hq6,hq7,by have h3:=HQ2.out;have h3':=HQ3.out;have h4:=HK.out;have h5:=hq.out;have h9:costR x=1+2*x.head.args.length+costL costP x.body:=rfl;show _=_;omega,hT,?_⟩;exact ((hin.out.trans' (jab.of_ext HX1.out)).trans' (jab.set _ _ _ HS.out)).trans' (hI.sub (fun i hi _=>(HF.out i hi).1))
    case measure=>simp[intOf];omega
  have hjj:j=xs.length:=by omega
  have HF:=zh (show mList mRule costR k (xs.take j)++xs.drop j=mList mRule costR k xs from by rw[hjj,List.drop_length,List.append_nil,List.take_length]);have HQ:=zh (show q=k+costL costR xs from by rw[hq.out,hjj,List.take_length]);clear hjj;go_wp2;go_ret;exact⟨⟨q,HQ.out,rfl⟩,by rw[← HF.out];exact ht.out,hin.out⟩
theorem BaseO.imp {S S':Nat→Prop} {w w':World} {v:Value} {B:GB} (h:BaseO S w v B) (hS:∀ b,S b→b<w.heap.size→S' b) (he:Agree S w w') (hsz:w.heap.size≤w'.heap.size):BaseO S' w' v B:=by
 obtain⟨a,b,c,S1,S2,S3,h1,h2,h3,h4,h5,h6,h7,h8⟩:=h;refine⟨a,b,c,fun i=>S1 i∧i<w.heap.size,fun i=>S2 i∧i<w.heap.size,fun i=>S3 i∧i<w.heap.size,h1,jad.imp h2 (fun i h k=>⟨h,k⟩) (fun i h k=>he i (h5 i (.inl h)) k) hsz,jad.imp h3 (fun i h k=>⟨h,k⟩) (fun i h k=>he i (h5 i (.inr (.inl h))) k) hsz,jad.imp h4 (fun i h k=>⟨h,k⟩) (fun i h k=>he i (h5 i (.inr (.inr h))) k) hsz,?_,fun i h k=>h6 i h.1 k.1,fun i h k=>h7 i h.1 k.1,fun i h k=>h8 i h.1 k.1⟩;rintro i (h|h|h)
 · exact hS i (h5 i (.inl h.1)) h.2
 · exact hS i (h5 i (.inr (.inl h.1))) h.2
 exact hS i (h5 i (.inr (.inr h.1))) h.2
theorem BaseO.ext {S:Nat→Prop} {w w':World} {v:Value} {B:GB} (h:BaseO S w v B) (he:Ext w w'):BaseO S w' v B:=h.imp (fun _ h _=>h) (.of_ext he) he.size
def costB (B:GB):Nat:=costL costR B.rules+costAs B.given+costL costC B.hist
def mBase (k:Nat) (B:GB):GB:=⟨mList mRule costR k B.rules,B.time,mAtoms (k+costL costR B.rules) B.given,mList mChange costC (k+costL costR B.rules+costAs B.given) B.hist⟩
theorem markBase_any (B:GB) (v:Value) (k:Nat) (w:World) {S:Nat→Prop} (hv:BaseO S w v B) (h1:1≤k) (h2:k+costB B≤100000000) :
  Calls Tryz.prog 31 #[v,.int .i64 k] w fun e w'=>(∃ q:Nat,q=k+costB B∧e=.returned (.int .i64 q))∧BaseO S w' v (mBase k B)∧jab S w w':=by
 have hlow:=hv.imp (S':=fun i=>S i∧i<w.heap.size) (fun i h k=>⟨h,k⟩) (Agree.refl _ _) (Nat.le_refl _);obtain⟨a,b,c,S1,S2,S3,rfl,ha,hb,hc,hS,h12,h13,h23⟩:=hlow;clear hv;obtain⟨A1,p1,rfl,hp1,hp1'⟩:=jad.form ha;obtain⟨B1,q1,rfl,hq1,hq1'⟩:=jad.form hb;obtain⟨C1,r1,rfl,hr1,hr1'⟩:=jad.form hc;have hcost:k+(costL costR B.rules+costAs B.given+costL costC B.hist)≤100000000:=h2;have HBk:=zh (Blk.new w 33 #[.slice A1 B.rules.length p1,.int .i64 B.time,.slice B1 B.given.length q1,.slice C1 B.hist.length r1]);have HA:=zh ha;have HB:=zh hb;have HC:=zh hc;have HS:=zh hS;have H12:=zh h12;have H13:=zh h13;have H23:=zh h23;clear ha hb hc hS h12 h13 h23 h2
 go_enter Tryz.func31,Tryz.ntmps31
 go_wp2_with (first
  | (go_at_call 88;refine (markRuleS_any (S:=S1) _ B.rules k _ (jad.ext HA.out ((Ext.refl _).alloc _)) h1 (by omega)).mono ?_;rintro e w1 ⟨⟨q,hq,rfl⟩,hv1,hi1⟩
     have hb1:=hi1.blk HBk.out (fun h=>by have:=(HS.out _ (.inl h)).2;omega);have s0:=hb1.cell 0;have s1:=hb1.cell 1;have s2:=hb1.cell 2;have s3:=hb1.cell 3;have HV1:=zh hv1;have HI1:=zh hi1;have HQ:=zh hq;have HB1:=zh hb1;have hq0:1≤q:=(by omega);have hq1:q+(costAs B.given+costL costC B.hist)≤100000000:=(by omega);clear hq hv1 hi1 hb1)
  | (go_at_call 35;refine (markAtomS_any (S:=S2) _ B.given q _ (jad.imp (jad.ext HB.out ((Ext.refl _).alloc _)) (fun _ h _=>h) (fun i hi hlt=>HI1.out.block i hlt (fun h=>H12.out i h hi)) HI1.out.size) hq0 (by omega)).mono ?_;rintro e w2 ⟨⟨q2,hq2,rfl⟩,hv2,hi2⟩
     have hb2:=hi2.blk HB1.out (fun h=>by have:=(HS.out _ (.inr (.inl h))).2;omega);have r0:=hb2.cell 0;have r1:=hb2.cell 1;have r2:=hb2.cell 2;have r3:=hb2.cell 3;have HV2:=zh hv2;have HI2:=zh hi2;have HQ2:=zh hq2;have hq3:1≤q2:=(by omega);have hq4:q2+costL costC B.hist≤100000000:=(by omega);clear hq2 hv2 hi2 hb2)
  | (go_at_call 89;refine (markChangeS_any (S:=S3) _ B.hist q2 _ (jad.imp (jad.imp (jad.ext HC.out ((Ext.refl _).alloc _)) (fun _ h _=>h) (fun i hi hlt=>HI1.out.block i hlt (fun h=>H13.out i h hi)) HI1.out.size) (fun _ h _=>h) (fun i hi hlt=>HI2.out.block i hlt (fun h=>H23.out i h hi)) HI2.out.size) hq3 hq4).mono ?_;rintro e w3 ⟨⟨q3,hq3',rfl⟩,hv3,hi3⟩
     have HV3:=zh hv3;have HI3:=zh hi3;have HQ3:=zh hq3';clear hv3 hi3 hq3'))
 go_ret;have e1:=HQ.out;have e2:=HQ2.out;have e3:=HQ3.out;have hV2:=HV2.out;rw[e1] at hV2;have hV3:=HV3.out;rw[e2,e1] at hV3;refine⟨⟨q3,by show q3=k+(costL costR B.rules+costAs B.given+costL costC B.hist);omega,rfl⟩,⟨_,_,_,S1,S2,S3,rfl,?_,?_,hV3,fun i h=>(HS.out i h).1,H12.out,H13.out,H23.out⟩,?_⟩
 · exact jad.imp (jad.imp HV1.out (fun _ h _=>h) (fun i hi hlt=>HI2.out.block i hlt (fun h=>H12.out i hi h)) HI2.out.size) (fun _ h _=>h) (fun i hi hlt=>HI3.out.block i hlt (fun h=>H13.out i hi h)) HI3.out.size
 · exact jad.imp hV2 (fun _ h _=>h) (fun i hi hlt=>HI3.out.block i hlt (fun h=>H23.out i hi h)) HI3.out.size
 exact (((jab.of_ext ((Ext.refl _).alloc _)).trans' (HI1.out.sub (fun i h _=>(HS.out i (.inl h)).1))).trans' (HI2.out.sub (fun i h _=>(HS.out i (.inr (.inl h))).1))).trans' (HI3.out.sub (fun i h _=>(HS.out i (.inr (.inr h))).1))
/-! ### In plain words -/
structure GX where
 from_:Int
 change:GC
def TxnR (S:Nat→Prop) (w:World) (v:Value) (t:GX):Prop:=∃ a b,v=.agg #[.int .i64 t.from_,a,b]∧jac S w a t.change.comes∧jac S w b t.change.goes
theorem TxnR.ext {S:Nat→Prop} {w w':World} {v:Value} {t:GX} (h:TxnR S w v t) (he:Ext w w'):TxnR S w' v t:=by
 obtain⟨a,b,h1,h2,h3⟩:=h;exact⟨a,b,h1,h2.ext he,h3.ext he⟩
theorem TxnR.imp {S S':Nat→Prop} {w w':World} {v:Value} {t:GX} (h:TxnR S w v t) (hS:∀ b,S b→S' b) (he:Agree S w w') (hsz:w.heap.size≤w'.heap.size):TxnR S' w' v t:=by
 obtain⟨a,b,h1,h2,h3⟩:=h;exact⟨a,b,h1,h2.imp hS he hsz,h3.imp hS he hsz⟩
theorem TxnR.form {S:Nat→Prop} {w:World} {v:Value} {t:GX} (h:TxnR S w v t):∃ A1 c1 A2 c2,v=.agg #[.int .i64 t.from_,.slice A1 t.change.comes.length c1,.slice A2 t.change.goes.length c2]:=by
 obtain⟨a,b,rfl,h2,h3⟩:=h;obtain⟨A1,c1,rfl,_⟩:=jaa.form h2;obtain⟨A2,c2,rfl,_⟩:=jaa.form h3;exact⟨_,_,_,_,rfl⟩
def TxnO (S:Nat→Prop) (w:World) (v:Value) (t:GX):Prop:=∃ a b:Value,v=.agg #[.int .i64 t.from_,a,b]∧jbv S w [a,b] t.change
theorem TxnO.read {S:Nat→Prop} {w:World} {v:Value} {t:GX} (h:TxnO S w v t):TxnR S w v t:=by
 obtain⟨a,b,h1,h2⟩:=h;obtain⟨a',b',h3,h4,h5⟩:=jbv.read h2 (fun _ h=>h);injection h3 with h3 h6
 injection h6 with h6 _
 subst h3 h6;exact⟨a,b,h1,h4,h5⟩
theorem TxnO.imp {S S':Nat→Prop} {w w':World} {v:Value} {t:GX} (h:TxnO S w v t) (hS:∀ b,S b→b<w.heap.size→S' b) (he:Agree S w w') (hsz:w.heap.size≤w'.heap.size):TxnO S' w' v t:=by
 obtain⟨a,b,h1,h2⟩:=h;exact⟨a,b,h1,jbv.imp h2 hS he hsz⟩
theorem TxnO.ext {S:Nat→Prop} {w w':World} {v:Value} {t:GX} (h:TxnO S w v t) (he:Ext w w'):TxnO S w' v t:=h.imp (fun _ h _=>h) (.of_ext he) he.size
theorem TxnR.low {S:Nat→Prop} {w:World} {v:Value} {t:GX} (h:TxnR S w v t):TxnR (fun i=>i<w.heap.size) w v t:=by
 obtain⟨a,b,h1,h2,h3⟩:=h;exact⟨a,b,h1,ListK.sub (k:=kAtom) (ListK.low (k:=kAtom) h2) (fun _ h=>h.2),ListK.sub (k:=kAtom) (ListK.low (k:=kAtom) h3) (fun _ h=>h.2)⟩
def mTxn (k:Nat) (t:GX):GX:=⟨t.from_,mChange k t.change⟩
theorem eqTxn_same (t:GX) (v u:Value) (w:World) {S T:Nat→Prop} (hv:TxnR S w v t) (hu:TxnR T w u t) :
  Calls Tryz.prog 30 #[v,u] w fun e w'=>e=.returned (.bool true)∧Ext w w':=by
 obtain⟨a1,b1,rfl,ha1,hb1⟩:=hv;obtain⟨a2,b2,rfl,ha2,hb2⟩:=hu;obtain⟨A1,p1,rfl,hp1,hp1'⟩:=jaa.form ha1;obtain⟨B1,q1,rfl,hq1,hq1'⟩:=jaa.form hb1;obtain⟨A2,p2,rfl,hp2,hp2'⟩:=jaa.form ha2;obtain⟨B2,q2,rfl,hq2,hq2'⟩:=jaa.form hb2;have HA1:=zh ha1;have HB1:=zh hb1;have HA2:=zh ha2;have HB2:=zh hb2;clear ha1 hb1 ha2 hb2
 go_enter Tryz.func30,Tryz.ntmps30;go_wp2_with (go_at_call 87;refine (jiu t.change _ _ _ _ _ (HA1.out.ext (((Ext.refl _).alloc _).alloc _)) (HB1.out.ext (((Ext.refl _).alloc _).alloc _)) (HA2.out.ext (((Ext.refl _).alloc _).alloc _)) (HB2.out.ext (((Ext.refl _).alloc _).alloc _))).mono ?_;rintro e w1 ⟨rfl,hx1⟩)
 go_ret;exact⟨rfl,(((Ext.refl _).alloc _).alloc _).trans' hx1⟩
theorem markTxn_any (t:GX) (v:Value) (k:Nat) (w:World) {S:Nat→Prop} (hv:TxnO S w v t) (h1:1≤k) (h2:k+costC t.change≤100000000) :
  Calls Tryz.prog 32 #[v,.int .i64 k] w fun e w'=>(∃ q:Nat,q=k+costC t.change∧e=.returned (.int .i64 q))∧TxnO S w' v (mTxn k t)∧jab S w w':=by
 have hlow:=hv.imp (S':=fun i=>S i∧i<w.heap.size) (fun i h k=>⟨h,k⟩) (Agree.refl _ _) (Nat.le_refl _);obtain⟨a,b,rfl,hc⟩:=hlow;clear hv;obtain⟨⟨A1,p1,rfl,hp1,hp1'⟩,⟨B1,q1,rfl,hq1,hq1'⟩⟩:=jbv.forms hc;obtain⟨_,_,S1,S2,heq,hv2,hu2,hs1,hs2,hdis⟩:=hc;injection heq with heq1 heq
 injection heq with heq2 _
 subst heq1 heq2;have hcost:k+(costAs t.change.comes+costAs t.change.goes)≤100000000:=h2;have HV:=zh hv2;have HU:=zh hu2;have HS1:=zh hs1;have HS2:=zh hs2;have HD:=zh hdis;clear hv2 hu2 hs1 hs2 hdis h2
 go_enter Tryz.func32,Tryz.ntmps32;go_wp2_with (go_at_call 90;refine (markChange_any (S:=S1) (T:=S2) t.change _ _ k _ (jad.ext HV.out ((Ext.refl _).alloc _)) (jad.ext HU.out ((Ext.refl _).alloc _)) HD.out h1 (by omega)).mono ?_;rintro e w1 ⟨⟨q,hq,rfl⟩,hv1,hu1,hi1⟩;have HQ:=zh hq;have HV1:=zh hv1;have HU1:=zh hu1;have HI1:=zh hi1;clear hq hv1 hu1 hi1)
 go_ret;refine⟨⟨q,by have:=HQ.out;show q=k+(costAs t.change.comes+costAs t.change.goes);omega,rfl⟩,⟨_,_,rfl,_,_,S1,S2,rfl,HV1.out,HU1.out,fun i h=>(HS1.out i h).1,fun i h=>(HS2.out i h).1,HD.out⟩,?_⟩;exact (jab.of_ext ((Ext.refl _).alloc _)).trans' (HI1.out.sub (fun i h _=>by rcases h with h|h;exact (HS1.out i h).1;exact (HS2.out i h).1))
theorem heldTxn_any (t:GX) (v:Value) (k:Nat) (w:World) {S:Nat→Prop} (hv:TxnR S w v (mTxn k t)) (h1:1≤k) (h2:k+costC t.change≤100000000) :
  Calls Tryz.prog 33 #[v,.int .i64 k] w fun e w'=>(∃ q:Nat,q=k+costC t.change∧e=.returned (.int .i64 q))∧Ext w w':=by
 obtain⟨a,b,rfl,ha,hb⟩:=hv;have ha':jac S w a (mAtoms k t.change.comes):=ha;have hb':jac S w b (mAtoms (k+costAs t.change.comes) t.change.goes):=hb;clear ha hb;obtain⟨A1,p1,rfl,hp1,hp1'⟩:=jaa.form ha';obtain⟨B1,q1,rfl,hq1,hq1'⟩:=jaa.form hb';obtain⟨n1,hn1⟩:∃ n,n=(mAtoms k t.change.comes).length:=⟨_,rfl⟩
 obtain⟨n2,hn2⟩:∃ n,n=(mAtoms (k+costAs t.change.comes) t.change.goes).length:=⟨_,rfl⟩
 rw[← hn1] at ha' hp1 ⊢;rw[← hn2] at hb' hq1 ⊢;obtain⟨tm,htm⟩:∃ tm,tm=(mTxn k t).from_:=⟨_,rfl⟩
 rw[← htm];have hcost:k+(costAs t.change.comes+costAs t.change.goes)≤100000000:=h2;have HA:=zh ha';have HB:=zh hb';clear ha' hb' hn1 hn2 htm h2
 go_enter Tryz.func33,Tryz.ntmps33;go_wp2_with (go_at_call 91;refine (heldChange_any (S:=S) (T:=S) t.change _ _ k _ (HA.out.ext ((Ext.refl _).alloc _)) (HB.out.ext ((Ext.refl _).alloc _)) h1 (by omega)).mono ?_;rintro e w1 ⟨⟨q,hq,rfl⟩,hx1⟩;have HQ:=zh hq;have hq5:1≤q:=(by omega);clear hq)
 go_ret;exact⟨⟨q,by have:=HQ.out;show q=k+(costAs t.change.comes+costAs t.change.goes);omega,rfl⟩,((Ext.refl _).alloc _).trans' hx1⟩
theorem wTerms_le (l:List GT):l.length≤jbt l:=Nat.le_add_right _ _
theorem costL_le2 {α:Type} {c f:α→Nat}:∀ {l:List α},(∀ x∈l,c x≤2*(1+f x))→costL c l≤2*(l.length+(l.map f).sum)
 | [],_=>Nat.zero_le _
 | x :: l,h=>by
   have h1:=h x (by simp);have h2:=costL_le2 (l:=l) (fun y hy=>h y (List.mem_cons_of_mem _ hy));unfold costL at h2 ⊢;simp only[List.map_cons,List.sum_cons,List.length_cons];omega
theorem costP_le (p:GP):costP p≤2*(1+wPart p):=by
 have:=wTerms_le p.atom.args;unfold costP wPart wAtom;omega
theorem costR_le (r:GR):costR r≤2*(1+wRule r):=by
 have h1:costL costP r.body≤2*jdb r.body:=costL_le2 fun p _=>costP_le p
 have h2:=wTerms_le r.head.args;unfold costR wRule wAtom;omega
theorem costRs_le (l:List GR):costL costR l≤2*jdc l:=costL_le2 fun r _=>costR_le r
theorem costA_le4 (a:GA):costA a≤2*(1+wAtom a):=by unfold costA wAtom jbt;omega
theorem costAs_le4 (l:List GA):costAs l≤2*jb1 l:=costL_le2 (c:=costA) fun a _=>costA_le4 a
theorem costC_le (c:GC):costC c≤2*jbp c:=by
 have h1:=costAs_le4 c.comes;have h2:=costAs_le4 c.goes;unfold costC jbp;omega
theorem costB_le (B:GB):costB B≤2*wBase B:=by
 have h1:=costRs_le B.rules;have h2:=costAs_le4 B.given;have h3:costL costC B.hist≤2*jb7 B.hist:=costL_le2 (c:=costC) (f:=jbp) fun c _=>by have:=costC_le c;omega
 unfold costB wBase;omega
noncomputable def beginL (B:GB):GX:=if jbn B then ⟨B.time,⟨[],[]⟩⟩ else ⟨0,⟨[],[]⟩⟩
theorem beginL_cost (B:GB):costC (beginL B).change=0:=by unfold beginL;split<;>rfl
theorem none_txn {S:Nat→Prop} {w:World} (n:Int):TxnO S w (.agg #[.int .i64 n,.slice none 0 0,.slice none 0 0]) ⟨n,⟨[],[]⟩⟩ :=
 ⟨_,_,rfl,_,_,fun _=>False,fun _=>False,rfl,jad.nil 0 (Nat.zero_le _) none,jad.nil 0 (Nat.zero_le _) none,fun _ h=>h.elim,fun _ h=>h.elim,fun _ h _=>h⟩
theorem specTxnBegin_any (B:GB) (v:Value) (w:World) {S:Nat→Prop} (hv:BaseR S w v B) :
  Calls Tryz.prog 28 #[v] w fun e w'=>(∃ u,e=.returned u∧TxnR Any w' u (beginL B))∧Ext w w':=by
 obtain⟨A1,c1,A2,c2,A3,c3,rfl⟩:=hv.form;obtain⟨W,hW⟩:∃ W,W=(w.alloc (.cells #[.slice A1 B.rules.length c1,.int .i64 B.time,.slice A2 B.given.length c2,.slice A3 B.hist.length c3] 33)).alloc (.cells #[.int .i64 0,.slice none 0 0,.slice none 0 0] 71):=⟨_,rfl⟩
 have HX:=zh (show Ext w W from by rw[hW];exact ((Ext.refl _).alloc _).alloc _);have HB:=zh (show Blk W w.heap.size 33 #[.slice A1 B.rules.length c1,.int .i64 B.time,.slice A2 B.given.length c2,.slice A3 B.hist.length c3] from by rw[hW];exact (Blk.new _ _ _).alloc _);have HR:=zh (show Blk W (w.heap.size+1) 71 #[.int .i64 0,.slice none 0 0,.slice none 0 0] from by rw[hW];exact Blk.at_new (by simp));have HOK:=zh (je3 B _ W (hv.ext HX.out));have HBE:=zh (show beginL B=if jbn B then ⟨B.time,⟨[],[]⟩⟩ else ⟨0,⟨[],[]⟩⟩ from rfl);obtain⟨bb,hbb⟩:∃ bb,bb=jbn B:=⟨_,rfl⟩
 rw[← hbb] at HOK HBE;have p0:=HB.out.cell 0;have p1:=HB.out.cell 1;have p2:=HB.out.cell 2;have p3:=HB.out.cell 3;clear hv hbb;cases bb
 · go_enter Tryz.func28,Tryz.ntmps28
   go_upto_region 1 with fail
   rw[← hW];clear hW
   go_wp2_with (first
    | (go_at_call 9;refine HOK.out.mono ?_;rintro e w1 ⟨rfl,hx1⟩
       have HX1:=zh hx1;have hr1:=HR.out.ext hx1;have r0:=hr1.cell 0;have r1:=hr1.cell 1;have r2:=hr1.cell 2;have g0:=hr1.frozen 0;have g1:=hr1.frozen 1;have g2:=hr1.frozen 2;have rl:=hr1.lt;clear hx1 hr1 p0 p1 p2 p3)
    | fail)
   refine bodyPost_ret (v:=.agg #[.int .i64 0,.slice none 0 0,.slice none 0 0]) (by simp[results,Tryz.results28,go_sem,r0,r1,r2]) rfl ⟨⟨_,rfl,?_⟩,?_⟩
   · rw[HBE.out];exact (none_txn (S:=Any) _).read
   exact (((HX.out.trans' HX1.out).setNew (by simp) _).setNew (by simp) _).setNew (by simp) _
 go_enter Tryz.func28,Tryz.ntmps28
 go_upto_region 1 with fail
 rw[← hW];clear hW
 go_wp2_with (first
  | (go_at_call 9;refine HOK.out.mono ?_;rintro e w1 ⟨rfl,hx1⟩
     have HX1:=zh hx1;have hr1:=HR.out.ext hx1;have hb1:=HB.out.ext hx1;have q1:=hb1.cell 1;have ql:=hb1.lt;have r0:=hr1.cell 0;have r1:=hr1.cell 1;have r2:=hr1.cell 2;have g0:=hr1.frozen 0;have g1:=hr1.frozen 1;have g2:=hr1.frozen 2;have rl:=hr1.lt;clear hx1 hr1 hb1 p0 p1 p2 p3)
  | fail)
 refine bodyPost_ret (v:=.agg #[.int .i64 B.time,.slice none 0 0,.slice none 0 0]) (by simp[results,Tryz.results28,go_sem,r0,r1,r2]) rfl ⟨⟨_,rfl,?_⟩,?_⟩
 · rw[HBE.out];exact (none_txn (S:=Any) _).read
 exact (((HX.out.trans' HX1.out).setNew (by simp) _).setNew (by simp) _).setNew (by simp) _
theorem implTxnBegin_any (B:GB) (v:Value) (w:World) {S:Nat→Prop} (hv:BaseR S w v B) (he:ErrIs w) :
  Calls Tryz.prog 29 #[v] w fun e w'=>(∃ u,e=.returned u∧TxnO (From w.heap.size) w' u (beginL B))∧Ext w w':=by
 obtain⟨A1,c1,A2,c2,A3,c3,rfl⟩:=hv.form;obtain⟨W,hW⟩:∃ W,W=(w.alloc (.cells #[.slice A1 B.rules.length c1,.int .i64 B.time,.slice A2 B.given.length c2,.slice A3 B.hist.length c3] 33)).alloc (.cells #[.int .i64 0,.slice none 0 0,.slice none 0 0] 71):=⟨_,rfl⟩
 have HX:=zh (show Ext w W from by rw[hW];exact ((Ext.refl _).alloc _).alloc _);have HB:=zh (show Blk W w.heap.size 33 #[.slice A1 B.rules.length c1,.int .i64 B.time,.slice A2 B.given.length c2,.slice A3 B.hist.length c3] from by rw[hW];exact (Blk.new _ _ _).alloc _);have HR:=zh (show Blk W (w.heap.size+1) 71 #[.int .i64 0,.slice none 0 0,.slice none 0 0] from by rw[hW];exact Blk.at_new (by simp));have HOK:=zh (je2 B _ W (hv.ext HX.out) (he.ext HX.out));have HBE:=zh (show beginL B=if jbn B then ⟨B.time,⟨[],[]⟩⟩ else ⟨0,⟨[],[]⟩⟩ from rfl);obtain⟨bb,hbb⟩:∃ bb,bb=jbn B:=⟨_,rfl⟩
 rw[← hbb] at HOK HBE;have p0:=HB.out.cell 0;have p1:=HB.out.cell 1;have p2:=HB.out.cell 2;have p3:=HB.out.cell 3;clear hv hbb he;cases bb
 · go_enter Tryz.func29,Tryz.ntmps29
   go_upto_region 1 with fail
   rw[← hW];clear hW
   go_wp2_with (first
    | (go_at_call 11;refine HOK.out.mono ?_;rintro e w1 ⟨rfl,hx1⟩
       have HX1:=zh hx1;have hr1:=HR.out.ext hx1;have r0:=hr1.cell 0;have r1:=hr1.cell 1;have r2:=hr1.cell 2;have g0:=hr1.frozen 0;have g1:=hr1.frozen 1;have g2:=hr1.frozen 2;have rl:=hr1.lt;clear hx1 hr1 p0 p1 p2 p3)
    | fail)
   refine bodyPost_ret (v:=.agg #[.int .i64 0,.slice none 0 0,.slice none 0 0]) (by simp[results,Tryz.results29,go_sem,r0,r1,r2]) rfl ⟨⟨_,rfl,?_⟩,?_⟩
   · rw[HBE.out];exact none_txn _
   exact (((HX.out.trans' HX1.out).setNew (by simp) _).setNew (by simp) _).setNew (by simp) _
 go_enter Tryz.func29,Tryz.ntmps29
 go_upto_region 1 with fail
 rw[← hW];clear hW
 go_wp2_with (first
  | (go_at_call 11;refine HOK.out.mono ?_;rintro e w1 ⟨rfl,hx1⟩
     have HX1:=zh hx1;have hr1:=HR.out.ext hx1;have hb1:=HB.out.ext hx1;have q1:=hb1.cell 1;have ql:=hb1.lt;have r0:=hr1.cell 0;have r1:=hr1.cell 1;have r2:=hr1.cell 2;have g0:=hr1.frozen 0;have g1:=hr1.frozen 1;have g2:=hr1.frozen 2;have rl:=hr1.lt;clear hx1 hr1 hb1 p0 p1 p2 p3)
  | fail)
 refine bodyPost_ret (v:=.agg #[.int .i64 B.time,.slice none 0 0,.slice none 0 0]) (by simp[results,Tryz.results29,go_sem,r0,r1,r2]) rfl ⟨⟨_,rfl,?_⟩,?_⟩
 · rw[HBE.out];exact none_txn _
 exact (((HX.out.trans' HX1.out).setNew (by simp) _).setNew (by simp) _).setNew (by simp) _
end Go.Proofs.YthdojieomhighaaGreatDoor
