/- Own texts, joined. -/
import Derived.Test.YthdojieomhighaaGreatDoorCas02
import Derived.RangeFuncNested
import Derived.RangeFuncBound
import Derived.RangeFuncCalls
import Derived.RangeFuncLeaves
import Derived.RangeFuncWrites
import Derived.Shelf.Abstract
import Derived.Shelf.RegionOpen
import Derived.OwnWalkIn
import Derived.TacticsInMore
import Derived.LoopNIn
import Derived.LoopIn
import Derived.Test.YthdojieomhighaaGreatDoorCas01
import Derived.Test.YthdojieomhighaaGreatDoorRows
import Derived.ProofKit
import Derived.Deep.Slices
import Derived.Deep.Fields
import Derived.ChangeSame
import Derived.Deep.AppendLies
set_option linter.unusedSimpArgs false
set_option linter.unusedVariables false
set_option maxHeartbeats 4000000
set_option maxRecDepth 100000
namespace Go.Proofs.YthdojieomhighaaGreatDoor
open Go.RowKit Go.Shelf
attribute [local go_sem] Oper.semAt_some
structure ME where
 x:GA
 v:Value
 s:Int
def encME (e:ME):Array Value:= #[.agg #[.string e.x.n,e.v],.int .i64 e.s]
abbrev P2:Type:=GA × Value
def jb0:Nat→List P2→List P2→List ME
 | 0,_,_=>[]
 | _+1,[],[]=>[]
 | n+1,x :: xs,[]=>⟨x.1,x.2,0⟩ :: jb0 n xs []
 | n+1,[],y :: ys=>⟨y.1,y.2,1⟩ :: jb0 n [] ys
 | n + 1,x :: xs,y :: ys =>
   if cmpA x.1 y.1<0 then ⟨x.1,x.2,0⟩ :: jb0 n xs (y :: ys)
   else if 0<cmpA x.1 y.1 then ⟨y.1,y.2,1⟩ :: jb0 n (x :: xs) ys
   else ⟨x.1,x.2,2⟩ :: jb0 n xs ys
def jah (xs ys:List P2):List ME:=jb0 (xs.length+ys.length) xs ys
theorem jdm:∀ (n:Nat) (xs ys:List P2),xs.length+ys.length≤n→jb0 (n+1) xs ys=jb0 n xs ys
 | 0,[],[],_=>rfl
 | 0,_ :: _,_,h=>by simp at h
 | 0,[],_ :: _,h=>by simp at h
 | n+1,[],[],_=>rfl
 | n + 1,x :: xs,[],h=>by
   have ih:=jdm n xs [] (by simp at h ⊢;omega);rw[jb0,ih,← jb0]
 | n + 1,[],y :: ys,h=>by
   have ih:=jdm n [] ys (by simp at h ⊢;omega);rw[jb0,ih,← jb0]
 | n + 1,x :: xs,y :: ys,h=>by
   have i1:=jdm n xs (y :: ys) (by simp at h ⊢;omega);have i2:=jdm n (x :: xs) ys (by simp at h ⊢;omega);have i3:=jdm n xs ys (by simp at h ⊢;omega);rw[jb0,i1,i2,i3,← jb0]
theorem jc0 (n:Nat) (xs ys:List P2) (h:xs.length+ys.length≤n):jb0 n xs ys=jah xs ys:=by
 induction n with
 | zero =>
   have h1:xs=[]:=List.eq_nil_of_length_eq_zero (by omega);have h2:ys=[]:=List.eq_nil_of_length_eq_zero (by omega);subst h1;subst h2;rfl
 | succ n ih =>
   by_cases hn:xs.length+ys.length≤n
   · rw[jdm n xs ys hn,ih hn]
   have:n+1=xs.length+ys.length:=by omega
   rw[this];rfl
theorem ji1:jah [] []=[]:=rfl
theorem jg8 (x:P2) (xs:List P2):jah (x :: xs) []=⟨x.1,x.2,0⟩ :: jah xs []:=by
 unfold jah;rw[show (x :: xs).length+([]:List P2).length=(xs.length+0)+1 from by simp,jb0];rfl
theorem jf6 (y:P2) (ys:List P2):jah [] (y :: ys)=⟨y.1,y.2,1⟩ :: jah [] ys:=by
 unfold jah;rw[show ([]:List P2).length+(y :: ys).length=(0+ys.length)+1 from by simp,jb0];rfl
theorem jhy {x y:P2} (xs ys:List P2) (h:cmpA x.1 y.1<0):jah (x :: xs) (y :: ys)=⟨x.1,x.2,0⟩ :: jah xs (y :: ys):=by
 rw[← jc0 ((xs.length+ys.length+1)+1) (x :: xs) (y :: ys) (by simp;omega),jb0,if_pos h,jc0 _ _ _ (by simp;omega)]
theorem jhz {x y:P2} (xs ys:List P2) (h:0<cmpA x.1 y.1):jah (x :: xs) (y :: ys)=⟨y.1,y.2,1⟩ :: jah (x :: xs) ys:=by
 rw[← jc0 ((xs.length+ys.length+1)+1) (x :: xs) (y :: ys) (by simp;omega),jb0,if_neg (by omega),if_pos h,jc0 _ _ _ (by simp;omega)]
theorem jh0 {x y:P2} (xs ys:List P2) (h:cmpA x.1 y.1=0):jah (x :: xs) (y :: ys)=⟨x.1,x.2,2⟩ :: jah xs ys:=by
 rw[← jc0 ((xs.length+ys.length+1)+1) (x :: xs) (y :: ys) (by simp;omega),jb0,if_neg (by omega),if_neg (by omega),jc0 _ _ _ (by omega)]
def PairE (S:Nat→Prop) (w:World) (cs:List Value) (p:P2):Prop:=cs=[.string p.1.n,p.2]∧p.1.n.size≤maxLen∧jae S w p.2 p.1.args
def jdj (S:Nat→Prop):World→Value→List P2→Prop:=jaa S 2 (PairE S)
theorem jdj.imp {S S':Nat→Prop} {w w':World} {v:Value} {xs:List P2} (h:jdj S w v xs) (hS:∀ b,S b→S' b) (he:Agree S w w') (hsz:w.heap.size≤w'.heap.size):jdj S' w' v xs :=
 jaa.imp (fun _ _ _ h=>⟨h.1,h.2.1,h.2.2.imp hS he hsz⟩) hS h he hsz
theorem jdj.at_ {S:Nat→Prop} {w:World} {A:Option Addr} {n c:Nat} {xs:List P2} (h:jdj S w (.slice A n c) xs) {k:Nat} (hk:k<n) :
  ∃ (b off:Nat) (x:P2),A=some ⟨b,off,none⟩∧b<w.heap.size∧xs[k]? = some x∧x.1.n.size≤maxLen∧jae S w x.2 x.1.args ∧
    w.cell? ⟨b,off+k*2,none⟩=some (.string x.1.n)∧w.cell? ⟨b,off+k*2+1,none⟩=some x.2:=by
 obtain⟨b,off,x,cs,hA,hb,hx,_,hc,rfl,hs,ht⟩:=jaa.at_ h hk;exact⟨b,off,x,hA,hb,hx,hs,ht,hc 0 _ rfl,hc 1 _ rfl⟩
theorem jle {α β:Type} (R:Nat→α→β→Prop):∀ (xs:List α) (k:Nat),(∀ (i:Nat) (x:α),xs[i]? = some x→∃ y,R (k+i) x y)→∃ ys:List β,ys.length=xs.length∧∀ (i:Nat) (x:α) (y:β),xs[i]? = some x→ys[i]? = some y→R (k+i) x y
 | [],_,_=>⟨[],rfl,fun i x y h=>by simp at h⟩
 | x :: xs,k,h=>by
   obtain⟨y,hy⟩:=h 0 x rfl
   obtain ⟨ys,hl,hr⟩:=jle R xs (k+1) (fun i z hz=>by
    have:=h (i+1) z (by simpa using hz)
    rwa [show k+(i+1)=k+1+i from by omega] at this)
   refine⟨y :: ys,by simp[hl],fun i a b ha hb=>?_⟩
   cases i with
   | zero=>simp at ha hb;subst ha;subst hb;exact hy
   | succ i =>
     have:=hr i a b (by simpa using ha) (by simpa using hb)
     rwa [show k+1+i=k+(i+1) from by omega] at this
theorem jac.pairs {S:Nat→Prop} {w:World} {v:Value} {xs:List GA} (h:jac S w v xs):∃ ps:List P2,ps.map (·.1)=xs∧jdj S w v ps:=by
 obtain⟨A,c,hv,h1,h2,h3⟩:=h
 by_cases h0:0<xs.length
 · obtain ⟨b,off,hA,hb,hs,hc⟩:=h3 h0
   obtain ⟨ys,hl,hr⟩:=jle (fun i (x:GA) (u:Value)=>w.cell? ⟨b,off+(i*2+0),none⟩=some (.string x.n)∧w.cell? ⟨b,off+(i*2+1),none⟩=some u∧x.n.size≤maxLen∧jae S w u x.args) xs 0
    (fun i x hx=>by
     obtain⟨cs,hcl,hcs,u,rfl,hn,ht⟩:=hc i x hx
     exact⟨u,by simpa using hcs 0 _ rfl,by simpa using hcs 1 _ rfl,hn,ht⟩)
   refine⟨xs.zip ys,by rw[List.map_fst_zip (by omega)],A,c,?_,?_,h2,fun _=>⟨b,off,hA,hb,hs,fun i p hp=>?_⟩⟩
   · rw[hv];simp[hl]
   · simp[hl];exact h1
   rw[List.getElem?_zip_eq_some] at hp;have:=hr i p.1 p.2 hp.1 hp.2;rw[Nat.zero_add] at this;refine⟨[.string p.1.n,p.2],rfl,fun j u hu=>?_,rfl,this.2.2.1,this.2.2.2⟩
   match j,hu with
   | 0,hu=>simp at hu;subst hu;exact this.1
   | 1,hu=>simp at hu;subst hu;exact this.2.1
 have:xs=[]:=List.eq_nil_of_length_eq_zero (by omega);subst this;exact⟨[],rfl,A,c,hv,h1,h2,fun h=>absurd h (by simp)⟩
def KeepR (R:Nat→Prop) (W W':World):Prop:=W.heap.size≤W'.heap.size∧Agree R W W'
theorem KeepR.trans {R:Nat→Prop} {A B C:World} (h:KeepR R A B) (k:KeepR R B C):KeepR R A C:=⟨Nat.le_trans h.1 k.1,h.2.trans' k.2 h.1⟩
theorem KeepR.of_ext {R:Nat→Prop} {A B:World} (h:Ext A B):KeepR R A B:=⟨h.size,.of_ext h⟩
theorem KeepR.cell {R:Nat→Prop} {A B:World} (h:KeepR R A B) {b o:Nat} {u:Value} (hb:R b) (hc:A.cell? ⟨b,o,none⟩=some u):B.cell? ⟨b,o,none⟩=some u :=
 (World.cell?_of_block (w:=A) (a:=⟨b,o,none⟩) (h.2 b hb (jcm hc))).trans hc
theorem jw3 {A B:World} (h:Ext A B):A.grownBy B none:=⟨h.os,h.tape,h.output,h.size,fun k hk _=>h.block k hk⟩
theorem jj8 (n:Nat) (hn:1≤n) (B1 B2:Nat) (R:Nat→Prop) (w:World) (s1 s2:Value) (ps qs:List P2)
  (hB1:R B1) (hB2:R B2) (c10:w.cell? ⟨B1,0,none⟩=some s1) (c11:w.cell? ⟨B1,1,none⟩=some (.func (.func 133) #[] #[]))
  (c20:w.cell? ⟨B2,0,none⟩=some s2) (h1:jdj R w s1 ps) (h2:jdj R w s2 qs) :
  SeqStopsK Fence.wide n Tryz.prog 162 #[.pointer (some ⟨B1,0,none⟩),.pointer (some ⟨B2,0,none⟩)] encME (KeepR R) (fun L=>L=jah ps qs) (fun pre=>pre <+: jah ps qs) (jah ps qs).length w:=by
 intro l J Jx W hW hJ hJx hY h0;obtain⟨A1,d1,rfl,hd1,hd1'⟩:=jaa.form h1;obtain⟨A2,d2,rfl,hd2,hd2'⟩:=jaa.form h2;have hw0:KeepR R w W:=.of_ext hW;have HY:=zh hY;have HJ:=zh hJ;have H1:=zh h1;have H2:=zh h2;have HB1:=zh hB1;have HB2:=zh hB2;have C10:=zh c10;have C11:=zh c11;have C20:=zh c20;clear hY hJ hJx h1 h2 c10 c11 c20 hW hB1 hB2;refine callsIn_of_wp Tryz.func162 rfl trivial ?_ rfl;simp only[Tryz.ntmps162,List.size_toArray,List.length_cons,List.length_nil,Nat.reduceAdd,Nat.reduceSub,Array.replicate_succ,Array.replicate_zero,List.push_toArray,List.append_toArray,List.nil_append,List.cons_append]
 gi_wp2
 gi_loopw [4,5] (fun i j wr=>∃ (a b:Nat) (pre:List ME),(a≤ps.length∧b≤qs.length)∧i=.int .i64 a∧j=.int .i64 b∧Hid (jah ps qs=pre++jah (ps.drop a) (qs.drop b))∧J pre wr∧KeepR R w wr) (fun i j _=>(ps.length-(intOf i).toNat)+(qs.length-(intOf j).toNat))
 case atStart=>exact⟨0,0,[],⟨Nat.zero_le _,Nat.zero_le _⟩,rfl,rfl,rfl,h0,hw0⟩
 case round =>
  obtain⟨a,b,pre,⟨ha,hb⟩,rfl,rfl,hm,hJs,hk⟩:=hrel;have e10:=hk.cell HB1.out C10.out;have e11:=hk.cell HB1.out C11.out;have e20:=hk.cell HB2.out C20.out;have hl1:=jcm e10;have hl2:=jcm e20
  have hga:¬ a<ps.length→ps.drop a=[]:=fun h=>List.drop_eq_nil_of_le (by omega)
  have hgb:¬ b<qs.length→qs.drop b=[]:=fun h=>List.drop_eq_nil_of_le (by omega)
  have HGA:=zh hga;have HGB:=zh hgb;clear hga hgb
  by_cases h1:a<ps.length
  · obtain ⟨ba,offa,x,rfl,hba,hxk,hxs,htx,hx0,hx1⟩:=jdj.at_ (H1.out.imp (fun _ h=>h) hk.2 hk.1) h1
    have HDX:=zh (jbq hxk);have HTX:=zh htx;have t1:decide (a<ps.length)=true:=decide_eq_true h1
    have t2:(((a:Nat):Int) == ((ps.length:Nat):Int))=false:=by rw[beq_eq_false_iff_ne];omega
    have hi0:(0:Int)≤(a:Int):=Int.natCast_nonneg _
    have hi1:(a:Int)<(ps.length:Int):=by omega
    clear hxk htx
    by_cases h2:b<qs.length
    · obtain ⟨bb,offb,y,rfl,hbb,hyk,hys,hty,hy0,hy1⟩:=jdj.at_ (H2.out.imp (fun _ h=>h) hk.2 hk.1) h2
      have HDY:=zh (jbq hyk);have HTY:=zh hty;have t3:decide (b<qs.length)=true:=decide_eq_true h2
      have t4:(((b:Nat):Int) == ((qs.length:Nat):Int))=false:=by rw[beq_eq_false_iff_ne];omega
      have hj0:(0:Int)≤(b:Int):=Int.natCast_nonneg _
      have hj1:(b:Int)<(qs.length:Int):=by omega
      have HC:=zh (fun (W:World) (h:Ext wr W)=>jld x.1 y.1 x.2 y.2 W (HTX.out.ext h) (HTY.out.ext h));clear hyk hty
      gi_wp2
      refine wpIn_wide.2 (jar (by kernel_rfl) (by kernel_rfl) ?_)
      repeat (go_big_quiet_step ((go_at_call 133;exact jbg (HC.out _ (Later.ext _)))))
      refine wpQuiet_nil ?_;rintro w1 ⟨⟨_,hx⟩,rfl⟩;have hJ1:J pre w1:=HJ.out _ _ _ none hJs (jw3 hx) (fun r e=>by cases e);have hk1:KeepR R w w1:=hk.trans (.of_ext hx);have hz:=hx.size
      have hl1':B1<w1.heap.size:=by omega
      have hl2':B2<w1.heap.size:=by omega
      have hba':ba<w1.heap.size:=by omega
      have hbb':bb<w1.heap.size:=by omega
      have f10:=(KeepR.of_ext (R:=Any) hx).cell trivial e10;have f20:=(KeepR.of_ext (R:=Any) hx).cell trivial e20;have fx0:=(KeepR.of_ext (R:=Any) hx).cell trivial hx0;have fx1:=(KeepR.of_ext (R:=Any) hx).cell trivial hx1;have fy0:=(KeepR.of_ext (R:=Any) hx).cell trivial hy0;have fy1:=(KeepR.of_ext (R:=Any) hx).cell trivial hy1;clear hz e10 e11 e20 hx0 hx1 hy0 hy1 hl1 hl2 hba hbb hJs hx HC
      rcases Int.lt_trichotomy (cmpA x.1 y.1) 0 with hc|hc|hc
      · have HM:=zh (show jah ps qs=pre++(⟨x.1,x.2,0⟩ :: jah (ps.drop (a+1)) (qs.drop b)) from by rw[hm.out,HDX.out,HDY.out,jhy _ _ hc])
        have HM2:=zh (show jah ps qs=(pre++[(⟨x.1,x.2,0⟩:ME)])++jah (ps.drop (a+1)) (qs.drop b) from by rw[HM.out,List.append_assoc];rfl);obtain⟨fn,tmps,assign,body,hy,hR⟩:=HY.out pre (⟨x.1,x.2,0⟩:ME) w1 hJ1 (by rw[HM.out];simp);dsimp only[encME] at hy;have HR:=zh hR;clear hR
        gi_wp2
        refine HR.out.mono ?_;rintro e W3 (⟨rfl,hJ3,hk3⟩|⟨rfl,hJx3⟩)
        · gi_wp2
          go_roundw
          case rel=>exact⟨(a+1),b,pre++[_],⟨by omega,by omega⟩,by go_num,rfl,HM2,hJ3,hk1.trans hk3⟩
          case measure=>simp[intOf];omega
        gi_wp2
        refine bodyPost_ret (results_none rfl _ _ _) rfl ?_;exact⟨⟨_,rfl⟩,.inr ⟨pre++[_],⟨_,HM2.out.symm⟩,hJx3⟩⟩
      · have HM:=zh (show jah ps qs=pre++(⟨x.1,x.2,2⟩ :: jah (ps.drop (a+1)) (qs.drop (b+1))) from by rw[hm.out,HDX.out,HDY.out,jh0 _ _ hc])
        have hc1:¬ cmpA x.1 y.1<0:=by omega
        have hc2:¬ 0<cmpA x.1 y.1:=by omega
        clear hc;have HM2:=zh (show jah ps qs=(pre++[(⟨x.1,x.2,2⟩:ME)])++jah (ps.drop (a+1)) (qs.drop (b+1)) from by rw[HM.out,List.append_assoc];rfl);obtain⟨fn,tmps,assign,body,hy,hR⟩:=HY.out pre (⟨x.1,x.2,2⟩:ME) w1 hJ1 (by rw[HM.out];simp);dsimp only[encME] at hy;have HR:=zh hR;clear hR
        gi_wp2
        refine HR.out.mono ?_;rintro e W3 (⟨rfl,hJ3,hk3⟩|⟨rfl,hJx3⟩)
        · gi_wp2
          go_roundw
          case rel=>exact⟨(a+1),(b+1),pre++[_],⟨by omega,by omega⟩,by go_num,by go_num,HM2,hJ3,hk1.trans hk3⟩
          case measure=>simp[intOf];omega
        gi_wp2
        refine bodyPost_ret (results_none rfl _ _ _) rfl ?_;exact⟨⟨_,rfl⟩,.inr ⟨pre++[_],⟨_,HM2.out.symm⟩,hJx3⟩⟩
      have HM:=zh (show jah ps qs=pre++(⟨y.1,y.2,1⟩ :: jah (ps.drop a) (qs.drop (b+1))) from by rw[hm.out,HDX.out,HDY.out,jhz _ _ hc]);have HM2:=zh (show jah ps qs=(pre++[(⟨y.1,y.2,1⟩:ME)])++jah (ps.drop a) (qs.drop (b+1)) from by rw[HM.out,List.append_assoc];rfl);obtain⟨fn,tmps,assign,body,hy,hR⟩:=HY.out pre (⟨y.1,y.2,1⟩:ME) w1 hJ1 (by rw[HM.out];simp);dsimp only[encME] at hy;have HR:=zh hR;clear hR
      gi_wp2
      refine HR.out.mono ?_;rintro e W3 (⟨rfl,hJ3,hk3⟩|⟨rfl,hJx3⟩)
      · gi_wp2
        go_roundw
        case rel=>exact⟨a,(b+1),pre++[_],⟨by omega,by omega⟩,rfl,by go_num,HM2,hJ3,hk1.trans hk3⟩
        case measure=>simp[intOf];omega
      gi_wp2
      refine bodyPost_ret (results_none rfl _ _ _) rfl ?_;exact⟨⟨_,rfl⟩,.inr ⟨pre++[_],⟨_,HM2.out.symm⟩,hJx3⟩⟩
    have HM:=zh (show jah ps qs=pre++(⟨x.1,x.2,0⟩ :: jah (ps.drop (a+1)) (qs.drop b)) from by rw[hm.out,HGB.out h2,HDX.out,jg8]);have t3:decide (b<qs.length)=false:=decide_eq_false h2
    have t4:(((b:Nat):Int) == ((qs.length:Nat):Int))=true:=by rw[beq_iff_eq];omega
    have HM2:=zh (show jah ps qs=(pre++[(⟨x.1,x.2,0⟩:ME)])++jah (ps.drop (a+1)) (qs.drop b) from by rw[HM.out,List.append_assoc];rfl);obtain⟨fn,tmps,assign,body,hy,hR⟩:=HY.out pre (⟨x.1,x.2,0⟩:ME) wr hJs (by rw[HM.out];simp);dsimp only[encME] at hy;have HR:=zh hR;clear hR
    gi_wp2
    refine HR.out.mono ?_;rintro e W3 (⟨rfl,hJ3,hk3⟩|⟨rfl,hJx3⟩)
    · gi_wp2
      go_roundw
      case rel=>exact⟨(a+1),b,pre++[_],⟨by omega,by omega⟩,by go_num,rfl,HM2,hJ3,hk.trans hk3⟩
      case measure=>simp[intOf];omega
    gi_wp2
    refine bodyPost_ret (results_none rfl _ _ _) rfl ?_;exact⟨⟨_,rfl⟩,.inr ⟨pre++[_],⟨_,HM2.out.symm⟩,hJx3⟩⟩
  have t1:decide (a<ps.length)=false:=decide_eq_false h1
  have t2:(((a:Nat):Int) == ((ps.length:Nat):Int))=true:=by rw[beq_iff_eq];omega
  by_cases h2:b<qs.length
  · obtain ⟨bb,offb,y,rfl,hbb,hyk,hys,hty,hy0,hy1⟩:=jdj.at_ (H2.out.imp (fun _ h=>h) hk.2 hk.1) h2
    have HM:=zh (show jah ps qs=pre++(⟨y.1,y.2,1⟩ :: jah (ps.drop a) (qs.drop (b+1))) from by rw[hm.out,HGA.out h1,jbq hyk,jf6]);have t3:decide (b<qs.length)=true:=decide_eq_true h2;have hj0:(0:Int)≤(b:Int):=Int.natCast_nonneg _
    have hj1:(b:Int)<(qs.length:Int):=by omega
    clear hyk hty;have HM2:=zh (show jah ps qs=(pre++[(⟨y.1,y.2,1⟩:ME)])++jah (ps.drop a) (qs.drop (b+1)) from by rw[HM.out,List.append_assoc];rfl);obtain⟨fn,tmps,assign,body,hy,hR⟩:=HY.out pre (⟨y.1,y.2,1⟩:ME) wr hJs (by rw[HM.out];simp);dsimp only[encME] at hy;have HR:=zh hR;clear hR
    gi_wp2
    refine HR.out.mono ?_;rintro e W3 (⟨rfl,hJ3,hk3⟩|⟨rfl,hJx3⟩)
    · gi_wp2
      go_roundw
      case rel=>exact⟨a,(b+1),pre++[_],⟨by omega,by omega⟩,rfl,by go_num,HM2,hJ3,hk.trans hk3⟩
      case measure=>simp[intOf];omega
    gi_wp2
    refine bodyPost_ret (results_none rfl _ _ _) rfl ?_;exact⟨⟨_,rfl⟩,.inr ⟨pre++[_],⟨_,HM2.out.symm⟩,hJx3⟩⟩
  have HM:=zh (show jah ps qs=pre from by rw[hm.out,HGA.out h1,HGB.out h2,ji1,List.append_nil]);have t3:decide (b<qs.length)=false:=decide_eq_false h2
  gi_wp2
  go_end0
  exact⟨⟨_,rfl⟩,.inl ⟨_,HM.out.symm,hJs⟩⟩
theorem jj9 (n:Nat) (hn:1≤n) (B1 B2:Nat) (R:Nat→Prop) (w:World) (s1 s2:Value) (ps qs:List P2)
  (hB1:R B1) (hB2:R B2) (c10:w.cell? ⟨B1,0,none⟩=some s1) (c11:w.cell? ⟨B1,1,none⟩=some (.func (.func 133) #[] #[]))
  (c20:w.cell? ⟨B2,0,none⟩=some s2) (h1:jdj R w s1 ps) (h2:jdj R w s2 qs) :
  jfh Fence.wide n Tryz.prog 162 #[.pointer (some ⟨B1,0,none⟩),.pointer (some ⟨B2,0,none⟩)] encME (fun A B=>Ext A B) (fun _ _ x=>x∈jah ps qs) (KeepR R) (fun L=>L=jah ps qs) (jah ps qs).length w:=by
 intro l J W hW hJ hY h0;obtain⟨A1,d1,rfl,hd1,hd1'⟩:=jaa.form h1;obtain⟨A2,d2,rfl,hd2,hd2'⟩:=jaa.form h2;have hw0:KeepR R w W:=.of_ext hW;have HY:=zh hY;have HJ:=zh hJ;have H1:=zh h1;have H2:=zh h2;have HB1:=zh hB1;have HB2:=zh hB2;have C10:=zh c10;have C11:=zh c11;have C20:=zh c20;clear hY hJ h1 h2 c10 c11 c20 hW hB1 hB2;refine callsIn_of_wp Tryz.func162 rfl trivial ?_ rfl;simp only[Tryz.ntmps162,List.size_toArray,List.length_cons,List.length_nil,Nat.reduceAdd,Nat.reduceSub,Array.replicate_succ,Array.replicate_zero,List.push_toArray,List.append_toArray,List.nil_append,List.cons_append]
 gi_wp2
 gi_loopw [4,5] (fun i j wr=>∃ (a b:Nat) (pre:List ME),(a≤ps.length∧b≤qs.length)∧i=.int .i64 a∧j=.int .i64 b∧Hid (jah ps qs=pre++jah (ps.drop a) (qs.drop b))∧J pre wr∧KeepR R w wr) (fun i j _=>(ps.length-(intOf i).toNat)+(qs.length-(intOf j).toNat))
 case atStart=>exact⟨0,0,[],⟨Nat.zero_le _,Nat.zero_le _⟩,rfl,rfl,rfl,h0,hw0⟩
 case round =>
  obtain⟨a,b,pre,⟨ha,hb⟩,rfl,rfl,hm,hJs,hk⟩:=hrel;have e10:=hk.cell HB1.out C10.out;have e11:=hk.cell HB1.out C11.out;have e20:=hk.cell HB2.out C20.out;have hl1:=jcm e10;have hl2:=jcm e20
  have hga:¬ a<ps.length→ps.drop a=[]:=fun h=>List.drop_eq_nil_of_le (by omega)
  have hgb:¬ b<qs.length→qs.drop b=[]:=fun h=>List.drop_eq_nil_of_le (by omega)
  have HGA:=zh hga;have HGB:=zh hgb;clear hga hgb
  by_cases h1:a<ps.length
  · obtain ⟨ba,offa,x,rfl,hba,hxk,hxs,htx,hx0,hx1⟩:=jdj.at_ (H1.out.imp (fun _ h=>h) hk.2 hk.1) h1
    have HDX:=zh (jbq hxk);have HTX:=zh htx;have t1:decide (a<ps.length)=true:=decide_eq_true h1
    have t2:(((a:Nat):Int) == ((ps.length:Nat):Int))=false:=by rw[beq_eq_false_iff_ne];omega
    have hi0:(0:Int)≤(a:Int):=Int.natCast_nonneg _
    have hi1:(a:Int)<(ps.length:Int):=by omega
    clear hxk htx
    by_cases h2:b<qs.length
    · obtain ⟨bb,offb,y,rfl,hbb,hyk,hys,hty,hy0,hy1⟩:=jdj.at_ (H2.out.imp (fun _ h=>h) hk.2 hk.1) h2
      have HDY:=zh (jbq hyk);have HTY:=zh hty;have t3:decide (b<qs.length)=true:=decide_eq_true h2
      have t4:(((b:Nat):Int) == ((qs.length:Nat):Int))=false:=by rw[beq_eq_false_iff_ne];omega
      have hj0:(0:Int)≤(b:Int):=Int.natCast_nonneg _
      have hj1:(b:Int)<(qs.length:Int):=by omega
      have HC:=zh (fun (W:World) (h:Ext wr W)=>jld x.1 y.1 x.2 y.2 W (HTX.out.ext h) (HTY.out.ext h));clear hyk hty
      gi_wp2
      refine wpIn_wide.2 (jar (by kernel_rfl) (by kernel_rfl) ?_)
      repeat (go_big_quiet_step ((go_at_call 133;exact jbg (HC.out _ (Later.ext _)))))
      refine wpQuiet_nil ?_;rintro w1 ⟨⟨_,hx⟩,rfl⟩;have hJ1:J pre w1:=HJ.out _ _ _ hJs hx;have hk1:KeepR R w w1:=hk.trans (.of_ext hx);have hz:=hx.size
      have hl1':B1<w1.heap.size:=by omega
      have hl2':B2<w1.heap.size:=by omega
      have hba':ba<w1.heap.size:=by omega
      have hbb':bb<w1.heap.size:=by omega
      have f10:=(KeepR.of_ext (R:=Any) hx).cell trivial e10;have f20:=(KeepR.of_ext (R:=Any) hx).cell trivial e20;have fx0:=(KeepR.of_ext (R:=Any) hx).cell trivial hx0;have fx1:=(KeepR.of_ext (R:=Any) hx).cell trivial hx1;have fy0:=(KeepR.of_ext (R:=Any) hx).cell trivial hy0;have fy1:=(KeepR.of_ext (R:=Any) hx).cell trivial hy1;clear hz e10 e11 e20 hx0 hx1 hy0 hy1 hl1 hl2 hba hbb hJs hx HC
      rcases Int.lt_trichotomy (cmpA x.1 y.1) 0 with hc|hc|hc
      · have HM:=zh (show jah ps qs=pre++(⟨x.1,x.2,0⟩ :: jah (ps.drop (a+1)) (qs.drop b)) from by rw[hm.out,HDX.out,HDY.out,jhy _ _ hc])
        have HM2:=zh (show jah ps qs=(pre++[(⟨x.1,x.2,0⟩:ME)])++jah (ps.drop (a+1)) (qs.drop b) from by rw[HM.out,List.append_assoc];rfl);obtain⟨fn,tmps,assign,body,hy,hR⟩:=HY.out pre (⟨x.1,x.2,0⟩:ME) w1 w1 hJ1 (Ext.refl _) (by rw[HM.out];simp) (by rw[HM.out];simp);dsimp only[encME] at hy;have HR:=zh hR;clear hR
        gi_wp2
        refine HR.out.mono ?_;rintro e W3 ⟨rfl,hJ3,hk3⟩
        · gi_wp2
          go_roundw
          case rel=>exact⟨(a+1),b,pre++[_],⟨by omega,by omega⟩,by go_num,rfl,HM2,hJ3,hk1.trans hk3⟩
          case measure=>simp[intOf];omega
      · have HM:=zh (show jah ps qs=pre++(⟨x.1,x.2,2⟩ :: jah (ps.drop (a+1)) (qs.drop (b+1))) from by rw[hm.out,HDX.out,HDY.out,jh0 _ _ hc])
        have hc1:¬ cmpA x.1 y.1<0:=by omega
        have hc2:¬ 0<cmpA x.1 y.1:=by omega
        clear hc;have HM2:=zh (show jah ps qs=(pre++[(⟨x.1,x.2,2⟩:ME)])++jah (ps.drop (a+1)) (qs.drop (b+1)) from by rw[HM.out,List.append_assoc];rfl);obtain⟨fn,tmps,assign,body,hy,hR⟩:=HY.out pre (⟨x.1,x.2,2⟩:ME) w1 w1 hJ1 (Ext.refl _) (by rw[HM.out];simp) (by rw[HM.out];simp);dsimp only[encME] at hy;have HR:=zh hR;clear hR
        gi_wp2
        refine HR.out.mono ?_;rintro e W3 ⟨rfl,hJ3,hk3⟩
        · gi_wp2
          go_roundw
          case rel=>exact⟨(a+1),(b+1),pre++[_],⟨by omega,by omega⟩,by go_num,by go_num,HM2,hJ3,hk1.trans hk3⟩
          case measure=>simp[intOf];omega
      have HM:=zh (show jah ps qs=pre++(⟨y.1,y.2,1⟩ :: jah (ps.drop a) (qs.drop (b+1))) from by rw[hm.out,HDX.out,HDY.out,jhz _ _ hc]);have HM2:=zh (show jah ps qs=(pre++[(⟨y.1,y.2,1⟩:ME)])++jah (ps.drop a) (qs.drop (b+1)) from by rw[HM.out,List.append_assoc];rfl);obtain⟨fn,tmps,assign,body,hy,hR⟩:=HY.out pre (⟨y.1,y.2,1⟩:ME) w1 w1 hJ1 (Ext.refl _) (by rw[HM.out];simp) (by rw[HM.out];simp);dsimp only[encME] at hy;have HR:=zh hR;clear hR
      gi_wp2
      refine HR.out.mono ?_;rintro e W3 ⟨rfl,hJ3,hk3⟩
      · gi_wp2
        go_roundw
        case rel=>exact⟨a,(b+1),pre++[_],⟨by omega,by omega⟩,rfl,by go_num,HM2,hJ3,hk1.trans hk3⟩
        case measure=>simp[intOf];omega
    have HM:=zh (show jah ps qs=pre++(⟨x.1,x.2,0⟩ :: jah (ps.drop (a+1)) (qs.drop b)) from by rw[hm.out,HGB.out h2,HDX.out,jg8]);have t3:decide (b<qs.length)=false:=decide_eq_false h2
    have t4:(((b:Nat):Int) == ((qs.length:Nat):Int))=true:=by rw[beq_iff_eq];omega
    have HM2:=zh (show jah ps qs=(pre++[(⟨x.1,x.2,0⟩:ME)])++jah (ps.drop (a+1)) (qs.drop b) from by rw[HM.out,List.append_assoc];rfl);obtain⟨fn,tmps,assign,body,hy,hR⟩:=HY.out pre (⟨x.1,x.2,0⟩:ME) wr wr hJs (Ext.refl _) (by rw[HM.out];simp) (by rw[HM.out];simp);dsimp only[encME] at hy;have HR:=zh hR;clear hR
    gi_wp2
    refine HR.out.mono ?_;rintro e W3 ⟨rfl,hJ3,hk3⟩
    · gi_wp2
      go_roundw
      case rel=>exact⟨(a+1),b,pre++[_],⟨by omega,by omega⟩,by go_num,rfl,HM2,hJ3,hk.trans hk3⟩
      case measure=>simp[intOf];omega
  have t1:decide (a<ps.length)=false:=decide_eq_false h1
  have t2:(((a:Nat):Int) == ((ps.length:Nat):Int))=true:=by rw[beq_iff_eq];omega
  by_cases h2:b<qs.length
  · obtain ⟨bb,offb,y,rfl,hbb,hyk,hys,hty,hy0,hy1⟩:=jdj.at_ (H2.out.imp (fun _ h=>h) hk.2 hk.1) h2
    have HM:=zh (show jah ps qs=pre++(⟨y.1,y.2,1⟩ :: jah (ps.drop a) (qs.drop (b+1))) from by rw[hm.out,HGA.out h1,jbq hyk,jf6]);have t3:decide (b<qs.length)=true:=decide_eq_true h2;have hj0:(0:Int)≤(b:Int):=Int.natCast_nonneg _
    have hj1:(b:Int)<(qs.length:Int):=by omega
    clear hyk hty;have HM2:=zh (show jah ps qs=(pre++[(⟨y.1,y.2,1⟩:ME)])++jah (ps.drop a) (qs.drop (b+1)) from by rw[HM.out,List.append_assoc];rfl);obtain⟨fn,tmps,assign,body,hy,hR⟩:=HY.out pre (⟨y.1,y.2,1⟩:ME) wr wr hJs (Ext.refl _) (by rw[HM.out];simp) (by rw[HM.out];simp);dsimp only[encME] at hy;have HR:=zh hR;clear hR
    gi_wp2
    refine HR.out.mono ?_;rintro e W3 ⟨rfl,hJ3,hk3⟩
    · gi_wp2
      go_roundw
      case rel=>exact⟨a,(b+1),pre++[_],⟨by omega,by omega⟩,rfl,by go_num,HM2,hJ3,hk.trans hk3⟩
      case measure=>simp[intOf];omega
  have HM:=zh (show jah ps qs=pre from by rw[hm.out,HGA.out h1,HGB.out h2,ji1,List.append_nil]);have t3:decide (b<qs.length)=false:=decide_eq_false h2
  gi_wp2
  go_end0
  exact⟨⟨_,rfl⟩,_,HM.out.symm,hJs⟩
end Go.Proofs.YthdojieomhighaaGreatDoor
namespace Go.Proofs.YthdojieomhighaaGreatDoor
open Go.RowKit Go.ChangeShapes Go.WideShapes Go.Deep
section
variable {H:Type} {enc:TypeId × Value→H} {P:Program} {w:World} {base:Nat} {spare:Nat→Bool} {held:Bool}
theorem ja7 {α:Type} (R:Nat→α→Prop):∀ (n k:Nat),(∀ i,i<n→∃ x,R (k+i) x)→∃ xs:List α,xs.length=n∧∀ (i:Nat) (x:α),xs[i]? = some x→R (k+i) x
 | 0,_,_=>⟨[],rfl,fun i x h=>by simp at h⟩
 | n + 1,k,h=>by
   obtain⟨x,hx⟩:=h 0 (by omega)
   obtain ⟨xs,hl,hr⟩:=ja7 R n (k+1) (fun i hi=>by
    have:=h (i+1) (by omega)
    rwa [show k+(i+1)=k+1+i from by omega] at this)
   refine⟨x :: xs,by simp[hl],fun i y hy=>?_⟩
   cases i with
   | zero=>simp at hy;subst hy;exact hx
   | succ i =>
     have:=hr i y (by simpa using hy)
     rwa [show k+1+i=k+(i+1) from by omega] at this
end
section
variable {H:Type} {enc:TypeId × Value→H} {w:World} {base:Nat} {spare:Nat→Bool} {held:Bool} {fuel:Nat} {v:Value} {x:DataW H × List MemPlace}
end
end Go.Proofs.YthdojieomhighaaGreatDoor
namespace Go.Proofs.YthdojieomhighaaGreatDoor
open Go.RowKit
def RowsE {α:Type} (size:Nat) (E:World→List Value→α→Prop) (w:World) (rows:List Value) (xs:List α):Prop :=
 rows.length=xs.length*size∧∀ (i:Nat) (x:α),xs[i]? = some x→∃ l:List Value,l.length=size∧(∀ (j:Nat) (u:Value),l[j]? = some u→rows[i*size+j]? = some u)∧E w l x
section
variable {α:Type} {size:Nat} {E E':World→List Value→α→Prop} {w w':World} {rows news:List Value} {xs ys:List α}
theorem RowsE.nil:RowsE size E w [] ([]:List α):=⟨by simp,fun i x h=>by simp at h⟩
theorem RowsE.one {l:List Value} {x:α} (hl:l.length=size) (h:E w l x):RowsE size E w l [x] :=
 ⟨by simp[hl],fun i y hy=>by
  cases i with
  | zero=>simp at hy;subst hy;exact⟨l,hl,fun j u hu=>by simpa using hu,h⟩
  | succ i=>simp at hy⟩
theorem RowsE.mono (h:RowsE size E w rows xs) (hE:∀ l x,x∈xs→E w l x→E' w' l x):RowsE size E' w' rows xs :=
 ⟨h.1,fun i x hx=>let ⟨l,h1,h2,h3⟩:=h.2 i x hx;⟨l,h1,h2,hE l x (List.mem_of_getElem? hx) h3⟩⟩
theorem RowsE.append (h:RowsE size E w rows xs) (k:RowsE size E w news ys):RowsE size E w (rows++news) (xs++ys):=by
 refine⟨by rw[List.length_append,List.length_append,h.1,k.1,Nat.add_mul],fun i x hx=>?_⟩
 rcases Nat.lt_or_ge i xs.length with hi|hi
 · rw [List.getElem?_append_left hi] at hx
   obtain⟨l,h1,h2,h3⟩:=h.2 i x hx;refine⟨l,h1,fun j u hu=>?_,h3⟩;have:=h2 j u hu;rw[List.getElem?_append_left (List.getElem?_eq_some_iff.1 this).1];exact this
 rw[List.getElem?_append_right hi] at hx;obtain⟨l,h1,h2,h3⟩:=k.2 _ x hx;refine⟨l,h1,fun j u hu=>?_,h3⟩;have h4:=h2 j u hu
 have h5:i*size+j=rows.length+((i-xs.length)*size+j):=by
  rw[h.1];obtain⟨d,rfl⟩:=Nat.exists_eq_add_of_le hi;rw[Nat.add_sub_cancel_left,Nat.add_mul];omega
 rw[h5,List.getElem?_append_right (Nat.le_add_right _ _),Nat.add_sub_cancel_left];exact h4
theorem RowsE.oneCell (h:RowsE size E w rows xs) (hsz:0<size) (hE:∀ l x,E w l x→∀ u∈l,u.oneCell'=true):∀ u∈rows,u.oneCell'=true:=by
 intro u hu;obtain⟨j,hj,rfl⟩:=List.mem_iff_getElem.1 hu
 have hi:j / size<xs.length:=by
  apply (Nat.div_lt_iff_lt_mul hsz).2
  rw[← h.1];exact hj
 obtain⟨l,h1,h2,h3⟩:=h.2 (j / size) xs[j / size] (List.getElem?_eq_getElem hi)
 have hm:j % size<l.length:=by rw[h1];exact Nat.mod_lt _ hsz
 have h4:=h2 (j % size) l[j % size] (List.getElem?_eq_getElem hm)
 have h5:j / size*size+j % size=j:=by rw[Nat.mul_comm];exact Nat.div_add_mod _ _
 rw[h5,List.getElem?_eq_getElem hj] at h4
 injection h4 with h4
 rw[h4];exact hE l _ h3 _ (List.getElem_mem hm)
theorem jw4 {base:Nat} {e:TypeId} {v:Value} {n:Nat} (h:w.ownsRow base e size v n rows) (k:RowsE size E w rows xs) (hn:n=xs.length):jaa (From base) size E w v xs:=by
 subst hn;obtain⟨h1,⟨rfl,h0⟩|⟨g,cap,cur,rfl,hb,hc,h2,h3,h4,h5⟩⟩:=h
 · have:xs=[]:=List.eq_nil_of_length_eq_zero h0
   subst this;exact jaa.nil_ 0 (Nat.zero_le _) none
 have hblk:Blk w g e cur:=hc;refine⟨_,cap,rfl,h2,h3,fun _=>⟨g,0,rfl,hblk.lt,hb,fun i x hx=>?_⟩⟩;obtain⟨l,k1,k2,k3⟩:=k.2 i x hx;refine⟨l,k1,fun j u hu=>?_,k3⟩;have h6:=k2 j u hu;rw[← h5,List.getElem?_take] at h6
 split at h6
 · rw [hblk.cell,Nat.zero_add]
   simpa using h6
 cases h6
theorem jog (b o j:Nat):(⟨b,o,none⟩:Addr).add j=⟨b,o+j,none⟩:=by unfold Addr.add;split<;>simp_all
theorem jaa.rows_ {S:Nat→Prop} {A:Option Addr} {n c:Nat} (h:jaa S size E w (.slice A n c) xs) (h0:0<n) (hsz:0<size) :
  ∃ (b off:Nat) (rows:List Value),A=some ⟨b,off,none⟩∧b<w.heap.size∧S b∧n=xs.length∧rows.length=n*size∧RowsE size E w rows xs∧∀ j u,rows[j]? = some u→w.cell? ⟨b,off+j,none⟩=some u:=by
 obtain⟨A',c',hv,h1,h2,h3⟩:=h
 injection hv with hA hn hc
 subst hA;subst hn;subst hc;obtain⟨b,off,ha,hb,hs,hcell⟩:=h3 h0
 have key:∀ j,j<xs.length*size→∃ u,w.cell? ⟨b,off+j,none⟩=some u:=by
  intro j hj;have hi:j / size<xs.length:=(Nat.div_lt_iff_lt_mul hsz).2 hj;obtain⟨l,k1,k2,_⟩:=hcell (j / size) xs[j / size] (List.getElem?_eq_getElem hi)
  have hm:j % size<l.length:=by rw[k1];exact Nat.mod_lt _ hsz
  have:=k2 (j % size) l[j % size] (List.getElem?_eq_getElem hm)
  have h5:j / size*size+j % size=j:=by rw[Nat.mul_comm];exact Nat.div_add_mod _ _
  rw[h5] at this;exact⟨_,this⟩
 obtain⟨rows,hl,hr⟩:=ja7 (fun j (u:Value)=>w.cell? ⟨b,off+j,none⟩=some u) (xs.length*size) 0 (fun j hj=>by rw[Nat.zero_add];exact key j hj);refine⟨b,off,rows,ha,hb,hs,rfl,hl,⟨hl,fun i x hx=>?_⟩,fun j u hu=>by have:=hr j u hu;rwa [Nat.zero_add] at this⟩;obtain⟨l,k1,k2,k3⟩:=hcell i x hx;refine⟨l,k1,fun j u hu=>?_,k3⟩
 have hj:j<size:=by rw[← k1];exact (List.getElem?_eq_some_iff.1 hu).1
 have hi:i<xs.length:=(List.getElem?_eq_some_iff.1 hx).1
 have hlt:i*size+j<rows.length:=by
  rw[hl]
  calc i*size+j<i*size+size:=by omega
   _=(i+1)*size:=by rw[Nat.add_mul,Nat.one_mul]
   _≤xs.length*size:=Nat.mul_le_mul_right _ hi
 have h6:=hr (i*size+j) _ (List.getElem?_eq_getElem hlt);rw[Nat.zero_add,k2 j u hu] at h6;rw[List.getElem?_eq_getElem hlt,h6]
end
theorem TermE.oneCell {w:World} (l:List Value) (x:GT) (h:TermE w l x):∀ u∈l,u.oneCell'=true:=by
 obtain⟨rfl,_⟩:=h;intro u hu;simp at hu;rcases hu with rfl|rfl<;>rfl
theorem AtomE.oneCell {S:Nat→Prop} {w:World} (l:List Value) (x:GA) (h:AtomE S w l x):∀ u∈l,u.oneCell'=true:=by
 obtain⟨v,rfl,_,ht⟩:=h;obtain⟨A,c,rfl,_⟩:=jaa.form ht
 intro u hu;simp at hu;rcases hu with rfl|rfl<;>rfl
end Go.Proofs.YthdojieomhighaaGreatDoor
