/- Own texts, joined. -/
import Derived.Test.YthiflhkcpanaaaaGreatDoorDas16
set_option linter.unusedSimpArgs false
set_option linter.unusedVariables false
namespace Go.Proofs.YthiflhkcpanaaaaGreatDoor
open Go.RowKit
structure Still (T:Nat->Prop) (w w':World):Prop where
 os:w'.os=w.os
 tape:w'.tape=w.tape
 output:w'.output=w.output
 size:w.heap.size<=w'.heap.size
 block:∀ i,T i->i<w.heap.size->w'.heap[i]? = w.heap[i]?
theorem Still.refl (T:Nat->Prop) (w:World):Still T w w:=⟨rfl,rfl,rfl,Nat.le_refl _,fun _ _ _=>rfl⟩
theorem Still.t {T:Nat->Prop} {a b c:World} (h:Still T a b) (k:Still T b c):Still T a c :=
 ⟨k.os.trans h.os,k.tape.trans h.tape,k.output.trans h.output,Nat.le_trans h.size k.size,fun i hi hlt=>(k.block i hi (Nat.lt_of_lt_of_le hlt h.size)).trans (h.block i hi hlt)⟩
theorem Still.of_ext {T:Nat->Prop} {a b:World} (h:Ext a b):Still T a b:=⟨h.os,h.tape,h.output,h.size,fun i _ hlt=>h.block i hlt⟩
theorem Still.of_grown {T:Nat->Prop} {a b:World} {row:Option Nat} (h:a.grownBy b row) (hr:∀ i,T i->row≠some i):Still T a b:=⟨h.os,h.tape,h.output,h.size,fun i hi hlt=>h.block i hlt (fun e=>hr i hi e.symm)⟩
theorem Still.of_set {T:Nat->Prop} (a:World) {p:Addr} (hp:¬ T p.block) (u:Value):Still T a (a.setCell p u):=⟨rfl,rfl,rfl,by go_size,fun i hi _=>Below.heap_setCell a p u i (fun e=>hp (e▸hi))⟩
theorem j05:(Tryz.prog.info? 3).map (fun i=>(i.zero,i.size,i.bytes))=some (some (.int .i64 0),1,8):=by kernel_rfl
theorem jfw (facts:List GA) (a:GA) (j:Nat) (n:ByteArray) (s:Nat) (o:Option (Nat × ByteArray)):(jbg facts a j n s o).length<=facts.length+1:=by
 unfold jbg jal;rw[List.length_append];have h:=List.length_filter_le (under facts n s o) (List.range facts.length);rw[List.length_range] at h;split<;>simp<;>omega
set_option maxRecDepth 100000 in
set_option maxHeartbeats 16000000 in
theorem jzc (a : GA) (tv : Value) (r:Nat) (base:Nat) (S T:Nat->Prop) (w:World) (sb mb pb:Nat) (fv rv:Value) (f:Value->Value) (facts:List GA) (rounds:List Nat) (nm:Nat) (pm:ByteArray->Option Nat) (np:Nat)
  (h:ja2 base S T w sb mb pb fv rv f facts rounds (jal facts) nm pm np) (ht:jad S w tv a.args) (hn:a.n.size<=maxLen) (hl:a.args.length<=1000) (hw:wAtom a<=4194304) (hfl:facts.length<=1000) (hrl:rounds.length<=1000) (hnm:nm<=10000000) (hnp:np<=100000) :
  Calls Tryz.prog 230 #[.pointer (some ⟨sb,0,none⟩),.agg #[.string a.n,tv],.int .i64 (r:Int)] w fun e w'=>e=.returned (.tuple #[]) /\
   (∃ fv' rv' f' nm' np',ja2 base S T w' sb mb pb fv' rv' f' (facts++[a]) (rounds++[r]) (jal (facts++[a])) nm' (fun x=>if x=strOf (atomL a) then some facts.length else pm x) np'/\nm'<=nm+2000/\np'<=np+1)/\Still T w w':=by
 obtain⟨A,c,rfl,hc1,hc2⟩:=jaa.form ht;obtain⟨i0,hi0,hz0,hz1,hz2⟩:=info_parts jd4;obtain⟨j0,hj0,hy0,hy1,hy2⟩:=info_parts j05;obtain⟨FA,fn,fc,rfl,hfn,hf1,hf2⟩:=h.fa.form2;obtain⟨RA,rn,rc,rfl,hrn,hr1,hr2⟩:=h.ro.form2;obtain rfl:=hfn.o;obtain rfl:=hrn.o;obtain⟨w0,hw0⟩:∃ w0,w0=(w.alloc (.cells #[.string a.n,.slice A a.args.length c] 69)):=⟨_,rfl⟩;have HX0:=zh (show Ext w w0 from by rw[hw0];exact (Ext.refl _).alloc _);have hbx:Blk w0 w.heap.size 69 #[.string a.n,.slice A a.args.length c]:=by rw[hw0];exact Blk.new _ _ _
 have hsz0:w0.heap.size=w.heap.size+1:=by rw[hw0];simp
 obtain⟨T2,hT2⟩:∃ T2:Nat->Prop,T2=fun b=>T b∨b=w.heap.size:=⟨_,rfl⟩
 have HS0:=zh (show ja2 base S T2 w0 sb mb pb (.slice FA facts.length fc) (.slice RA rounds.length rc) f facts rounds (jbg facts a 0) nm pm np from by
  rw[show jbg facts a 0=jal facts from by funext n s o;exact jty _ _ _ _ _,hT2];exact h.more HX0.o (T':=fun b=>b=w.heap.size) (fun b hb=>by subst hb;omega))
 have HSZ0:=zh hsz0;clear hsz0;have HTB:=zh h.tb;have HTT:=zh (show ∀ b,T b->T2 b from fun b hb=>by rw[hT2];exact .inl hb);have HST:=zh h.sub;have HT2:=zh (show T2 w.heap.size from by rw[hT2];exact .inr rfl);have HT:=zh (ht.ext HX0.o);have HTW:=zh ht;have hlo:=h.lo;have HW0:=zh hw0;have q0:=h.blk.cell 0;have ql:=h.blk.lt;have HBX:=zh hbx;have HTL:=zh (show (strOf (atomL a)).size<=maxLen from by rw[jfd];have:=jl7 a;unfold maxLen;omega);clear h ht hfn hrn hw0 hbx hT2
 go_in;go_wp2_with fail
 rw[<- HW0.o];have b0:=HBX.o.cell 0;have b1:=HBX.o.cell 1;have bl:=HBX.o.lt;have s0:=HS0.o.blk.cell 0;have sf0:=HS0.o.blk.frozen 0;have sl:=HS0.o.blk.lt;have hbase:=hlo.2.2.2.2.2.2;have hab:w.heap.size≠sb:=by omega
 have HSW:=zh (fun (W:World) (hW:Ext w0 W)=>And.intro ((HBX.o.ext hW).cell 0) ((HBX.o.ext hW).cell 1));clear q0 ql;refine wp_region_noPanic ?_;refine wp_region_held_drew (S:=(fun w'=>w'.cell? ⟨w.heap.size,0,none⟩=some (.string a.n)/\w'.cell? ⟨w.heap.size,1,none⟩=some (.slice A a.args.length c))) (by kernel_rfl) ?_ (fun hHeld=>?_)
 . (try dsimp only);(first|exact HSW.o _ (Ext.refl w0).drew|exact HSW.o _ ((Ext.refl w0).drew.alloc _)|exact⟨HB2.o.cell 0,HB2.o.cell 1⟩|exact⟨HB3.o.cell 0,HB3.o.cell 1⟩)
 refine tq 0 rfl ?_;(try simp only[Act.put,stz])
 refine tq 1 rfl ?_;(try simp only[Act.put,stz])
 refine tq 2 rfl ?_;(try simp only[Act.put,stz])
 refine tq 3 rfl ?_;(try simp only[Act.put,stz])
 refine tq 5 rfl ?_;(try simp only[Act.put,stz])
 apply twice
 . intro ky1
   refine wpAnyH_ready (rs:=[4,6]) (by kernel_rfl) (by simp) ?_;refine AllReadyH.cons (o:=_) rfl (fun K hK=>?_) ?_
   . go_simp
     refine hK.out _ _ ?_ (fun hNew=>?_)
     . (try dsimp only);(first|exact HSW.o _ (Ext.refl w0).drew|exact HSW.o _ ((Ext.refl w0).drew.alloc _)|exact⟨HB2.o.cell 0,HB2.o.cell 1⟩|exact⟨HB3.o.cell 0,HB3.o.cell 1⟩)
     clear hK K;have hHeld:=hNew;clear hNew;try simp only[Act.put,stz]
     refine rd1 6 rfl (fun K hK=>?_)
     . go_simp
       refine hK.out _ _ ?_ (fun hNew=>?_)
       . (try dsimp only);(first|exact HSW.o _ (Ext.refl w0).drew|exact HSW.o _ ((Ext.refl w0).drew.alloc _)|exact⟨HB2.o.cell 0,HB2.o.cell 1⟩|exact⟨HB3.o.cell 0,HB3.o.cell 1⟩)
       clear hK K;have hHeld:=hNew;clear hNew;try simp only[Act.put,stz]
       revert hHeld;exact ky1
   refine AllReadyH.cons (o:=_) rfl (fun K hK=>?_) ?_
   . go_simp
     refine hK.out _ _ ?_ (fun hNew=>?_)
     . (try dsimp only);(first|exact HSW.o _ (Ext.refl w0).drew|exact HSW.o _ ((Ext.refl w0).drew.alloc _)|exact⟨HB2.o.cell 0,HB2.o.cell 1⟩|exact⟨HB3.o.cell 0,HB3.o.cell 1⟩)
     clear hK K;have hHeld:=hNew;clear hNew;try simp only[Act.put,stz]
     refine rd1 4 rfl (fun K hK=>?_)
     . go_simp
       refine hK.out _ _ ?_ (fun hNew=>?_)
       . (try dsimp only);(first|exact HSW.o _ (Ext.refl w0).drew|exact HSW.o _ ((Ext.refl w0).drew.alloc _)|exact⟨HB2.o.cell 0,HB2.o.cell 1⟩|exact⟨HB3.o.cell 0,HB3.o.cell 1⟩)
       clear hK K;have hHeld:=hNew;clear hNew;try simp only[Act.put,stz]
       revert hHeld;exact ky1
   exact AllReadyH.nil
 clear hHeld;intro hHeld;refine rd1 7 rfl (fun K hK=>?_)
 . refine jde (o := ⟨some 23,_,_,_,_,_⟩) (k:=kAtom) (S:=S) (T:=S) (base:=base) (xs:=facts) (ys:=[a]) (by rfl) (.tmp 20) (.tmp 22) 24 (by rfl) i0 _ 40 Tryz.underlying24 hi0 hz0 hz1 hz2 (by rfl) (by rfl) (HS0.o.fa.drew.alloc _) _ 1 1 (by rfl) (jar.one (k:=kAtom) (x:=a) (by first|exact Blk.drew (Blk.new w0 _ _)|exact Blk.new w0.drew _ _) ⟨_,rfl,hn,HT.o.ext ((Ext.refl _).drew.alloc _)⟩) (fun b hb _=>hb) (fun g hg hT=>(HS0.o.a1 g hg).2.1 (HS0.o.sub g hT)) (maxOf (by omega)) (by omega) (by go_size) ?_
   intro v1 w1 hap;have HS1:=zh (HS0.o.putFact ((Ext.refl w0).drew.alloc _) hap);have HB2:=zh (hap.blk2 (HBX.o.drew.alloc _) (fun e=>(HS0.o.a1 _ e).2.1 HT2.o));have HB3:=zh (HB2.o.far (p:=⟨sb,0,none⟩) hab v1);have HI1:=zh (show Still T w (w1.setCell ⟨sb,0,none⟩ v1) from ((Still.of_ext (HX0.o.t ((Ext.refl w0).drew.alloc _))).t (Still.of_grown hap.grown (fun i hi e=>(HS0.o.a1 i e).2.1 (HTT.o i hi)))).t (Still.of_set _ (fun h=>(HTB.o sb h).2.1 rfl) _));obtain⟨A1,n1,c1,rfl,hn1,hd11,hd12⟩:=hap.own.form2;have hs2:=(HS0.o.blk.drew.alloc _).below hap.below hlo.1;have z0:=hs2.cell 0;have zf:=hs2.frozen 0;have zl:=hs2.lt;clear hap hs2;refine hK.out _ _ ?_ (fun hNew=>?_)
   . (try dsimp only);(first|exact HSW.o _ (Ext.refl w0).drew|exact HSW.o _ ((Ext.refl w0).drew.alloc _)|exact⟨HB2.o.cell 0,HB2.o.cell 1⟩|exact⟨HB3.o.cell 0,HB3.o.cell 1⟩)
   clear hK K hHeld;have hHeld:=hNew;clear hNew;try simp only[Act.put,stz]
   refine tq 8 rfl ?_;(try simp only[Act.put,stz])
   refine tq 9 rfl ?_;(try simp only[Act.put,stz])
   refine rd1 10 rfl (fun K hK=>?_)
   . go_simp
     refine hK.out _ _ ?_ (fun hNew=>?_)
     . (try dsimp only);(first|exact HSW.o _ (Ext.refl w0).drew|exact HSW.o _ ((Ext.refl w0).drew.alloc _)|exact⟨HB2.o.cell 0,HB2.o.cell 1⟩|exact⟨HB3.o.cell 0,HB3.o.cell 1⟩)
     clear hK K hHeld;have hHeld:=hNew;clear hNew;try simp only[Act.put,stz]
     refine dn ?_;clear b0 b1 s0 sf0 z0 zf;have HN1:=zh hn1.o
     generalize w1.setCell ⟨sb,0,none⟩ (.slice A1 n1 c1)=u1 at HS1 HB3 HI1 ⊢
     have s1:=HS1.o.blk.cell 1;have sf1:=HS1.o.blk.frozen 1;have sl1:=HS1.o.blk.lt
     go_wp2_with (first
      | (at_builtin;(refine jeh (k:=kNum) (S:=None) (T:=None) (base:=base) (xs:=rounds) (ys:=[r]) rfl (.tmp 30) (.tmp 32) 149 (by rfl) j0 _ 8 Tryz.underlying149 hj0 hy0 hy1 hy2 (by rfl) (by rfl) (HS1.o.ro.alloc _) _ 1 1 (by rfl) (jar.one (k:=kNum) (x:=r) (l:=[.int .i64 (r:Int)]) (Blk.new _ _ _) rfl) (fun _ h=>h.elim) (maxOf (by omega)) (by omega) (Nat.le_trans HS1.o.lo.2.2.2.2.2.2 (by go_size)) ?_)
         intro v3 w3 hap3;have HS2:=zh (HS1.o.putRound ((Ext.refl u1).alloc _) hap3);have HB4:=zh (show Blk (w3.setCell ⟨sb,1,none⟩ v3) w.heap.size _ _ from (hap3.blk2 (HB3.o.alloc _) (fun e=>(HS1.o.a2 _ e).1 HT2.o)).far (p:=⟨sb,1,none⟩) hab v3);have HI2:=zh (show Still T w (w3.setCell ⟨sb,1,none⟩ v3) from (((HI1.o.t (Still.of_ext ((Ext.refl u1).alloc _))).t (Still.of_grown hap3.grown (fun i hi e=>(HS1.o.a2 i e).1 (HTT.o i hi)))).t (Still.of_set _ (fun h=>(HTB.o sb h).2.1 rfl) _)));obtain⟨A3,n3,c3,rfl,hn3,hd31,hd32⟩:=hap3.own.form2;have hs3:=(HS1.o.blk.alloc _).below hap3.below hlo.1;have y1:=hs3.cell 1;have yf:=hs3.frozen 1;have yl:=hs3.lt;clear hap3 hs3))
     clear s1 sf1 y1 yf
     generalize w3.setCell ⟨sb,1,none⟩ (.slice A3 n3 c3)=u2 at HS2 HB4 HI2 ⊢
     have HTU:=zh (fun (W:World) (hW:Still T w W)=>jad.impL (S':=S) HTW.o (fun _ h _=>h) (fun b hb hlt=>hW.block b (HST.o b hb) hlt) hW.size);have HTE:=zh (fun (W:World) (hW:Ext u2 W)=>jgs a _ W ((HTU.o u2 HI2.o).ext hW) hw);have HSW2:=zh (fun (W:World) (hW:Ext u2 W)=>And.intro ((HS2.o.blk.ext hW).cell 3) (And.intro ((HB4.o.ext hW).cell 0) ((HB4.o.ext hW).cell 1)));have sl2:=HS2.o.blk.lt;have xl2:=HB4.o.lt;have hpb:w.heap.size≠pb:=by omega
     refine wp_region_noPanic ?_;refine wp_region_held_drew (S:=(fun w'=>w'.cell? ⟨sb,3,none⟩=some (.map (some pb))/\w'.cell? ⟨w.heap.size,0,none⟩=some (.string a.n)/\w'.cell? ⟨w.heap.size,1,none⟩=some (.slice A a.args.length c))) (by kernel_rfl) ?_ (fun hHeld=>?_)
     . (try dsimp only);(first|exact HSW2.o _ (Ext.refl u2).drew|exact HSW2.o _ HX5.o|exact⟨HS3.o.blk.cell 3,HB6.o.cell 0,HB6.o.cell 1⟩)
     refine tq 0 rfl ?_;(try simp only[Act.put,stz])
     refine tq 1 rfl ?_;(try simp only[Act.put,stz])
     refine tq 2 rfl ?_;(try simp only[Act.put,stz])
     refine tq 3 rfl ?_;(try simp only[Act.put,stz])
     refine tq 4 rfl ?_;(try simp only[Act.put,stz])
     refine tq 6 rfl ?_;(try simp only[Act.put,stz])
     refine rd1 5 rfl (fun K hK=>?_)
     . go_simp
       go_at_call 234;refine (HTE.o _ (Ext.refl u2).drew).mono ?_;rintro e w5 ⟨rfl,hx5⟩
       have HX5:=zh (show Ext u2 w5 from (Ext.refl u2).drew.t hx5);refine hK.out _ _ ?_ (fun hNew=>?_)
       . (try dsimp only);(first|exact HSW2.o _ (Ext.refl u2).drew|exact HSW2.o _ HX5.o|exact⟨HS3.o.blk.cell 3,HB6.o.cell 0,HB6.o.cell 1⟩)
       clear hK K hHeld;have hHeld:=hNew;clear hNew;try simp only[Act.put,stz]
       refine rd1 7 rfl (fun K hK=>?_)
       . refine jps (o:=⟨none,_,_,_,_,_⟩) (by rfl) (.tmp 39) (.tmp 41) (.tmp 42) (by rfl) pb np pm (by rfl) (HS2.o.pl.ext (HX5.o.block _ HS2.o.pl.lt)) (by omega) (strOf (atomL a)) (by rfl) HTL.o facts.length (by rfl) (by omega) ?_
         intro w6 hmn6 hg6;have HS3:=zh (HS2.o.putPlace HX5.o hg6 hmn6);have HB6:=zh (show Blk w6 w.heap.size _ _ from (hg6.block w.heap.size (HB4.o.ext HX5.o).lt (fun e=>by injection e with e;exact hpb e)).trans (HB4.o.ext HX5.o));have HI6:=zh (show Still T w w6 from (HI2.o.t (Still.of_ext HX5.o)).t (Still.of_grown hg6 (fun i hi e=>(HTB.o i hi).2.2.2 (by injection e with e;exact e.symm))));clear hmn6 hg6;refine hK.out _ _ ?_ (fun hNew=>?_)
         . (try dsimp only);(first|exact HSW2.o _ (Ext.refl u2).drew|exact HSW2.o _ HX5.o|exact⟨HS3.o.blk.cell 3,HB6.o.cell 0,HB6.o.cell 1⟩)
         clear hK K hHeld;have hHeld:=hNew;clear hNew;try simp only[Act.put,stz]
         refine dn ?_;clear sl2 xl2;obtain⟨pm2,hpm2⟩:∃ pm2,pm2=((fun x=>if x=strOf (atomL a) then some facts.length else pm x)):=⟨_,rfl⟩;obtain⟨np2,hnp2⟩:∃ np2,np2=((if (pm (strOf (atomL a))).isSome then np else np+1)):=⟨_,rfl⟩;rw[<- hpm2,<- hnp2] at HS3;have HNP:=zh (show np2<=np+1 from by rw[hnp2];split<;>omega);have HPM:=zh hpm2;clear hpm2 hnp2;have g0:=HB6.o.cell 0;have g1:=HB6.o.cell 1;have g2:=HB6.o.lt;have HGK0:=zh (HS3.o.gr a.n a.args.length none).fresh;have HXM:=zh (show w.heap.size≠mb from by omega);go_wp2_with fail
         have HS6:=zh (HS3.o.more ((Ext.refl w6).alloc (.cells #[.string a.n,.int .i64 (a.args.length:Int),.int .i64 (-1),.string ⟨#[]⟩] 315)) (T':=fun b=>b=w6.heap.size) (fun b hb=>by subst hb;simp));have HK6:=zh (Blk.new w6 315 #[.string a.n,.int .i64 (a.args.length:Int),.int .i64 (-1),.string ⟨#[]⟩]);have HBXu:=zh (HB6.o.alloc (.cells #[.string a.n,.int .i64 (a.args.length:Int),.int .i64 (-1),.string ⟨#[]⟩] 315));have HIu:=zh (HI6.o.t (Still.of_ext ((Ext.refl w6).alloc (.cells #[.string a.n,.int .i64 (a.args.length:Int),.int .i64 (-1),.string ⟨#[]⟩] 315))));have hbk:base<=w6.heap.size:=HS3.o.lo.2.2.2.2.2.2
         generalize w6.alloc (.cells #[.string a.n,.int .i64 (a.args.length:Int),.int .i64 (-1),.string ⟨#[]⟩] 315)=u at HS6 HK6 HBXu HIu ⊢
         generalize w6.heap.size=kb at HS6 HK6 HGK0 hbk ⊢
         obtain⟨T3,hT3⟩:∃ T3:Nat->Prop,T3=fun b=>T2 b∨b=kb:=⟨_,rfl⟩
         have HS:=zh (show ja2 base S T3 u sb mb pb _ _ f (facts++[a]) (rounds++[r]) (jbg facts a 0) nm pm2 np2 from by rw[hT3];exact HS6.o);have HT3:=zh (show ∀ i,T i->T3 i from fun i hi=>by rw[hT3];exact .inl (HTT.o i hi));have HT3X:=zh (show T3 w.heap.size from by rw[hT3];exact .inl HT2.o);have HT32:=zh (show ∀ b,T2 b->T3 b from fun b hb=>by rw[hT3];exact .inl hb);have HKB:=HK6;have HGK:=HGK0;have HJL:=zh (Nat.zero_le a.args.length);obtain⟨kl,hkl⟩:=jvm (n:=a.n) (size:=a.args.length) (o:=none) hn (by omega) (fun x h=>by cases h);have HKL:=zh hkl;clear hT3 hkl g0 g1 g2;obtain⟨G,gn,gc,hG,hgn,hg1,hg2⟩:=(HS.o.gr a.n a.args.length (none)).form2;have HG:=zh hG;have hgl:gn<=facts.length+1:=by rw[hgn.o];exact jfw _ _ _ _ _ _
         have HPL:=zh (jfw facts a (0) a.n a.args.length (none));have HSB:=zh HS.o.blk;have hmb:mb<base:=hlo.2.1;have hsm:sb≠mb:=hlo.2.2.2.1;have hub:=HS.o.lo.2.2.2.2.2.2;have hkl:=HKB.o.lt;have hsl:=HSB.o.lt;have HSW:=zh (show ∀ W,Ext u W->(W.cell? ⟨sb,2,none⟩=some (.map (some mb))/\W.cell? ⟨kb,0,none⟩=some (.string a.n)/\W.cell? ⟨kb,1,none⟩=some (.int .i64 (a.args.length:Int))/\W.cell? ⟨kb,2,none⟩=some (.int .i64 (-1))/\W.cell? ⟨kb,3,none⟩=some (.string ⟨#[]⟩)) from fun W hW=>⟨(HSB.o.ext hW).cell 2,(HKB.o.ext hW).cell 0,(HKB.o.ext hW).cell 1,(HKB.o.ext hW).cell 2,(HKB.o.ext hW).cell 3⟩);clear hG;refine wp_region_noPanic ?_;refine wp_region_held_drew (S:=(fun w'=>w'.cell? ⟨sb,2,none⟩=some (.map (some mb))/\w'.cell? ⟨kb,0,none⟩=some (.string a.n)/\w'.cell? ⟨kb,1,none⟩=some (.int .i64 (a.args.length:Int))/\w'.cell? ⟨kb,2,none⟩=some (.int .i64 (-1))/\w'.cell? ⟨kb,3,none⟩=some (.string ⟨#[]⟩))) (by kernel_rfl) ?_ (fun hHeld=>?_)
         . (try dsimp only);(first|exact HSW.o _ (Ext.refl u).drew|exact HSW.o _ ((Ext.refl u).drew.alloc _)|exact⟨H7B.o.cell 2,H7K.o.cell 0,H7K.o.cell 1,H7K.o.cell 2,H7K.o.cell 3⟩|exact⟨(H7B.o.alloc _).cell 2,(H7K.o.alloc _).cell 0,(H7K.o.alloc _).cell 1,(H7K.o.alloc _).cell 2,(H7K.o.alloc _).cell 3⟩|exact⟨H8B.o.cell 2,H8K.o.cell 0,H8K.o.cell 1,H8K.o.cell 2,H8K.o.cell 3⟩|exact⟨H9B.o.cell 2,H9K.o.cell 0,H9K.o.cell 1,H9K.o.cell 2,H9K.o.cell 3⟩)
         refine tq 0 rfl ?_;(try simp only[Act.put,stz])
         refine tq 1 rfl ?_;(try simp only[Act.put,stz])
         refine tq 2 rfl ?_;(try simp only[Act.put,stz])
         refine tq 3 rfl ?_;(try simp only[Act.put,stz])
         refine tq 4 rfl ?_;(try simp only[Act.put,stz])
         refine tq 5 rfl ?_;(try simp only[Act.put,stz])
         refine rd1 6 rfl (fun K hK=>?_)
         . go_simp
           refine hK.out _ _ ?_ (fun hNew=>?_)
           . (try dsimp only);(first|exact HSW.o _ (Ext.refl u).drew|exact HSW.o _ ((Ext.refl u).drew.alloc _)|exact⟨H7B.o.cell 2,H7K.o.cell 0,H7K.o.cell 1,H7K.o.cell 2,H7K.o.cell 3⟩|exact⟨(H7B.o.alloc _).cell 2,(H7K.o.alloc _).cell 0,(H7K.o.alloc _).cell 1,(H7K.o.alloc _).cell 2,(H7K.o.alloc _).cell 3⟩|exact⟨H8B.o.cell 2,H8K.o.cell 0,H8K.o.cell 1,H8K.o.cell 2,H8K.o.cell 3⟩|exact⟨H9B.o.cell 2,H9K.o.cell 0,H9K.o.cell 1,H9K.o.cell 2,H9K.o.cell 3⟩)
           clear hK K hHeld;have hHeld:=hNew;clear hNew;try simp only[Act.put,stz]
           refine rd1 7 rfl (fun K hK=>?_)
           . refine jog (o:=⟨some 57,_,_,_,_,_⟩) (by rfl) (.tmp 52) (.tmp 53) (by rfl) (by rfl) (HS.o.mp.ext (by first|exact (Ext.refl u).drew|exact (Ext.refl u).drew.alloc _)) (by unfold maxLen;omega) (key:=wk a.n a.args.length (none)) (by rfl) HKL.o ?_
             intro st w7 hg7 hs7 hb7;rw[HG.o];have HB7:=zh hb7;have HG7:=zh hg7;have H7B:=zh (show Blk w7 sb 268 _ from (hg7.block sb (by first|exact HSB.o.drew.lt|exact (HSB.o.drew.alloc _).lt) (fun e=>by injection e with e;omega)).trans (by first|exact HSB.o.drew|exact HSB.o.drew.alloc _));have H7K:=zh (show Blk w7 kb 315 _ from (hg7.block kb (by first|exact HKB.o.drew.lt|exact (HKB.o.drew.alloc _).lt) (fun e=>by injection e with e;omega)).trans (by first|exact HKB.o.drew|exact HKB.o.drew.alloc _));have H7X:=zh (show Blk w7 w.heap.size 69 _ from (hg7.block w.heap.size (by first|exact HBXu.o.drew.lt|exact (HBXu.o.drew.alloc _).lt) (fun e=>by injection e with e;exact HXM.o e)).trans (by first|exact HBXu.o.drew|exact HBXu.o.drew.alloc _));have hmb7:mb<w7.heap.size:=Nat.lt_of_lt_of_le HS.o.mp.lt (by first|exact Nat.le_of_eq hs7.symm|(rw[hs7];simp));simp at hs7;clear hg7 hb7;refine hK.out _ _ ?_ (fun hNew=>?_)
             . (try dsimp only);(first|exact HSW.o _ (Ext.refl u).drew|exact HSW.o _ ((Ext.refl u).drew.alloc _)|exact⟨H7B.o.cell 2,H7K.o.cell 0,H7K.o.cell 1,H7K.o.cell 2,H7K.o.cell 3⟩|exact⟨(H7B.o.alloc _).cell 2,(H7K.o.alloc _).cell 0,(H7K.o.alloc _).cell 1,(H7K.o.alloc _).cell 2,(H7K.o.alloc _).cell 3⟩|exact⟨H8B.o.cell 2,H8K.o.cell 0,H8K.o.cell 1,H8K.o.cell 2,H8K.o.cell 3⟩|exact⟨H9B.o.cell 2,H9K.o.cell 0,H9K.o.cell 1,H9K.o.cell 2,H9K.o.cell 3⟩)
             clear hK K hHeld;have hHeld:=hNew;clear hNew;try simp only[Act.put,stz]
             refine tq 8 rfl ?_;(try simp only[Act.put,stz])
             refine tq 10 rfl ?_;(try simp only[Act.put,stz])
             refine rd1 9 rfl (fun K hK=>?_)
             . refine jde (o:=⟨some 58,_,_,_,_,_⟩) (k:=kNum) (S:=None) (T:=None) (base:=base) (xs:=jbg facts a (0) a.n a.args.length (none)) (ys:=[facts.length]) (by rfl) (.tmp 54) (.tmp 56) 149 (by rfl) j0 _ 8 Tryz.underlying149 hj0 hy0 hy1 hy2 (by rfl) (by rfl)
                (by rw[<- HG.o];first|exact HS.o.group ((Ext.refl u).drew.alloc _) HG7.o (Ext.refl _) _ _ _|exact HS.o.group (Ext.refl u).drew HG7.o ((Ext.refl _).alloc _) _ _ _) _ 1 1 (by rfl)
                (jar.one (k:=kNum) (g:=u.heap.size) (x:=facts.length) (l:=[.int .i64 (facts.length:Int)]) (by first|exact (HG7.o.block u.heap.size (Blk.new u.drew _ _).lt (fun e=>by injection e with e;omega)).trans (Blk.new u.drew _ _)|exact Blk.at_new hs7.symm) rfl) (fun _ h=>h.elim) (fun _ _ h=>h) (maxOf (by have:=HPL.o;omega)) (by have:=HPL.o;omega) (by omega) ?_
               intro v8 w8 hap8;obtain⟨A8,n8,c8,rfl,hn8,hd81,hd82⟩:=hap8.own.form2;have HAP8:=zh hap8;have H8B:=zh (show Blk w8 sb 268 _ from by first|exact H7B.o.below hap8.below hlo.1|exact (H7B.o.alloc _).below hap8.below hlo.1);have H8K:=zh (show Blk w8 kb 315 _ from by first|exact hap8.blk2 H7K.o (fun e=>HGK.o _ (by rw[HG.o];exact e) rfl)|exact hap8.blk2 (H7K.o.alloc _) (fun e=>HGK.o _ (by rw[HG.o];exact e) rfl));obtain⟨w9,hr9,⟨f9,hf91,hf92,hm9⟩,hg9,hs9⟩:=HB7.o w8 (.slice A8 n8 c8) ((hap8.grown.block mb (by first|exact hmb7|exact Nat.lt_of_lt_of_le hmb7 (by simp)) (fun e=>by have:=((HS.o.gr a.n a.args.length (none)).at_ mb (by rw[HG.o];exact e.symm)).1;omega)).trans (by first|rfl|exact Below.heap_alloc _ _ mb hmb7));have HR9:=zh hr9;have HG9:=zh hg9;have H9B:=zh (show Blk w9 sb 268 _ from (hg9.block sb H8B.o.lt (fun e=>by injection e with e;omega)).trans H8B.o);have H9K:=zh (show Blk w9 kb 315 _ from (hg9.block kb H8K.o.lt (fun e=>by injection e with e;omega)).trans H8K.o)
               have HS9:=zh (show ja2 base S T3 w9 sb mb pb _ _ f9 (facts++[a]) (rounds++[r]) (jbg facts a ((0)+1)) _ _ _ from by
                have hu1:jbg facts a ((0)+1) a.n a.args.length (none)=jbg facts a (0) a.n a.args.length (none)++[facts.length]:=by rw[jfu HJL.o,if_pos ⟨rfl,rfl,rfl⟩]
                have hu2:∀ n' s' o',¬ (n'=a.n/\s'=a.args.length/\o'=(none))->jbg facts a ((0)+1) n' s' o'=jbg facts a (0) n' s' o':=fun n' s' o' hne=>by rw[jfu HJL.o,if_neg (fun h=>hne ⟨h.1,h.2.1,h.2.2.trans (rfl).symm⟩)]
                rw[<- HG.o] at hap8
                first
                | exact HS.o.putGroup ((Ext.refl u).drew.alloc _) HG7.o (Ext.refl _) hap8 hg9 hm9 hf91 hf92 hu1 hu2
                | exact HS.o.putGroup (Ext.refl u).drew HG7.o ((Ext.refl _).alloc _) hap8 hg9 hm9 hf91 hf92 hu1 hu2)
               have HI9:=zh (show Still T w w9 from by
                first
                | exact (((HIu.o.t (Still.of_ext ((Ext.refl u).drew.alloc _))).t (Still.of_grown HG7.o (fun i hi e=>(HTB.o i hi).2.2.1 (by injection e with e;exact e.symm)))).t (Still.of_grown hap8.grown (fun i hi e=>(HS.o.a3 _ _ _ i (by rw[HG.o];exact e)).1 (HT3.o i hi)))).t (Still.of_grown hg9 (fun i hi e=>(HTB.o i hi).2.2.1 (by injection e with e;exact e.symm)))
                | exact ((((HIu.o.t (Still.of_ext (Ext.refl u).drew)).t (Still.of_grown HG7.o (fun i hi e=>(HTB.o i hi).2.2.1 (by injection e with e;exact e.symm)))).t (Still.of_ext ((Ext.refl _).alloc _))).t (Still.of_grown hap8.grown (fun i hi e=>(HS.o.a3 _ _ _ i (by rw[HG.o];exact e)).1 (HT3.o i hi)))).t (Still.of_grown hg9 (fun i hi e=>(HTB.o i hi).2.2.1 (by injection e with e;exact e.symm))))
               have HBX9:=zh (show Blk w9 w.heap.size 69 _ from (hg9.block w.heap.size (by first|exact (hap8.blk2 H7X.o (fun e=>(HS.o.a3 _ _ _ _ (by rw[HG.o];exact e)).1 HT3X.o)).lt|exact (hap8.blk2 (H7X.o.alloc _) (fun e=>(HS.o.a3 _ _ _ _ (by rw[HG.o];exact e)).1 HT3X.o)).lt) (fun e=>by injection e with e;exact HXM.o e)).trans (by first|exact hap8.blk2 H7X.o (fun e=>(HS.o.a3 _ _ _ _ (by rw[HG.o];exact e)).1 HT3X.o)|exact hap8.blk2 (H7X.o.alloc _) (fun e=>(HS.o.a3 _ _ _ _ (by rw[HG.o];exact e)).1 HT3X.o)));clear hap8 hr9 hg9 hf91 hf92 hm9;refine hK.out _ _ ?_ (fun hNew=>?_)
               . (try dsimp only);(first|exact HSW.o _ (Ext.refl u).drew|exact HSW.o _ ((Ext.refl u).drew.alloc _)|exact⟨H7B.o.cell 2,H7K.o.cell 0,H7K.o.cell 1,H7K.o.cell 2,H7K.o.cell 3⟩|exact⟨(H7B.o.alloc _).cell 2,(H7K.o.alloc _).cell 0,(H7K.o.alloc _).cell 1,(H7K.o.alloc _).cell 2,(H7K.o.alloc _).cell 3⟩|exact⟨H8B.o.cell 2,H8K.o.cell 0,H8K.o.cell 1,H8K.o.cell 2,H8K.o.cell 3⟩|exact⟨H9B.o.cell 2,H9K.o.cell 0,H9K.o.cell 1,H9K.o.cell 2,H9K.o.cell 3⟩)
               clear hK K hHeld;have hHeld:=hNew;clear hNew;try simp only[Act.put,stz]
               refine rd1 11 rfl (fun K hK=>?_)
               . refine jmj (o:=⟨none,_,_,_,_,_⟩) (by rfl) (.tmp 52) (.tmp 59) (.tmp 58) (by rfl) (by rfl) (by rfl) (by rfl) HR9.o ?_
                 refine hK.out _ _ ?_ (fun hNew=>?_)
                 . (try dsimp only);(first|exact HSW.o _ (Ext.refl u).drew|exact HSW.o _ ((Ext.refl u).drew.alloc _)|exact⟨H7B.o.cell 2,H7K.o.cell 0,H7K.o.cell 1,H7K.o.cell 2,H7K.o.cell 3⟩|exact⟨(H7B.o.alloc _).cell 2,(H7K.o.alloc _).cell 0,(H7K.o.alloc _).cell 1,(H7K.o.alloc _).cell 2,(H7K.o.alloc _).cell 3⟩|exact⟨H8B.o.cell 2,H8K.o.cell 0,H8K.o.cell 1,H8K.o.cell 2,H8K.o.cell 3⟩|exact⟨H9B.o.cell 2,H9K.o.cell 0,H9K.o.cell 1,H9K.o.cell 2,H9K.o.cell 3⟩)
                 clear hK K hHeld;have hHeld:=hNew;clear hNew;try simp only[Act.put,stz]
                 refine dn ?_;have HS10:=zh (HS9.o.less HT32.o (HS2.o.sub));have HBX10:=HBX9;have HI10:=HI9;have g0:=HBX9.o.cell 0;have g1:=HBX9.o.cell 1;have g2:=HBX9.o.lt;clear HS HSB HSW HGK HKL HPL HG HB7 HG7 H7B H7K H7X HAP8 H8B H8K HR9 HG9 H9B H9K HS9 HBX9 HI9 HKB HK6 HBXu HIu;go_wp2_with fail
                 clear g0 g1 g2;go_loopw [63] (fun i wr=>∃ (j:Nat) (fj:Value->Value) (nj:Nat),j<=a.args.length/\i=.int .i64 j/\nj<=nm+1+j/\J1 (ja2 base S T2 wr sb mb pb (.slice A1 n1 c1) (.slice A3 n3 c3) fj (facts++[a]) (rounds++[r]) (jbg facts a (j+1)) nj pm2 np2)/\J1 (Blk wr w.heap.size 69 #[.string a.n,.slice A a.args.length c])/\J1 (Still T w wr)) (fun i _=>a.args.length-(intOf i).toNat)
                 case atStart=>exact⟨0,f9,nm+1,Nat.zero_le _,rfl,by omega,HS10,HBX10,HI10⟩
                 case round =>
                  obtain⟨j,fj,nj,hj,rfl,hnj,hsj,hbj,hij⟩:=hrel;have hjn0:(0:Int)<=(j:Int):=by omega
                  by_cases hlt:j<a.args.length
                  . have hjn1 : (j:Int)<(a.args.length:Int):=by omega
                    obtain⟨bt,ot,t,rfl,hbt,htk,hts,ht0,ht1⟩:=jad.at_ (HTU.o wr hij.o) hlt;have g0:=hbj.o.cell 0;have g1:=hbj.o.cell 1;have g2:=hbj.o.lt;have HKO:=zh (show some (j,t.n)=keyJ a (j+1) from by show some (j,t.n)=some (j,(a.args.getD j ⟨false,jcr⟩).n);rw[List.getD_eq_getElem?_getD,htk];rfl);have HTS:=zh hts;have HGK0:=zh (hsj.o.gr a.n a.args.length (some (j,t.n))).at_;have hbk0:base<=wr.heap.size:=hsj.o.lo.2.2.2.2.2.2;clear htk hts;go_wp2_with fail
                    have hxk:Ext wr ((wr.alloc (.cells #[.bool t.v,.string t.n] 157)).alloc (.cells #[.string a.n,.int .i64 (a.args.length:Int),.int .i64 (j:Int),.string t.n] 315)):=((Ext.refl _).alloc _).alloc _;have HS6:=zh (hsj.o.more hxk (T':=fun b=>b=wr.heap.size+1) (fun b hb=>by subst hb;simp));have HK6:=zh (show Blk ((wr.alloc (.cells #[.bool t.v,.string t.n] 157)).alloc (.cells #[.string a.n,.int .i64 (a.args.length:Int),.int .i64 (j:Int),.string t.n] 315)) (wr.heap.size+1) 315 #[.string a.n,.int .i64 (a.args.length:Int),.int .i64 (j:Int),.string t.n] from Blk.at_new (by simp));have HBXu:=zh (hbj.o.ext hxk);have HIu:=zh (hij.o.t (Still.of_ext hxk));have HGK:=zh (show ∀ g,(fj (wk a.n a.args.length (some (j,t.n)))).ownBlock=some g->g≠wr.heap.size+1 from fun g hg=>by have:=(HGK0.o g hg).2;omega);have hbk:base<=wr.heap.size+1:=by omega
                    clear hxk
                    generalize (wr.alloc (.cells #[.bool t.v,.string t.n] 157)).alloc (.cells #[.string a.n,.int .i64 (a.args.length:Int),.int .i64 (j:Int),.string t.n] 315)=u at HS6 HK6 HBXu HIu ⊢
                    generalize wr.heap.size+1=kb at HS6 HK6 HGK hbk ⊢
                    obtain⟨T3,hT3⟩:∃ T3:Nat->Prop,T3=fun b=>T2 b∨b=kb:=⟨_,rfl⟩
                    have HS:=zh (show ja2 base S T3 u sb mb pb _ _ fj (facts++[a]) (rounds++[r]) (jbg facts a (j+1)) nj pm2 np2 from by rw[hT3];exact HS6.o);have HT3:=zh (show ∀ i,T i->T3 i from fun i hi=>by rw[hT3];exact .inl (HTT.o i hi));have HT3X:=zh (show T3 w.heap.size from by rw[hT3];exact .inl HT2.o);have HT32:=zh (show ∀ b,T2 b->T3 b from fun b hb=>by rw[hT3];exact .inl hb);have HKB:=HK6;have HJL:=zh (show j+1<=a.args.length from hlt);obtain⟨kl,hkl⟩:=jvm (n:=a.n) (size:=a.args.length) (o:=some (j,t.n)) hn (by omega) (fun x h=>by injection h with h;subst h;exact⟨by show j<=_;omega,HTS.o⟩);have HKL:=zh hkl;clear hT3 hkl g0 g1 g2 ht0 ht1;obtain⟨G,gn,gc,hG,hgn,hg1,hg2⟩:=(HS.o.gr a.n a.args.length (some (j,t.n))).form2;have HG:=zh hG;have hgl:gn<=facts.length+1:=by rw[hgn.o];exact jfw _ _ _ _ _ _
                    have HPL:=zh (jfw facts a (j+1) a.n a.args.length (some (j,t.n)));have HSB:=zh HS.o.blk;have hmb:mb<base:=hlo.2.1;have hsm:sb≠mb:=hlo.2.2.2.1;have hub:=HS.o.lo.2.2.2.2.2.2;have hkl:=HKB.o.lt;have hsl:=HSB.o.lt;have HSW:=zh (show ∀ W,Ext u W->(W.cell? ⟨sb,2,none⟩=some (.map (some mb))/\W.cell? ⟨kb,0,none⟩=some (.string a.n)/\W.cell? ⟨kb,1,none⟩=some (.int .i64 (a.args.length:Int))/\W.cell? ⟨kb,2,none⟩=some (.int .i64 (j:Int))/\W.cell? ⟨kb,3,none⟩=some (.string t.n)) from fun W hW=>⟨(HSB.o.ext hW).cell 2,(HKB.o.ext hW).cell 0,(HKB.o.ext hW).cell 1,(HKB.o.ext hW).cell 2,(HKB.o.ext hW).cell 3⟩);clear hG;refine wp_region_noPanic ?_;refine wp_region_held_drew (S:=(fun w'=>w'.cell? ⟨sb,2,none⟩=some (.map (some mb))/\w'.cell? ⟨kb,0,none⟩=some (.string a.n)/\w'.cell? ⟨kb,1,none⟩=some (.int .i64 (a.args.length:Int))/\w'.cell? ⟨kb,2,none⟩=some (.int .i64 (j:Int))/\w'.cell? ⟨kb,3,none⟩=some (.string t.n))) (by kernel_rfl) ?_ (fun hHeld=>?_)
                    . (try dsimp only);(first|exact HSW.o _ (Ext.refl u).drew|exact HSW.o _ ((Ext.refl u).drew.alloc _)|exact⟨H7B.o.cell 2,H7K.o.cell 0,H7K.o.cell 1,H7K.o.cell 2,H7K.o.cell 3⟩|exact⟨(H7B.o.alloc _).cell 2,(H7K.o.alloc _).cell 0,(H7K.o.alloc _).cell 1,(H7K.o.alloc _).cell 2,(H7K.o.alloc _).cell 3⟩|exact⟨H8B.o.cell 2,H8K.o.cell 0,H8K.o.cell 1,H8K.o.cell 2,H8K.o.cell 3⟩|exact⟨H9B.o.cell 2,H9K.o.cell 0,H9K.o.cell 1,H9K.o.cell 2,H9K.o.cell 3⟩)
                    refine tq 0 rfl ?_;(try simp only[Act.put,stz])
                    refine tq 1 rfl ?_;(try simp only[Act.put,stz])
                    refine tq 2 rfl ?_;(try simp only[Act.put,stz])
                    refine tq 3 rfl ?_;(try simp only[Act.put,stz])
                    refine tq 4 rfl ?_;(try simp only[Act.put,stz])
                    refine tq 5 rfl ?_;(try simp only[Act.put,stz])
                    refine rd1 6 rfl (fun K hK=>?_)
                    . go_simp
                      refine hK.out _ _ ?_ (fun hNew=>?_)
                      . (try dsimp only);(first|exact HSW.o _ (Ext.refl u).drew|exact HSW.o _ ((Ext.refl u).drew.alloc _)|exact⟨H7B.o.cell 2,H7K.o.cell 0,H7K.o.cell 1,H7K.o.cell 2,H7K.o.cell 3⟩|exact⟨(H7B.o.alloc _).cell 2,(H7K.o.alloc _).cell 0,(H7K.o.alloc _).cell 1,(H7K.o.alloc _).cell 2,(H7K.o.alloc _).cell 3⟩|exact⟨H8B.o.cell 2,H8K.o.cell 0,H8K.o.cell 1,H8K.o.cell 2,H8K.o.cell 3⟩|exact⟨H9B.o.cell 2,H9K.o.cell 0,H9K.o.cell 1,H9K.o.cell 2,H9K.o.cell 3⟩)
                      clear hK K hHeld;have hHeld:=hNew;clear hNew;try simp only[Act.put,stz]
                      refine rd1 7 rfl (fun K hK=>?_)
                      . refine jog (o:=⟨some 85,_,_,_,_,_⟩) (by rfl) (.tmp 80) (.tmp 81) (by rfl) (by rfl) (HS.o.mp.ext (by first|exact (Ext.refl u).drew|exact (Ext.refl u).drew.alloc _)) (by unfold maxLen;omega) (key:=wk a.n a.args.length (some (j,t.n))) (by rfl) HKL.o ?_
                        intro st w7 hg7 hs7 hb7;rw[HG.o];have HB7:=zh hb7;have HG7:=zh hg7;have H7B:=zh (show Blk w7 sb 268 _ from (hg7.block sb (by first|exact HSB.o.drew.lt|exact (HSB.o.drew.alloc _).lt) (fun e=>by injection e with e;omega)).trans (by first|exact HSB.o.drew|exact HSB.o.drew.alloc _));have H7K:=zh (show Blk w7 kb 315 _ from (hg7.block kb (by first|exact HKB.o.drew.lt|exact (HKB.o.drew.alloc _).lt) (fun e=>by injection e with e;omega)).trans (by first|exact HKB.o.drew|exact HKB.o.drew.alloc _));have H7X:=zh (show Blk w7 w.heap.size 69 _ from (hg7.block w.heap.size (by first|exact HBXu.o.drew.lt|exact (HBXu.o.drew.alloc _).lt) (fun e=>by injection e with e;exact HXM.o e)).trans (by first|exact HBXu.o.drew|exact HBXu.o.drew.alloc _));have hmb7:mb<w7.heap.size:=Nat.lt_of_lt_of_le HS.o.mp.lt (by first|exact Nat.le_of_eq hs7.symm|(rw[hs7];simp));simp at hs7;clear hg7 hb7;refine hK.out _ _ ?_ (fun hNew=>?_)
                        . (try dsimp only);(first|exact HSW.o _ (Ext.refl u).drew|exact HSW.o _ ((Ext.refl u).drew.alloc _)|exact⟨H7B.o.cell 2,H7K.o.cell 0,H7K.o.cell 1,H7K.o.cell 2,H7K.o.cell 3⟩|exact⟨(H7B.o.alloc _).cell 2,(H7K.o.alloc _).cell 0,(H7K.o.alloc _).cell 1,(H7K.o.alloc _).cell 2,(H7K.o.alloc _).cell 3⟩|exact⟨H8B.o.cell 2,H8K.o.cell 0,H8K.o.cell 1,H8K.o.cell 2,H8K.o.cell 3⟩|exact⟨H9B.o.cell 2,H9K.o.cell 0,H9K.o.cell 1,H9K.o.cell 2,H9K.o.cell 3⟩)
                        clear hK K hHeld;have hHeld:=hNew;clear hNew;try simp only[Act.put,stz]
                        refine tq 8 rfl ?_;(try simp only[Act.put,stz])
                        refine tq 10 rfl ?_;(try simp only[Act.put,stz])
                        refine rd1 9 rfl (fun K hK=>?_)
                        . refine jde (o:=⟨some 86,_,_,_,_,_⟩) (k:=kNum) (S:=None) (T:=None) (base:=base) (xs:=jbg facts a (j+1) a.n a.args.length (some (j,t.n))) (ys:=[facts.length]) (by rfl) (.tmp 82) (.tmp 84) 149 (by rfl) j0 _ 8 Tryz.underlying149 hj0 hy0 hy1 hy2 (by rfl) (by rfl)
                           (by rw[<- HG.o];first|exact HS.o.group ((Ext.refl u).drew.alloc _) HG7.o (Ext.refl _) _ _ _|exact HS.o.group (Ext.refl u).drew HG7.o ((Ext.refl _).alloc _) _ _ _) _ 1 1 (by rfl)
                           (jar.one (k:=kNum) (g:=u.heap.size) (x:=facts.length) (l:=[.int .i64 (facts.length:Int)]) (by first|exact (HG7.o.block u.heap.size (Blk.new u.drew _ _).lt (fun e=>by injection e with e;omega)).trans (Blk.new u.drew _ _)|exact Blk.at_new hs7.symm) rfl) (fun _ h=>h.elim) (fun _ _ h=>h) (maxOf (by have:=HPL.o;omega)) (by have:=HPL.o;omega) (by omega) ?_
                          intro v8 w8 hap8;obtain⟨A8,n8,c8,rfl,hn8,hd81,hd82⟩:=hap8.own.form2;have HAP8:=zh hap8;have H8B:=zh (show Blk w8 sb 268 _ from by first|exact H7B.o.below hap8.below hlo.1|exact (H7B.o.alloc _).below hap8.below hlo.1);have H8K:=zh (show Blk w8 kb 315 _ from by first|exact hap8.blk2 H7K.o (fun e=>HGK.o _ (by rw[HG.o];exact e) rfl)|exact hap8.blk2 (H7K.o.alloc _) (fun e=>HGK.o _ (by rw[HG.o];exact e) rfl));obtain⟨w9,hr9,⟨f9,hf91,hf92,hm9⟩,hg9,hs9⟩:=HB7.o w8 (.slice A8 n8 c8) ((hap8.grown.block mb (by first|exact hmb7|exact Nat.lt_of_lt_of_le hmb7 (by simp)) (fun e=>by have:=((HS.o.gr a.n a.args.length (some (j,t.n))).at_ mb (by rw[HG.o];exact e.symm)).1;omega)).trans (by first|rfl|exact Below.heap_alloc _ _ mb hmb7));have HR9:=zh hr9;have HG9:=zh hg9;have H9B:=zh (show Blk w9 sb 268 _ from (hg9.block sb H8B.o.lt (fun e=>by injection e with e;omega)).trans H8B.o);have H9K:=zh (show Blk w9 kb 315 _ from (hg9.block kb H8K.o.lt (fun e=>by injection e with e;omega)).trans H8K.o)
                          have HS9:=zh (show ja2 base S T3 w9 sb mb pb _ _ f9 (facts++[a]) (rounds++[r]) (jbg facts a ((j+1)+1)) _ _ _ from by
                           have hu1:jbg facts a ((j+1)+1) a.n a.args.length (some (j,t.n))=jbg facts a (j+1) a.n a.args.length (some (j,t.n))++[facts.length]:=by rw[jfu HJL.o,if_pos ⟨rfl,rfl,HKO.o⟩]
                           have hu2:∀ n' s' o',¬ (n'=a.n/\s'=a.args.length/\o'=(some (j,t.n)))->jbg facts a ((j+1)+1) n' s' o'=jbg facts a (j+1) n' s' o':=fun n' s' o' hne=>by rw[jfu HJL.o,if_neg (fun h=>hne ⟨h.1,h.2.1,h.2.2.trans (HKO.o).symm⟩)]
                           rw[<- HG.o] at hap8
                           first
                           | exact HS.o.putGroup ((Ext.refl u).drew.alloc _) HG7.o (Ext.refl _) hap8 hg9 hm9 hf91 hf92 hu1 hu2
                           | exact HS.o.putGroup (Ext.refl u).drew HG7.o ((Ext.refl _).alloc _) hap8 hg9 hm9 hf91 hf92 hu1 hu2)
                          have HI9:=zh (show Still T w w9 from by
                           first
                           | exact (((HIu.o.t (Still.of_ext ((Ext.refl u).drew.alloc _))).t (Still.of_grown HG7.o (fun i hi e=>(HTB.o i hi).2.2.1 (by injection e with e;exact e.symm)))).t (Still.of_grown hap8.grown (fun i hi e=>(HS.o.a3 _ _ _ i (by rw[HG.o];exact e)).1 (HT3.o i hi)))).t (Still.of_grown hg9 (fun i hi e=>(HTB.o i hi).2.2.1 (by injection e with e;exact e.symm)))
                           | exact ((((HIu.o.t (Still.of_ext (Ext.refl u).drew)).t (Still.of_grown HG7.o (fun i hi e=>(HTB.o i hi).2.2.1 (by injection e with e;exact e.symm)))).t (Still.of_ext ((Ext.refl _).alloc _))).t (Still.of_grown hap8.grown (fun i hi e=>(HS.o.a3 _ _ _ i (by rw[HG.o];exact e)).1 (HT3.o i hi)))).t (Still.of_grown hg9 (fun i hi e=>(HTB.o i hi).2.2.1 (by injection e with e;exact e.symm))))
                          have HBX9:=zh (show Blk w9 w.heap.size 69 _ from (hg9.block w.heap.size (by first|exact (hap8.blk2 H7X.o (fun e=>(HS.o.a3 _ _ _ _ (by rw[HG.o];exact e)).1 HT3X.o)).lt|exact (hap8.blk2 (H7X.o.alloc _) (fun e=>(HS.o.a3 _ _ _ _ (by rw[HG.o];exact e)).1 HT3X.o)).lt) (fun e=>by injection e with e;exact HXM.o e)).trans (by first|exact hap8.blk2 H7X.o (fun e=>(HS.o.a3 _ _ _ _ (by rw[HG.o];exact e)).1 HT3X.o)|exact hap8.blk2 (H7X.o.alloc _) (fun e=>(HS.o.a3 _ _ _ _ (by rw[HG.o];exact e)).1 HT3X.o)));clear hap8 hr9 hg9 hf91 hf92 hm9;refine hK.out _ _ ?_ (fun hNew=>?_)
                          . (try dsimp only);(first|exact HSW.o _ (Ext.refl u).drew|exact HSW.o _ ((Ext.refl u).drew.alloc _)|exact⟨H7B.o.cell 2,H7K.o.cell 0,H7K.o.cell 1,H7K.o.cell 2,H7K.o.cell 3⟩|exact⟨(H7B.o.alloc _).cell 2,(H7K.o.alloc _).cell 0,(H7K.o.alloc _).cell 1,(H7K.o.alloc _).cell 2,(H7K.o.alloc _).cell 3⟩|exact⟨H8B.o.cell 2,H8K.o.cell 0,H8K.o.cell 1,H8K.o.cell 2,H8K.o.cell 3⟩|exact⟨H9B.o.cell 2,H9K.o.cell 0,H9K.o.cell 1,H9K.o.cell 2,H9K.o.cell 3⟩)
                          clear hK K hHeld;have hHeld:=hNew;clear hNew;try simp only[Act.put,stz]
                          refine rd1 11 rfl (fun K hK=>?_)
                          . refine jmj (o:=⟨none,_,_,_,_,_⟩) (by rfl) (.tmp 80) (.tmp 87) (.tmp 86) (by rfl) (by rfl) (by rfl) (by rfl) HR9.o ?_
                            refine hK.out _ _ ?_ (fun hNew=>?_)
                            . (try dsimp only);(first|exact HSW.o _ (Ext.refl u).drew|exact HSW.o _ ((Ext.refl u).drew.alloc _)|exact⟨H7B.o.cell 2,H7K.o.cell 0,H7K.o.cell 1,H7K.o.cell 2,H7K.o.cell 3⟩|exact⟨(H7B.o.alloc _).cell 2,(H7K.o.alloc _).cell 0,(H7K.o.alloc _).cell 1,(H7K.o.alloc _).cell 2,(H7K.o.alloc _).cell 3⟩|exact⟨H8B.o.cell 2,H8K.o.cell 0,H8K.o.cell 1,H8K.o.cell 2,H8K.o.cell 3⟩|exact⟨H9B.o.cell 2,H9K.o.cell 0,H9K.o.cell 1,H9K.o.cell 2,H9K.o.cell 3⟩)
                            clear hK K hHeld;have hHeld:=hNew;clear hNew;try simp only[Act.put,stz]
                            refine dn ?_;go_wp2;go_roundw
                            case rel=>exact⟨j+1,f9,nj+1,by omega,by go_num,by omega,zh (HS9.o.less HT32.o HS2.o.sub),HBX9,HI9⟩
                            case measure=>simp[intOf];omega
                  have HE:=zh (show jbg facts a (j+1)=jal (facts++[a]) from by
                    funext n s o
                    rw[show j+1=a.args.length+1 from by omega];exact jw0 _ _ _ _ _)
                  go_wp2
                  go_end0
                  have h9:=hsj.o.less (T':=T) HTT.o HST.o;rw[HE.o,HPM.o] at h9;exact⟨rfl,⟨_,_,fj,nj,np2,h9,by omega,HNP.o⟩,hij.o⟩
end Go.Proofs.YthiflhkcpanaaaaGreatDoor
