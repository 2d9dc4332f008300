/- Own texts, joined. -/
import Derived.Test.YthiflhkcpanaaaaGreatDoorDas18
set_option linter.unusedSimpArgs false
set_option linter.unusedVariables false
set_option maxHeartbeats 8000000
set_option maxRecDepth 100000
namespace Go.Proofs.YthiflhkcpanaaaaGreatDoor
open Go.RowKit
def jcg (facts:List GA) (a:GA):Bool:=facts.any fun b=>decide (strOf (atomL a)=strOf (atomL b))
theorem jrx (a:GA) (tv:Value) (w:World) {F P:Nat->Prop} {stb:Nat} {facts:List GA} {rounds:List Nat} {fv rv:Value} {mb pb nm np:Nat} {f:Value->Value} (h:jd7 F w stb facts rounds fv rv mb pb nm np f) (ht:jad P w tv a.args) (hw:wAtom a<=4194304) :
  Calls Tryz.prog 235 #[.pointer (some ⟨stb,0,none⟩),.agg #[.string a.n,tv]] w fun e w'=>e=.returned (.bool (jcg facts a))/\Ext w w':=by
 obtain⟨A,c,rfl,hc1,hc2⟩:=jaa.form ht;have hx:=(Ext.refl w).alloc (.cells #[.string a.n,.slice A a.args.length c] 69);have hbx:=Blk.new w 69 #[.string a.n,.slice A a.args.length c];have hst:=h.ext hx;have HT:=zh (fun (W:World) (hW:Ext (w.alloc (.cells #[.string a.n,.slice A a.args.length c] 69)) W)=>jgs a _ W (ht.ext (hx.t hW)) hw);have hts:(strOf (atomL a)).size<=maxLen:=by rw[jfd];have:=jl7 a;unfold maxLen;omega
 obtain⟨k,hk⟩:∃ k,k=((pmOf facts (strOf (atomL a))).getD 0):=⟨_,rfl⟩;have HR:=zh (show (pmOf facts (strOf (atomL a))).isSome=jcg facts a from jze);have HX:=zh hx;clear hk ht
 go_in;go_wp2_with fail
 generalize w.alloc (.cells #[.string a.n,.slice A a.args.length c] 69)=u at hst hbx HX HT ⊢
 have b0:=hbx.cell 0;have b1:=hbx.cell 1;have bl:=hbx.lt;have s3:=hst.blk.cell 3;have sl:=hst.blk.lt
 have hlk:∀ n:Later u,(Instr.lookup 187 (.map (some pb)) (.string (strOf (atomL a))) true).run Tryz.prog n.at_=.ok (.tuple #[.int .i64 (((pmOf facts (strOf (atomL a))).getD 0:Nat):Int),.bool (jcg facts a)]) n.at_:=fun n=>by
  rw[<- HR.o];exact (hst.pl.ext (n.ext.block _ hst.pl.lt)).look_ok hts
 refine jaw (by kernel_rfl) (by kernel_rfl) ?_;repeat (go_big_quiet_step ((go_at_call 234;exact jbk (HT.o _ (Later.ext _)))))
 refine wpQuiet_nil ?_;rintro w1 ⟨⟨_,hx1⟩,rfl⟩;go_wp2;go_ret;exact⟨rfl,HX.o.t hx1⟩
theorem jml {wa:Array Value} {k:Nat} {b:Bool} (hk:k<12) (e:wa[k]? = some (.bool b)) (w:World):(Instr.index 249 (.agg wa) (.int .i64 (k:Int))).run Tryz.prog w=.ok (.bool b) w:=by
 have h1:(0:Int)<=(k:Int):=by omega
 have h2:(k:Int)<12:=by omega
 simp[Instr.index,asIntOf,run_underlying Tryz.underlying249,part,h1,h2,hk,e,Tryz.isAgg4,Tryz.sizeOf4,Result.andThen]
def jey (S:Sea):Bool:=(List.range 12).all fun i=> !S.wanted.getD i false || !isNo (S.W.at_ i)
theorem jnh {S:Sea} {k:Nat} (hk:k<12) (h1:S.wanted.getD k false=true) (h2:isNo (S.W.at_ k)=true):jey S=false:=by
 unfold jey;exact jbc _ _ k k (List.getElem?_range hk) (by rw[h1,h2];rfl)
theorem jt1 (S:Sea) (sb:Nat) (w:World) (hs:SeaAt w sb S) :
  Calls Tryz.prog 293 #[.pointer (some ⟨sb,0,none⟩)] w fun e w'=>e=.returned (.bool (jey S))/\w'=w:=by
 have t0:=hs.want (c:=0) (by omega);have t1:=hs.want (c:=1) (by omega);have t2:=hs.want (c:=2) (by omega);have t3:=hs.want (c:=3) (by omega);have t4:=hs.want (c:=4) (by omega);have t5:=hs.want (c:=5) (by omega);have t6:=hs.want (c:=6) (by omega);have t7:=hs.want (c:=7) (by omega);have t8:=hs.want (c:=8) (by omega);have t9:=hs.want (c:=9) (by omega);have t10:=hs.want (c:=10) (by omega);have t11:=hs.want (c:=11) (by omega);have sl:=hs.lt;simp only[Nat.reduceAdd] at t0 t1 t2 t3 t4 t5 t6 t7 t8 t9 t10 t11;obtain⟨ws,hws⟩:∃ ws:Nat->Bool,∀ i,S.wanted.getD i false=ws i:=⟨_,fun _=>rfl⟩
 rw[hws] at t0 t1 t2 t3 t4 t5 t6 t7 t8 t9 t10 t11;have HWS:=zh hws;clear hws
 go_in;go_wp2_with fail
 clear t0 t1 t2 t3 t4 t5 t6 t7 t8 t9 t10 t11;obtain⟨wa,hwa⟩:∃ wa:Array Value,wa = #[.bool (ws 0),.bool (ws 1),.bool (ws 2),.bool (ws 3),.bool (ws 4),.bool (ws 5),.bool (ws 6),.bool (ws 7),.bool (ws 8),.bool (ws 9),.bool (ws 10),.bool (ws 11)]:=⟨_,rfl⟩
 have HWA:=zh (show ∀ k,k<12->wa[k]? = some (.bool (ws k)) from fun k hk=>by
  rw[hwa];rcases (by omega:k=0∨k=1∨k=2∨k=3∨k=4∨k=5∨k=6∨k=7∨k=8∨k=9∨k=10∨k=11) with rfl|rfl|rfl|rfl|rfl|rfl|rfl|rfl|rfl|rfl|rfl|rfl<;>rfl)
 have hwz:wa.size=12:=by rw[hwa];rfl
 rw[<- hwa];clear hwa;go_loopw [9] (fun i wr=>∃ k:Nat,k<=12/\i=.int .i64 k/\J1 (∀ j,j<k->(!S.wanted.getD j false || !isNo (S.W.at_ j))=true)/\w=wr) (fun i _=>12-(intOf i).toNat)
 case atStart=>exact⟨0,Nat.zero_le _,rfl,zh (fun j h=>absurd h (Nat.not_lt_zero _)),rfl⟩
 case round =>
  obtain⟨k,hk,rfl,hall,rfl⟩:=hrel;have hk0:(0:Int)<=(k:Int):=by omega
  by_cases hlt:k<12
  . have hk1:(k:Int)<12:=by omega
    have e0:=HWA.o k hlt;have y0:=hs.word hlt;obtain⟨z,hz⟩:=nm (S.W.at_ k);rw[<- hz] at y0;have HZ:=zh hz;clear hz;cases hb:ws k
    . have HN:=zh (show ∀ j,j<k+1->(!S.wanted.getD j false || !isNo (S.W.at_ j))=true from fun j hj=>by
        rcases Nat.lt_or_ge j k with h|h
        . exact hall.o j h
        rw[show j=k from by omega,HWS.o,hb];rfl)
      rw[hb] at e0;have hri:=jml hlt e0 w;clear hb e0;go_wp2;go_roundw
      case rel=>exact⟨k+1,by omega,by go_num,HN,trivial⟩
      case measure=>simp[intOf];omega
    rw[hb] at e0;have hri:=jml hlt e0 w;have HB:=zh hb;clear hb e0;cases hn:isNo z
    . obtain ⟨hn1,hn2⟩:=jg8 hn
      have HN:=zh (show ∀ j,j<k+1->(!S.wanted.getD j false || !isNo (S.W.at_ j))=true from fun j hj=>by
       rcases Nat.lt_or_ge j k with h|h
       . exact hall.o j h
       rw[show j=k from by omega,<- HZ.o,hn];simp)
      clear hn;go_wp2;go_roundw
      case rel=>exact⟨k+1,by omega,by go_num,HN,trivial⟩
      case measure=>simp[intOf];omega
    obtain⟨hn1,hn2⟩:=jio hn;have HF:=zh (jnh hlt (by rw[HWS.o];exact HB.o) (by rw[<- HZ.o];exact hn));clear hn;go_wp2;go_ret;exact⟨by rw[HF.o];rfl,rfl⟩
  have HF:=zh (show jey S=true from by
    unfold jey;exact List.all_eq_true.2 (fun j hj=>hall.o j (by have:=List.mem_range.1 hj;omega)))
  go_wp2;go_ret;exact⟨by rw[HF.o];rfl,rfl⟩
theorem jzf {facts:List GA} {p:GPat} {W:Words} {k:Nat} {sl:GS} (h:p.slots[k]? = some sl) (z:List Nat):(p.slots.take (k+1)).zipIdx.foldl (jb5 facts p W) z=jb5 facts p W ((p.slots.take k).zipIdx.foldl (jb5 facts p W) z) (sl,k):=by
 have hk:(p.slots.take k).length=k:=by rw[List.length_take];have:=(List.getElem?_eq_some_iff.1 h).1;omega
 rw[List.take_add_one,h,List.zipIdx_append,List.foldl_append,hk];simp
theorem jni (p:GPat) (pv:Value) (S:Sea) (sb:Nat) (w:World) {F P:Nat->Prop} {stb:Nat} {facts:List GA} {rounds:List Nat} {fv rv:Value} {mb pb nm np:Nat} {f:Value->Value} (h:jd7 F w stb facts rounds fv rv mb pb nm np f) (hs:SeaAt w sb S) (hp:ja9 P w pv p.slots) (hok:∀ s∈p.slots,jb2 12 s) (hn:p.n.size<=maxLen) (hl:p.slots.length<=1000) (hF:∀ b,F b->b<w.heap.size) :
  Calls Tryz.prog 320 #[.pointer (some ⟨stb,0,none⟩),.agg #[.string p.n,pv],.pointer (some ⟨sb,18,none⟩)] w fun e w'=>(∃ v,e=.returned v/\NumsR F w' v (candP facts p S.W))/\Ext w w':=by
 obtain⟨A,c,rfl,hc1,hc2⟩:=jaa.form hp;obtain⟨w0,hw0⟩:∃ w0,w0=((w.alloc (.cells #[.string p.n,.slice A p.slots.length c] 297)).alloc (.cells #[.string p.n,.int .i64 (p.slots.length:Int),.int .i64 (-1),.string ⟨#[]⟩] 315)):=⟨_,rfl⟩;have HX0:=zh (show Ext w w0 from by rw[hw0];exact ((Ext.refl _).alloc _).alloc _);have hb0:Blk w0 w.heap.size 297 #[.string p.n,.slice A p.slots.length c]:=by rw[hw0];exact (Blk.new _ _ _).alloc _
 have hk0:Blk w0 (w.heap.size+1) 315 #[.string p.n,.int .i64 (p.slots.length:Int),.int .i64 (-1),.string ⟨#[]⟩]:=by rw[hw0];exact Blk.at_new (by simp)
 have HW0:=zh hw0;have HST:=zh (h.ext HX0.o);have HSE:=zh (hs.ext HX0.o);have HP:=zh hp;have HOK:=zh hok;have HB0:=zh hb0;have HK0:=zh hk0;have hsl:=hs.lt;have hstl:=h.blk.lt;clear h hs hp hok hw0 hb0 hk0
 obtain ⟨G0,gn0,gc0,hG0,hgn0,hg01,hg02⟩:=(show ∃ A n c,f (wk p.n p.slots.length none)=.slice A n c/\J1 (n=(jal facts p.n p.slots.length none).length)/\n<=c/\c<=9223372036854775807 from by
  obtain⟨A,c,h1,h2,h3⟩:=jaa.form (HST.o.gr p.n p.slots.length none);exact⟨A,_,c,h1,zh rfl,h2,h3⟩)
 obtain⟨kl0,hkl0⟩:=jvm (n:=p.n) (size:=p.slots.length) (o:=none) hn (by omega) (fun x h=>by cases h);have HGR0:=zh (show NumsR F w0 (.slice G0 gn0 gc0) (jal facts p.n p.slots.length none) from by rw[<- hG0];exact HST.o.gr _ _ _)
 have HL0:=zh (show ∀ W,Ext w0 W->(Instr.lookup 266 (.map (some mb)) (.agg #[.string p.n,.int .i64 (p.slots.length:Int),.int .i64 (-1),.string ⟨#[]⟩]) false).run Tryz.prog W=.ok (.slice G0 gn0 gc0) W from fun W hW=>by
  rw[<- hG0];exact (HST.o.mp.ext hW).look hkl0)
 clear hG0 hkl0
 go_in;go_wp2_with fail
 rw[<- HW0.o];have s2:=HST.o.blk.cell 2;have sl2:=HST.o.blk.lt;have q0:=HK0.o.cell 0;have q1:=HK0.o.cell 1;have q2:=HK0.o.cell 2;have q3:=HK0.o.cell 3;have ql:=HK0.o.lt;have hlk:∀ n:Later w0,(Instr.lookup 266 (.map (some mb)) (.agg #[.string p.n,.int .i64 (p.slots.length:Int),.int .i64 (-1),.string ⟨#[]⟩]) false).run Tryz.prog n.at_=.ok (.slice G0 gn0 gc0) n.at_:=fun n=>HL0.o _ n.ext
 refine jaw (by kernel_rfl) (by kernel_rfl) ?_;repeat (go_big_quiet_step (fail))
 refine wpQuiet_nil ?_;rintro w1 ⟨⟨_,hx1⟩,rfl⟩;clear s2 sl2 q0 q1 q2 q3 ql hlk;have r0:=(HB0.o.ext hx1).cell 0;have r1:=(HB0.o.ext hx1).cell 1;have rl:=(HB0.o.ext hx1).lt;have HX1:=zh hx1;go_wp2_with fail
 clear r0 r1 rl;go_loopw [8,28] (fun o i wr=>∃ (k:Nat) (at_:Int) (wd:ByteArray),k<=p.slots.length/\i=.int .i64 k/\J1 (NumsR F wr o ((p.slots.take k).zipIdx.foldl (jb5 facts p S.W) (jal facts p.n p.slots.length none)))/\J1 (Blk wr (w.heap.size+1) 315 #[.string p.n,.int .i64 (p.slots.length:Int),.int .i64 at_,.string wd])/\J1 (jac (fun b=>b=w.heap.size+1) w0 wr)) (fun _ i _=>p.slots.length-(intOf i).toNat)
 case atStart=>exact⟨0,_,_,Nat.zero_le _,rfl,zh (HGR0.o.ext HX1.o),zh (HK0.o.ext HX1.o),zh (jac.of_ext HX1.o)⟩
 case round =>
  obtain⟨k,at_,wd,hk,rfl,ho,hkb,hin⟩:=hrel;have hk0:(0:Int)<=(k:Int):=by omega
  obtain ⟨O,on,oc,rfl,hon,ho1,ho2⟩:=(show ∃ A n c,_=Value.slice A n c/\J1 (n=_)/\n<=c/\c<=9223372036854775807 from by
   obtain⟨A,c,h1,h2,h3⟩:=jaa.form ho.o;exact⟨A,_,c,h1,zh rfl,h2,h3⟩)
  have hinw:=(jac.of_ext (S:=fun b=>b=w.heap.size+1) HX0.o).t hin.o;have hbb:=hin.o.blk HB0.o (fun e=>by omega);have HBB:=zh hbb;have HIW:=zh hinw;have hsz:=hinw.size;by_cases hlt:k<p.slots.length
  . have hk1:(k:Int)<(p.slots.length:Int):=by omega
    obtain⟨bs,os,sl,rfl,hbs,hsk,hss,hs0,hs1⟩:=ja9.at_ HP.o hlt;have c0:=hinw.cell hbs (fun e=>by omega) hs0;have c1:=hinw.cell hbs (fun e=>by omega) hs1;have hbsw:bs<wr.heap.size:=by omega
    have hse:=HSE.o.inside hin.o (fun e=>by omega);obtain⟨z,hz⟩:∃ z,z=(jau S.W sl):=⟨_,rfl⟩;have hzs:z.size<=maxLen:=by rw[hz];exact jkq hse hss
    have HWO:=zh (fun (W:World) (hW:Ext wr W)=>show Calls Tryz.prog 304 #[.pointer (some ⟨sb,18,none⟩),.agg #[.int .i64 sl.num,.string sl.w]] W fun e w'=>e=.returned (.string z)/\Ext W w' from by
     rw[hz];exact jju sl S sb W (hse.ext hW) (HOK.o sl (List.mem_of_getElem? hsk)))
    have HCT:=zh (jzf (facts:=facts) (W:=S.W) hsk (jal facts p.n p.slots.length none));have HZ:=zh hz;clear hsk hz hs0 hs1 hse hinw hbb;cases hzn:isNo z
    . obtain ⟨hz1,hz2⟩:=jg8 hzn
      have HC2:=zh (show (p.slots.take (k+1)).zipIdx.foldl (jb5 facts p S.W) (jal facts p.n p.slots.length none)=if (jal facts p.n p.slots.length (some (k,z))).length<((p.slots.take k).zipIdx.foldl (jb5 facts p S.W) (jal facts p.n p.slots.length none)).length then jal facts p.n p.slots.length (some (k,z)) else (p.slots.take k).zipIdx.foldl (jb5 facts p S.W) (jal facts p.n p.slots.length none) from by
       rw[HCT.o];unfold jb5;simp only;rw[<- HZ.o,hzn];rfl)
      clear hzn;go_wp2_with (go_at_call 304;refine (HWO.o _ ((Ext.refl _).alloc _)).mono ?_;rintro e w5 ⟨rfl,hx5⟩;have HX5:=zh (show Ext wr w5 from ((Ext.refl _).alloc _).t hx5);have k2:=(hkb.o.ext HX5.o).cell 2;have k3:=(hkb.o.ext HX5.o).cell 3;have kf2:=(hkb.o.ext HX5.o).frozen 2;have kf3:=(hkb.o.ext HX5.o).frozen 3;have kl:=(hkb.o.ext HX5.o).lt)
      have hku:Blk ((w5.setCell ⟨w.heap.size+1,2,none⟩ (.int .i64 (k:Int))).setCell ⟨w.heap.size+1,3,none⟩ (.string z)) (w.heap.size+1) 315 #[.string p.n,.int .i64 (p.slots.length:Int),.int .i64 (k:Int),.string z]:=by
       simpa using ((hkb.o.ext HX5.o).set_ 2 (.int .i64 (k:Int))).set_ 3 (.string z)
      have hiu:jac (fun b=>b=w.heap.size+1) w0 ((w5.setCell ⟨w.heap.size+1,2,none⟩ (.int .i64 (k:Int))).setCell ⟨w.heap.size+1,3,none⟩ (.string z)) :=
       (hin.o.t (jac.of_ext HX5.o)).t ((jac.set (S:=fun b=>b=w.heap.size+1) _ ⟨w.heap.size+1,2,none⟩ _ rfl).t (jac.set (S:=fun b=>b=w.heap.size+1) _ ⟨w.heap.size+1,3,none⟩ _ rfl))
      have hou:NumsR F ((w5.setCell ⟨w.heap.size+1,2,none⟩ (.int .i64 (k:Int))).setCell ⟨w.heap.size+1,3,none⟩ (.string z)) (.slice O on oc) _:=ho.o.impL (fun _ h _=>h) (((Agree.of_ext HX5.o).setCell (fun hb=>by have:=hF _ hb;simp only at this;omega) _).setCell (fun hb=>by have:=hF _ hb;simp only at this;omega) _) (by have:=HX5.o.size;go_size);clear k2 k3 kf2 kf3 kl
      generalize (w5.setCell ⟨w.heap.size+1,2,none⟩ (.int .i64 (k:Int))).setCell ⟨w.heap.size+1,3,none⟩ (.string z)=u at hku hiu hou ⊢
      have hstu:=HST.o.inside hiu (fun b hb e=>by have:=hF b hb;omega)
      obtain ⟨G,gn,gc,hG,hgn,hg1,hg2⟩:=(show ∃ A n c,f (wk p.n p.slots.length (some (k,z)))=.slice A n c/\J1 (n=(jal facts p.n p.slots.length (some (k,z))).length)/\n<=c/\c<=9223372036854775807 from by
       obtain⟨A,c,h1,h2,h3⟩:=jaa.form (hstu.gr p.n p.slots.length (some (k,z)));exact⟨A,_,c,h1,zh rfl,h2,h3⟩)
      obtain⟨kl,hkl⟩:=jvm (n:=p.n) (size:=p.slots.length) (o:=some (k,z)) hn (by omega) (fun x h=>by injection h with h;subst h;exact⟨by show k<=_;omega,hzs⟩)
      have hlk:∀ n:Later u,(Instr.lookup 266 (.map (some mb)) (.agg #[.string p.n,.int .i64 (p.slots.length:Int),.int .i64 (k:Int),.string z]) false).run Tryz.prog n.at_=.ok (.slice G gn gc) n.at_:=fun n=>by
       rw[<- hG];exact (hstu.mp.ext n.ext).look hkl
      have HGU:=zh (show NumsR F u (.slice G gn gc) (jal facts p.n p.slots.length (some (k,z))) from by rw[<- hG];exact hstu.gr _ _ _);have s2:=hstu.blk.cell 2;have sl2:=hstu.blk.lt;have q0:=hku.cell 0;have q1:=hku.cell 1;have q2:=hku.cell 2;have q3:=hku.cell 3;have ql:=hku.lt;have HKU:=zh hku;have HIU:=zh hiu;have HOU:=zh hou;clear hG hkl hku hiu hou hstu c0 c1;refine jaw (by kernel_rfl) (by kernel_rfl) ?_;repeat (go_big_quiet_step (fail))
      refine wpQuiet_nil ?_;rintro w6 ⟨⟨_,hx6⟩,rfl⟩;have HX6:=zh hx6;clear s2 sl2 q0 q1 q2 q3 ql hlk;by_cases hlen:gn<on
      . have hlen':(gn:Int)<(on:Int):=by omega
        have HC3:=zh (show (p.slots.take (k+1)).zipIdx.foldl (jb5 facts p S.W) (jal facts p.n p.slots.length none)=jal facts p.n p.slots.length (some (k,z)) from by rw[HC2.o,if_pos (by rw[<- hgn.o,<- hon.o];exact hlen)]);go_wp2;go_roundw
        case rel=>exact⟨k+1,_,_,by omega,by go_num,zh (by rw[HC3.o];exact HGU.o.ext HX6.o),zh (HKU.o.ext HX6.o),zh (HIU.o.t (jac.of_ext HX6.o))⟩
        case measure=>simp[intOf];omega
      have hlen':¬ (gn:Int)<(on:Int):=by omega
      have HC3:=zh (show (p.slots.take (k+1)).zipIdx.foldl (jb5 facts p S.W) (jal facts p.n p.slots.length none)=(p.slots.take k).zipIdx.foldl (jb5 facts p S.W) (jal facts p.n p.slots.length none) from by rw[HC2.o,if_neg (by rw[<- hgn.o,<- hon.o];exact hlen)]);go_wp2;go_roundw
      case rel=>exact⟨k+1,_,_,by omega,by go_num,zh (by rw[HC3.o];exact HOU.o.ext HX6.o),zh (HKU.o.ext HX6.o),zh (HIU.o.t (jac.of_ext HX6.o))⟩
      case measure=>simp[intOf];omega
    obtain⟨hz1,hz2⟩:=jio hzn
    have HC2:=zh (show (p.slots.take (k+1)).zipIdx.foldl (jb5 facts p S.W) (jal facts p.n p.slots.length none)=(p.slots.take k).zipIdx.foldl (jb5 facts p S.W) (jal facts p.n p.slots.length none) from by
     rw[HCT.o];unfold jb5;simp only;rw[<- HZ.o,hzn];rfl)
    clear hzn;go_wp2_with (go_at_call 304;refine (HWO.o _ ((Ext.refl _).alloc _)).mono ?_;rintro e w5 ⟨rfl,hx5⟩;have HX5:=zh (show Ext wr w5 from ((Ext.refl _).alloc _).t hx5))
    go_roundw
    case rel=>exact⟨k+1,_,_,by omega,by go_num,zh (by rw[HC2.o];exact ho.o.ext HX5.o),zh (hkb.o.ext HX5.o),zh (hin.o.t (jac.of_ext HX5.o))⟩
    case measure=>simp[intOf];omega
  have HE:=zh (show p.slots.take k=p.slots from List.take_of_length_le (by omega));have h1:=ho.o;rw[HE.o] at h1;go_wp2;go_ret;exact⟨⟨_,rfl,h1⟩,hin.o.toExt HX0.o (fun i hi=>by omega)⟩
theorem j06 {α:Type} {p:α->Bool} {l:List α} {k:Nat} {x:α} (h:l[k]? = some x):(l.take (k+1)).any p=((l.take k).any p || p x):=by
 rw[List.take_add_one,h,List.any_append];simp
theorem jry (nots:List GPat) (S:Sea) (sb:Nat) (w:World) {F P:Nat->Prop} {stb:Nat} {facts:List GA} {rounds:List Nat} {fv rv:Value} {mb pb nm np:Nat} {f:Value->Value} (h:jd7 F w stb facts rounds fv rv mb pb nm np f) (hs:SeaAt w sb S) (hst:S.st=.pointer (some ⟨stb,0,none⟩)) (hp:PatsR P w S.q1 nots)
  (hok:∀ p∈nots,(∀ s∈p.slots,jb2 12 s)/\p.slots.length<=1000/\wAtom (factP S.W p)<=4194304) :
  Calls Tryz.prog 294 #[.pointer (some ⟨sb,0,none⟩)] w fun e w'=>e=.returned (.bool (nots.any fun p=>jcg facts (factP S.W p)))/\Ext w w':=by
 obtain⟨A,c,hq1,hc1,hc2⟩:=jaa.form hp;have t0:=hs.st;have t2:=hs.q1;rw[hst] at t0;rw[hq1] at t2 hp;have HST:=zh h;have HSE:=zh hs;have HP:=zh hp;have HOK:=zh hok;have sl:=hs.lt;have HT0:=zh t0;clear h hs hp hok hst hq1
 go_in;go_wp2_with fail
 clear t0 t2;go_loopw [11] (fun i wr=>∃ k:Nat,k<=nots.length/\i=.int .i64 k/\J1 (((nots.take k).any fun p=>jcg facts (factP S.W p))=false)/\Ext w wr) (fun i _=>nots.length-(intOf i).toNat)
 case atStart=>exact⟨0,Nat.zero_le _,rfl,zh rfl,Ext.refl _⟩
 case round =>
  obtain⟨k,hk,rfl,hall,hx⟩:=hrel;have hk0:(0:Int)<=(k:Int):=by omega
  by_cases hlt:k<nots.length
  . have hk1:(k:Int)<(nots.length:Int):=by omega
    obtain⟨bp,op,p,vp,rfl,hbp,hpk,hpn,hps,hp0,hp1⟩:=PatsR.at_ HP.o hlt;obtain⟨G,cg,rfl,hcg1,hcg2⟩:=jaa.form hps;have r0:=(hx.cells.1 bp (op+k*2) hbp).trans hp0;have r1:=(hx.cells.1 bp (op+k*2+1) hbp).trans hp1;have hbw:bp<wr.heap.size:=Nat.lt_of_lt_of_le hbp hx.size;obtain⟨ho1,ho2,ho3⟩:=HOK.o p (List.mem_of_getElem? hpk);have HWA:=zh ho3;have HFC:=zh (fun (W:World) (hW:Ext (wr.alloc (.cells #[.string p.n,.slice G p.slots.length cg] 297)) W)=>jrv p _ S sb W (HSE.o.ext (hx.t (((Ext.refl wr).alloc _).t hW))) (hps.ext (hx.t (((Ext.refl wr).alloc _).t hW))) ho1 ho2);have hbx:=Blk.new wr 297 #[.string p.n,.slice G p.slots.length cg]
    have HSW2:=zh (show ∀ W,Ext (wr.alloc (.cells #[.string p.n,.slice G p.slots.length cg] 297)) W->W.cell? ⟨sb,0,none⟩=some (.pointer (some ⟨stb,0,none⟩))/\W.cell? ⟨wr.heap.size,0,none⟩=some (.string p.n)/\W.cell? ⟨wr.heap.size,1,none⟩=some (.slice G p.slots.length cg) from fun W hW =>
     ⟨((hx.t (((Ext.refl wr).alloc _).t hW)).cells.1 sb 0 sl).trans HT0.o,(hbx.ext hW).cell 0,(hbx.ext hW).cell 1⟩)
    have HSW:=zh (show ∀ W,Ext wr W->W=(wr.alloc (.cells #[.string p.n,.slice G p.slots.length cg] 297)).drew->W.cell? ⟨sb,0,none⟩=some (.pointer (some ⟨stb,0,none⟩))/\W.cell? ⟨wr.heap.size,0,none⟩=some (.string p.n)/\W.cell? ⟨wr.heap.size,1,none⟩=some (.slice G p.slots.length cg) from fun W _ e=>by rw[e];exact HSW2.o _ (Ext.refl _).drew);have HPK:=zh hpk;clear hpk hp0 hp1 hps ho1 ho3 hbx;go_wp2_with fail
    refine wp_region_noPanic ?_;refine wp_region_held_drew (S:=(fun w'=>w'.cell? ⟨sb,0,none⟩=some (.pointer (some ⟨stb,0,none⟩))/\w'.cell? ⟨wr.heap.size,0,none⟩=some (.string p.n)/\w'.cell? ⟨wr.heap.size,1,none⟩=some (.slice G p.slots.length cg))) (by kernel_rfl) ?_ (fun hHeld=>?_)
    . (try dsimp only);(first|exact HSW.o _ (((Ext.refl wr).alloc _).drew) rfl|exact HSW2.o _ HX4.o|exact HSW2.o _ HX5.o)
    refine tq 0 rfl ?_;(try simp only[Act.put,stz])
    refine tq 1 rfl ?_;(try simp only[Act.put,stz])
    refine tq 2 rfl ?_;(try simp only[Act.put,stz])
    refine tq 3 rfl ?_;(try simp only[Act.put,stz])
    refine tq 4 rfl ?_;(try simp only[Act.put,stz])
    refine tq 5 rfl ?_;(try simp only[Act.put,stz])
    refine tq 6 rfl ?_;(try simp only[Act.put,stz])
    refine tq 7 rfl ?_;(try simp only[Act.put,stz])
    refine rd1 8 rfl (fun K hK=>?_)
    . go_simp
      go_at_call 278;refine (HFC.o _ (Ext.refl _).drew).mono ?_;rintro e w4 ⟨⟨v4,rfl,hv4⟩,hx4⟩
      have HX4:=zh (show Ext (wr.alloc (.cells #[.string p.n,.slice G p.slots.length cg] 297)) w4 from (Ext.refl _).drew.t hx4);have HV4:=zh hv4;obtain⟨G4,c4,rfl,hg41,hg42⟩:=jaa.form hv4;clear hv4 hx4;refine hK.out _ _ ?_ (fun hNew=>?_)
      . (try dsimp only);(first|exact HSW.o _ (((Ext.refl wr).alloc _).drew) rfl|exact HSW2.o _ HX4.o|exact HSW2.o _ HX5.o)
      clear hK K hHeld;have hHeld:=hNew;clear hNew;try simp only[Act.put,stz]
      refine rd1 9 rfl (fun K hK=>?_)
      . go_simp
        go_at_call 235;refine (jrx (factP S.W p) _ _ (HST.o.ext (hx.t (((Ext.refl wr).alloc _).t HX4.o))) HV4.o HWA.o).mono ?_;rintro e w5 ⟨rfl,hx5⟩
        have HX5:=zh (show Ext (wr.alloc (.cells #[.string p.n,.slice G p.slots.length cg] 297)) w5 from HX4.o.t hx5);refine hK.out _ _ ?_ (fun hNew=>?_)
        . (try dsimp only);(first|exact HSW.o _ (((Ext.refl wr).alloc _).drew) rfl|exact HSW2.o _ HX4.o|exact HSW2.o _ HX5.o)
        clear hK K hHeld;have hHeld:=hNew;clear hNew;try simp only[Act.put,stz]
        refine dn ?_;cases hb:jcg facts (factP S.W p)
        . have HN:=zh (show ((nots.take (k+1)).any fun p=>jcg facts (factP S.W p))=false from by rw[j06 HPK.o,hall.o,hb];rfl)
          clear hb;go_wp2;go_roundw
          case rel=>exact⟨k+1,by omega,by go_num,HN,(hx.alloc _).t HX5.o⟩
          case measure=>simp[intOf];omega
        have HF:=zh (show (nots.any fun p=>jcg facts (factP S.W p))=true from List.any_eq_true.2 ⟨p,List.mem_of_getElem? HPK.o,hb⟩);clear hb;go_wp2;go_ret;exact⟨by rw[HF.o];rfl,(hx.alloc _).t HX5.o⟩
  have HE:=zh (show (nots.any fun p=>jcg facts (factP S.W p))=false from by have:=hall.o;rwa [List.take_of_length_le (by omega)] at this);go_wp2;go_ret;exact⟨by rw[HE.o];rfl,hx⟩
theorem jrz:∀ (l:Fin 16) (k:Fin 4),(bits BinOp.and IntKind.i64 ((l.val:Nat):Int) (wrap64 (2 ^ k.val)) == 0) = !l.val.testBit k.val:=by decide +kernel
theorem j07 {l k:Nat} (hl:l<16) (hk:k<4):(bits BinOp.and IntKind.i64 ((l:Nat):Int) (wrap64 (2 ^ k)) == 0) = !l.testBit k:=jrz ⟨l,hl⟩ ⟨k,hk⟩
theorem NumsR.form2 {S:Nat->Prop} {w:World} {v:Value} {xs:List Nat} (h:NumsR S w v xs):∃ A n c,v=.slice A n c/\J1 (n=xs.length)/\n<=c/\c<=9223372036854775807:=by
 obtain⟨A,c,rfl,h1,h2⟩:=jaa.form h;exact⟨A,_,c,rfl,zh rfl,h1,h2⟩
def chI (o:Option (Nat × List Nat)):Int:=match o with|none=> -1|some x=>(x.1:Int)
def chL (o:Option (Nat × List Nat)):List Nat:=match o with|none=>[]|some x=>x.2
theorem jt2 {E:SE} {left:Nat} {W:Words} {k:Nat} {p:GPat} (h:E.parts[k]? = some p):(E.parts.take (k+1)).zipIdx.foldl (jav E left W) none=jav E left W ((E.parts.take k).zipIdx.foldl (jav E left W) none) (p,k):=by
 have hk:(E.parts.take k).length=k:=by rw[List.length_take];have:=(List.getElem?_eq_some_iff.1 h).1;omega
 rw[List.take_add_one,h,List.zipIdx_append,List.foldl_append,hk];simp
theorem jmm {E:SE} {left:Nat} {W:Words} {x:Nat × List Nat} (ho:E.inOrder=true):∀ (l:List (GPat × Nat)),l.foldl (jav E left W) (some x)=some x
 | []=>rfl
 | y :: l=>by
   have h1:jav E left W (some x) y=some x:=by
    unfold jav;split
    . simp[ho]
    rfl
   rw[List.foldl_cons,h1];exact jmm ho l
theorem jr0 {E:SE} {left:Nat} {W:Words} {k:Nat} {x:Nat × List Nat} (ho:E.inOrder=true) (h:(E.parts.take k).zipIdx.foldl (jav E left W) none=some x):E.choose left W=some x:=by
 unfold SE.choose;have e:E.parts=E.parts.take k++E.parts.drop k:=(List.take_append_drop k _).symm
 conv=>lhs;rw[e]
 rw[List.zipIdx_append,List.foldl_append,h];exact jmm ho _
theorem joh (E:SE) (left:Nat) (S:Sea) (sb:Nat) (w:World) {F P:Nat->Prop} {stb:Nat} {fv rv:Value} {mb pb nm np:Nat} {f:Value->Value} (h:jd7 F w stb E.facts E.rounds fv rv mb pb nm np f) (hs:SeaAt w sb S) (hst:S.st=.pointer (some ⟨stb,0,none⟩)) (hp:PatsR P w S.q0 E.parts)
  (hok:∀ p∈E.parts,(∀ s∈p.slots,jb2 12 s)/\p.slots.length<=1000) (hF:∀ b,F b->b<w.heap.size) (hin:S.inOrd=E.inOrder) (hl:left<16) (hpl:E.parts.length<=4) :
  Calls Tryz.prog 295 #[.pointer (some ⟨sb,0,none⟩),.int .i64 (left:Int)] w fun e w'=>(∃ v,e=.returned (.tuple #[.int .i64 (chI (E.choose left S.W)),v])/\NumsR F w' v (chL (E.choose left S.W)))/\Ext w w':=by
 obtain⟨A,c,hq0,hc1,hc2⟩:=jaa.form hp;have t0:=hs.st;have t1:=hs.q0;have t16:=hs.inOrd;rw[hst] at t0;rw[hq0] at t1 hp;rw[hin] at t16;have HST:=zh h;have HSE:=zh hs;have HP:=zh hp;have HOK:=zh hok;have sl:=hs.lt;have HT0:=zh t0;have HT16:=zh t16;clear h hs hp hok hst hq0 hin t16
 go_in;go_wp2_with fail
 clear t0 t1;go_loopw [6,7,17] (fun b l i wr=>∃ k:Nat,k<=E.parts.length/\i=.int .i64 k/\b=.int .i64 (chI ((E.parts.take k).zipIdx.foldl (jav E left S.W) none))/\J1 (NumsR F wr l (chL ((E.parts.take k).zipIdx.foldl (jav E left S.W) none)))/\Ext w wr/\J1 (E.inOrder=true->(E.parts.take k).zipIdx.foldl (jav E left S.W) none=none)) (fun _ _ i _=>E.parts.length-(intOf i).toNat)
 case atStart=>exact⟨0,Nat.zero_le _,rfl,rfl,zh (ListK.nil (k:=kNum) 0 (Nat.zero_le _) _),Ext.refl _,zh (fun _=>rfl)⟩
 case round =>
  obtain⟨k,hk,rfl,rfl,hnu,hx,hno⟩:=hrel;have hk0:(0:Int)<=(k:Int):=by omega
  by_cases hlt:k<E.parts.length
  . have hk1 : (k:Int)<(E.parts.length:Int):=by omega
    obtain⟨bp,op,p,vp,rfl,hbp,hpk,hpn,hps,hp0,hp1⟩:=PatsR.at_ HP.o hlt;obtain⟨G,cg,rfl,hcg1,hcg2⟩:=jaa.form hps;have r0:=(hx.cells.1 bp (op+k*2) hbp).trans hp0;have r1:=(hx.cells.1 bp (op+k*2+1) hbp).trans hp1;have hbw:bp<wr.heap.size:=Nat.lt_of_lt_of_le hbp hx.size;have hk4:k<4:=by omega
    have hbt:(bits BinOp.and IntKind.i64 ((left:Nat):Int) (wrap64 (2 ^ k)) == 0) = !left.testBit k:=j07 hl hk4;have HCT:=zh (jt2 (E:=E) (left:=left) (W:=S.W) hpk);obtain⟨ho1,ho2⟩:=HOK.o p (List.mem_of_getElem? hpk);have HBT:∃ t,left.testBit k=t:=⟨_,rfl⟩
    obtain⟨t,hbt'⟩:=HBT;rw[hbt'] at hbt;cases t
    . have HS0:=zh (show (E.parts.take (k+1)).zipIdx.foldl (jav E left S.W) none=(E.parts.take k).zipIdx.foldl (jav E left S.W) none from by rw[HCT.o];unfold jav;rw[if_neg (by simp[hbt'])])
      clear ho1 ho2;go_wp2;go_roundw
      case rel=>exact⟨k+1,by omega,by go_num,by rw[HS0.o],zh (by rw[HS0.o];exact hnu.o.ext ((Ext.refl _).alloc _)),hx.alloc _,zh (by rw[HS0.o];exact hno.o)⟩
      case measure=>simp[intOf];omega
    have HCC:=zh (fun (W:World) (hW:Ext (wr.alloc (.cells #[.string p.n,.slice G p.slots.length cg] 297)) W)=>jni p _ S sb W (HST.o.ext (hx.t (((Ext.refl wr).alloc _).t hW))) (HSE.o.ext (hx.t (((Ext.refl wr).alloc _).t hW))) (hps.ext (hx.t (((Ext.refl wr).alloc _).t hW))) ho1 hpn ho2 (fun b hb=>Nat.lt_of_lt_of_le (hF b hb) (hx.t (((Ext.refl wr).alloc _).t hW)).size));have hbx:=Blk.new wr 297 #[.string p.n,.slice G p.slots.length cg]
    have HSW:=zh (show ∀ W,Ext (wr.alloc (.cells #[.string p.n,.slice G p.slots.length cg] 297)) W->W.cell? ⟨sb,0,none⟩=some (.pointer (some ⟨stb,0,none⟩))/\W.cell? ⟨wr.heap.size,0,none⟩=some (.string p.n)/\W.cell? ⟨wr.heap.size,1,none⟩=some (.slice G p.slots.length cg) from fun W hW =>
     ⟨((hx.t (((Ext.refl wr).alloc _).t hW)).cells.1 sb 0 sl).trans HT0.o,(hbx.ext hW).cell 0,(hbx.ext hW).cell 1⟩)
    clear hpk hp0 hp1 hps ho1 ho2 hbx
    generalize (E.parts.take k).zipIdx.foldl (jav E left S.W) none=o at hnu hno HCT ⊢
    have HBI:∃ bi,J1 (chI o=bi):=⟨_,zh rfl⟩
    obtain⟨bi,HBI⟩:=HBI;rw[HBI.o];obtain⟨A7,n7,c7,rfl,hn7,h71,h72⟩:=NumsR.form2 hnu.o;go_wp2_with fail
    refine wp_region_noPanic ?_;refine wp_region_held_drew (S:=(fun w'=>w'.cell? ⟨sb,0,none⟩=some (.pointer (some ⟨stb,0,none⟩))/\w'.cell? ⟨wr.heap.size,0,none⟩=some (.string p.n)/\w'.cell? ⟨wr.heap.size,1,none⟩=some (.slice G p.slots.length cg))) (by kernel_rfl) ?_ (fun hHeld=>?_)
    . (try dsimp only);(first|exact HSW.o _ (Ext.refl _).drew|exact HSW.o _ HX4.o)
    refine tq 0 rfl ?_;(try simp only[Act.put,stz])
    refine tq 1 rfl ?_;(try simp only[Act.put,stz])
    refine tq 2 rfl ?_;(try simp only[Act.put,stz])
    refine tq 3 rfl ?_;(try simp only[Act.put,stz])
    refine tq 4 rfl ?_;(try simp only[Act.put,stz])
    refine tq 5 rfl ?_;(try simp only[Act.put,stz])
    refine tq 6 rfl ?_;(try simp only[Act.put,stz])
    refine tq 7 rfl ?_;(try simp only[Act.put,stz])
    refine rd1 8 rfl (fun K hK=>?_)
    . go_simp
      go_at_call 320;refine (HCC.o _ (Ext.refl _).drew).mono ?_;rintro e w4 ⟨⟨v4,rfl,hv4⟩,hx4⟩
      have HX4:=zh (show Ext (wr.alloc (.cells #[.string p.n,.slice G p.slots.length cg] 297)) w4 from (Ext.refl _).drew.t hx4);obtain⟨G4,n4,c4,rfl,hn4,hg41,hg42⟩:=NumsR.form2 hv4;have HV4:=zh hv4;clear hv4 hx4;refine hK.out _ _ ?_ (fun hNew=>?_)
      . (try dsimp only);(first|exact HSW.o _ (Ext.refl _).drew|exact HSW.o _ HX4.o)
      clear hK K hHeld;have hHeld:=hNew;clear hNew;try simp only[Act.put,stz]
      refine tq 9 rfl ?_;(try simp only[Act.put,stz])
      refine dn ?_;have HXW:=zh (show Ext w w4 from hx.t (((Ext.refl wr).alloc _).t HX4.o));have hb0:(-1:Int)<0:=by decide
      cases o with
      | none =>
        have hbi:bi = -1:=HBI.o.symm;subst hbi;have HS0:=zh (show (E.parts.take (k+1)).zipIdx.foldl (jav E left S.W) none=some (k,candP E.facts p S.W) from by rw[HCT.o];unfold jav;rw[if_pos hbt']);rcases Bool.eq_false_or_eq_true E.inOrder with hin|hin
        . have i16:w4.cell? ⟨sb,16,none⟩=some (.bool true):=by rw[<- hin];exact (HXW.o.cells.1 sb 16 sl).trans HT16.o
          have HE:=zh (jr0 hin HS0.o);clear hin;go_wp2;go_ret2;exact⟨⟨_,by rw[HE.o];rfl,by rw[HE.o];exact HV4.o⟩,HXW.o⟩
        . have i16:w4.cell? ⟨sb,16,none⟩=some (.bool false):=by rw[<- hin];exact (HXW.o.cells.1 sb 16 sl).trans HT16.o
          have HIN:=zh hin;clear hin;go_wp2;go_roundw
          case rel=>exact⟨k+1,by omega,by go_num,by rw[HS0.o];rfl,zh (by rw[HS0.o];exact HV4.o),HXW.o,zh (fun h=>by rw[HIN.o] at h;cases h)⟩
          case measure=>simp[intOf];omega
      | some x =>
        obtain⟨b,l⟩:=x;have hbi:bi=(b:Int):=HBI.o.symm;subst hbi
        have hin:E.inOrder=false:=by
         rcases Bool.eq_false_or_eq_true E.inOrder with hin|hin
         . have:=hno.o hin;cases this
         exact hin
        have i16:w4.cell? ⟨sb,16,none⟩=some (.bool false):=by rw[<- hin];exact (HXW.o.cells.1 sb 16 sl).trans HT16.o
        have HIN:=zh hin;clear hin;have hb1:¬ (b:Int)<0:=by omega
        by_cases hlt4:n4<n7
        . have hlt5:(n4:Int)<(n7:Int):=by omega
          have HS0:=zh (show (E.parts.take (k+1)).zipIdx.foldl (jav E left S.W) none=some (k,candP E.facts p S.W) from by
           rw[HCT.o];unfold jav;rw[if_pos hbt'];show (if E.inOrder=true then _ else if (candP E.facts p S.W).length<l.length then _ else _)=_;rw[if_neg (by rw[HIN.o];decide),if_pos (by have h1:=hn4.o;have h2:=hn7.o;simp only[chL] at h2;omega)])
          clear hlt4;go_wp2;go_roundw
          case rel=>exact⟨k+1,by omega,by go_num,by rw[HS0.o];rfl,zh (by rw[HS0.o];exact HV4.o),HXW.o,zh (fun h=>by rw[HIN.o] at h;cases h)⟩
          case measure=>simp[intOf];omega
        have hlt5:¬ (n4:Int)<(n7:Int):=by omega
        have HS0:=zh (show (E.parts.take (k+1)).zipIdx.foldl (jav E left S.W) none=some (b,l) from by
         rw[HCT.o];unfold jav;rw[if_pos hbt'];show (if E.inOrder=true then _ else if (candP E.facts p S.W).length<l.length then _ else _)=_;rw[if_neg (by rw[HIN.o];decide),if_neg (by have h1:=hn4.o;have h2:=hn7.o;simp only[chL] at h2;omega)])
        clear hlt4;go_wp2;go_roundw
        case rel=>exact⟨k+1,by omega,by go_num,by rw[HS0.o];rfl,zh (by rw[HS0.o];exact hnu.o.ext (((Ext.refl wr).alloc _).t HX4.o)),HXW.o,zh (fun h=>by rw[HIN.o] at h;cases h)⟩
        case measure=>simp[intOf];omega
  have HC:=zh (show (E.parts.take k).zipIdx.foldl (jav E left S.W) none=E.choose left S.W from by rw[List.take_of_length_le (by omega)];rfl);go_wp2;go_ret2;exact⟨⟨_,by rw[HC.o];rfl,by rw[<- HC.o];exact hnu.o⟩,hx⟩
end Go.Proofs.YthiflhkcpanaaaaGreatDoor
