/- Own texts, joined. -/
import Derived.Test.YthiflhkcpanaaaaGreatDoorDas20
set_option linter.unusedSimpArgs false
set_option linter.unusedVariables false
set_option maxHeartbeats 8000000
set_option maxRecDepth 100000
namespace Go.Proofs.YthiflhkcpanaaaaGreatDoor
open Go.RowKit
def HeldV (v:Value) (more b:Bool):Prop:=∃ h,v=.bool h/\(more=true->h=b)
theorem j2d {σ:Type} (H:Hunt) (hH:H.Fit) {g:Nat} {caps:Array Value} {R:σ->World->Prop} {step:σ->Words->σ × Bool} {rank:σ->Nat} {N:Nat} (hT:jzg H g caps R step rank N) :
  ∀ (n left:Nat) (S:Sea) (st:σ) (w:World),Seek H S w->S.tell=.func (.func g) #[] caps->R st w->H.G S.W->left<16->jh9 H.E.parts.length left<n->rank st+(told H.E n left S.W).1.length<=N ->
    Calls Tryz.prog 260 #[.pointer (some ⟨H.sb,0,none⟩),.int .i64 (left:Int)] w fun e w'=>(∃ v,e=.returned (.tuple #[v,.bool (feed step (told H.E n left S.W).1 st).2]) /\
     HeldV v (feed step (told H.E n left S.W).1 st).2 (told H.E n left S.W).2)/\R (feed step (told H.E n left S.W).1 st).1 w'/\(∃ Q,SeaAt w' H.sb Q/\Same S Q)/\jac (fun b=>b=H.sb∨H.M b) w w':=by
 intro n
 induction n with
 | zero=>intro left S st w _ _ _ _ _ h _;exact absurd h (Nat.not_lt_zero _)
 | succ n ih =>
   intro left S st w hsk htl hR hG hl hn hrm;have eg:=hT.go;have hsd:=jr3 hsk.wanted hH.wlen;have HSK:=zh hsk;have HG:=zh hG;have HR:=zh hR;have HN:=zh hn;have HRM:=zh hrm;have HTL:=zh htl;have sl:=hsk.sea.lt;have HIH:=zh ih;have HTT:=zh hT;have HH:=zh hH;clear hsk hG hR hn hrm htl ih hT hH;have HSET:=zh (jt1 S H.sb w HSK.o.sea);rcases Bool.eq_false_or_eq_true (jey S) with hsv|hsv
   . have HSV := zh hsv
     rw[hsv] at hsd;have HSD:=zh hsd;clear hsv hsd;have hhv:=HH.o.text S.W HG.o HSD.o.symm;have HHIN:=zh (jry H.E.nots S H.sb w HSK.o.st HSK.o.sea HSK.o.at_ HSK.o.q1 (HH.o.nots S.W HG.o));rcases Bool.eq_false_or_eq_true (H.E.hindered S.W) with hhd|hhd
     . have HTO:=zh (show told H.E (n+1) left S.W=([],false) from by simp only[told];rw[<- HSD.o,hhd];rfl)
       have HHV:=zh (hhv.trans hhd);clear hhv hhd
       go_in;go_wp2_with (first|(go_at_call 293;refine HSET.o.mono ?_;rintro e w1 ⟨rfl,e1⟩;obtain rfl:w=w1:=e1.symm;rw[HSV.o])|(go_at_call 294;refine HHIN.o.mono ?_;rintro e w1 ⟨rfl,hx1⟩;rw[HHV.o])|fail)
       go_ret2;rw[HTO.o];exact⟨⟨_,rfl,⟨false,rfl,fun _=>rfl⟩⟩,HTT.o.keep _ _ _ HR.o (jac.of_ext hx1),⟨S,HSK.o.sea.ext hx1,Same.refl S⟩,jac.of_ext hx1⟩
     have HNO:=zh (show (H.E.settled S.W && H.E.hindered S.W)=false from by rw[hhd,Bool.and_false]);have HHV:=zh (hhv.trans hhd);clear hhv hhd;by_cases hl0:left=0
     . subst hl0
       have HTO:=zh (show told H.E (n+1) 0 S.W=([S.W],true) from by simp only[told];rw[HNO.o];rfl)
       go_in;go_wp2_with (first|(go_at_call 293;refine HSET.o.mono ?_;rintro e w1 ⟨rfl,e1⟩;obtain rfl:w=w1:=e1.symm;rw[HSV.o])|(go_at_call 294;refine HHIN.o.mono ?_;rintro e w1 ⟨rfl,hx1⟩;rw[HHV.o])|fail)
       have HX1:=zh (show Ext w w1 from by first|exact hx1|exact Ext.refl _);have sl1:H.sb<w1.heap.size:=Nat.lt_of_lt_of_le sl HX1.o.size;have HSK1:=zh (HSK.o.ext HX1.o);have HR1:=zh (HTT.o.keep _ _ _ HR.o (jac.of_ext HX1.o));have HSW:=zh (show ∀ W,Ext w1 W->W.cell? ⟨H.sb,43,none⟩=some (.func (.func g) #[] caps) from fun W hW=>by rw[(HSK1.o.sea.ext hW).tell,HTL.o]);refine wp_region_noPanic ?_;refine wp_region_held_drew (S:=(fun w'=>w'.cell? ⟨H.sb,43,none⟩=some (.func (.func g) #[] caps))) (by kernel_rfl) ?_ (fun hHeld=>?_)
       . (try dsimp only);(first|exact HSW.o _ (Ext.refl _).drew|exact HSW5)
       refine tq 0 rfl ?_;(try simp only[Act.put,stz])
       refine tq 1 rfl ?_;(try simp only[Act.put,stz])
       refine tq 2 rfl ?_;(try simp only[Act.put,stz])
       refine tq 3 rfl ?_;(try simp only[Act.put,stz])
       refine tq 4 rfl ?_;(try simp only[Act.put,stz])
       refine tq 5 rfl ?_;(try simp only[Act.put,stz])
       refine tq 6 rfl ?_;(try simp only[Act.put,stz])
       refine rd1 7 rfl (fun K hK=>?_)
       . go_simp
         go_at_fn g
         refine (HTT.o.told st S _ (HSK1.o.ext (Ext.refl _).drew) (HTT.o.keep _ _ _ HR1.o (jac.of_ext (Ext.refl _).drew)) HG.o (by have h:=HRM.o;rw[HTO.o] at h;exact h)).mono ?_;rintro e w5 ⟨rfl,hr5,hi5⟩;have HR5:=zh hr5;have HI5:=zh (show jac H.M w1 w5 from (jac.of_ext (Ext.refl _).drew).t hi5);have HSW5:w5.cell? ⟨H.sb,43,none⟩=some (.func (.func g) #[] caps):=HI5.o.cell sl1 HH.o.nM (HSW.o _ (Ext.refl _));clear hr5 hi5;refine hK.out _ _ ?_ (fun hNew=>?_)
         . (try dsimp only);(first|exact HSW.o _ (Ext.refl _).drew|exact HSW5)
         clear hK K hHeld;have hHeld:=hNew;clear hNew;try simp only[Act.put,stz]
         refine tq 8 rfl ?_;(try simp only[Act.put,stz])
         refine tq 9 rfl ?_;(try simp only[Act.put,stz])
         refine dn ?_;simp only[List.getElem_toArray,List.getElem_cons_succ,List.getElem_cons_zero,Act.put,List.setIfInBounds_toArray,List.set_cons_zero,List.set_cons_succ];go_wp2;go_ret2;have HF:feed step (told H.E (n+1) 0 S.W).1 st=step st S.W:=by rw[HTO.o];exact jvo _ _ _
         have HY:(told H.E (n+1) 0 S.W).2=true:=by rw[HTO.o]
         rw[HF];exact⟨⟨_,rfl,⟨true,rfl,fun _=>HY.symm⟩⟩,HR5.o,⟨S,HSK1.o.sea.inside HI5.o HH.o.nM,Same.refl S⟩,(jac.of_ext HX1.o).t (HI5.o.sub (fun _ h _=>.inr h))⟩
     have hl1:¬ (left:Int)=0:=by omega
     obtain⟨i0,L,p,hL,hto,hne,hal⟩:=joj (n:=n) HNO.o hl0;have HLL:=zh hL;have HTO:=zh hto;have HNE:=zh hne;have HAL:=zh hal;clear hL hto hne hal hl0;have HCHO:=zh (fun (W:World) (hW:Ext w W)=>joh H.E left S H.sb W (HSK.o.ext hW).st (HSK.o.ext hW).sea HSK.o.at_ (HSK.o.ext hW).q0 HH.o.parts (HSK.o.ext hW).low HSK.o.inOrd hl HH.o.few)
     go_in;go_wp2_with (first|(go_at_call 293;refine HSET.o.mono ?_;rintro e w1 ⟨rfl,e1⟩;obtain rfl:w=w1:=e1.symm;rw[HSV.o])|(go_at_call 294;refine HHIN.o.mono ?_;rintro e w1 ⟨rfl,hx1⟩;rw[HHV.o])|(go_at_call 295;refine (HCHO.o _ (by first|exact hx1|exact Ext.refl _)).mono ?_;rintro e w2 ⟨⟨v2,rfl,hv2⟩,hx2⟩;obtain⟨A2,n2,c2,rfl,hn2,hc21,hc22⟩:=NumsR.form2 hv2)|fail)
     obtain rfl:n2=L.length:=by rw[hn2.o,HLL.o]
     have HX2:=zh (show Ext w w2 from by first|exact hx1.t hx2|exact hx2);have HNU:=zh (show NumsR H.F w2 (.slice A2 L.length c2) L from by have h:=hv2;rw[HLL.o] at h;exact h);have HSK2:=zh (HSK.o.ext HX2.o);have HR2:=zh (HTT.o.keep _ _ _ HR.o (jac.of_ext HX2.o));have HSE:=zh HSD.o.symm;have HR0:=zh (show rank st+(jaf H.E (told H.E n (jaj left i0)) true p S.W L false).1.length<=N from by have h:=HRM.o;rw[HTO.o,HSE.o] at h;exact h);clear hv2 hx2 HCHO HSET HSD
     go_loopw [9,40] (fun h i wr=>∃ (k:Nat) (held:Bool) (sk:σ) (Q:Sea),k<=L.length/\i=.int .i64 k/\h=.bool held/\J1 (Seek H Q wr/\Same S Q/\R sk wr/\jac (fun b=>b=H.sb∨H.M b) w2 wr /\
      feed step (jaf H.E (told H.E n (jaj left i0)) true p S.W L false).1 st=feed step (jaf H.E (told H.E n (jaj left i0)) true p S.W (L.drop k) held).1 sk /\
      (jaf H.E (told H.E n (jaj left i0)) true p S.W L false).2=(jaf H.E (told H.E n (jaj left i0)) true p S.W (L.drop k) held).2/\rank sk+(jaf H.E (told H.E n (jaj left i0)) true p S.W (L.drop k) held).1.length<=N)) (fun _ i _=>L.length-(intOf i).toNat)
     case atStart=>exact⟨0,false,st,S,Nat.zero_le _,rfl,rfl,zh ⟨HSK2.o,Same.refl S,HR2.o,jac.refl _ _,rfl,rfl,HR0.o⟩⟩
     case round =>
      obtain⟨k,held,sk,Q,hk,rfl,rfl,hrl⟩:=hrel;have hk0:(0:Int)<=(k:Int):=by omega
      by_cases hlt:k<L.length
      . have hk1 : (k:Int)<(L.length:Int):=by omega
        have HL0:=zh hlt;obtain⟨hs1,hs2,hs3,hs4,hs5,hs6⟩:=hrl.o;have hFM:∀ b,H.F b->¬ (b=H.sb∨H.M b):=fun b hb h=>h.elim (fun e=>HH.o.nF (e▸hb)) (HH.o.FM b hb)
        obtain⟨hci,hpi,hbi⟩:=HNE.o (fun e=>by rw[e] at hlt;cases hlt);obtain⟨lb,lo,j,rfl,hlb,hj,hjc⟩:=NumsR.at_ (HNU.o.impL (fun _ h _=>h) (fun b hb hlt'=>hs4.block b hlt' (hFM b hb)) hs4.size) hlt;obtain⟨a,ha⟩:=HAL.o j (List.mem_of_getElem? hj);have hjl:j<H.E.facts.length:=(List.getElem?_eq_some_iff.1 ha).1;have hil:i0<H.E.parts.length:=(List.getElem?_eq_some_iff.1 hpi).1;obtain⟨PA,pc,hq0,hpc1,hpc2⟩:=jaa.form hs1.q0;obtain⟨pb,po,p',pv,rfl,hpb,hpp,hpn,hps,hp0,hp1⟩:=PatsR.at_ (hq0▸hs1.q0) hil;obtain rfl:p=p':=Option.some.inj (hpi.symm.trans hpp);obtain⟨FA,fc,hfv,hfc1,hfc2⟩:=jaa.form hs1.st.fa;obtain⟨fb,fo,a',av,rfl,hfb,hfa,hfn,hft,hf0,hf1⟩:=jab.at_ (hfv▸hs1.st.fa) hjl;obtain rfl:a=a':=Option.some.inj (ha.symm.trans hfa);obtain⟨RA,rc,hrv,hrc1,hrc2⟩:=jaa.form hs1.st.ro;obtain⟨rb,ro,rj,rfl,hrb,hrr,hr0⟩:=NumsR.at_ (hrv▸hs1.st.ro) (show j<H.E.rounds.length by rw[HH.o.rounds];exact hjl);have hrg:H.E.rounds.getD j 0=rj:=by rw[List.getD_eq_getElem?_getD,hrr];rfl
        have hrl2:j<H.E.rounds.length:=by rw[HH.o.rounds];exact hjl
        have t0:wr.cell? ⟨H.sb,0,none⟩=some (.pointer (some ⟨H.stb,0,none⟩)):=by rw[hs1.sea.st,hs1.at_]
        have t1:wr.cell? ⟨H.sb,1,none⟩=some (.slice (some ⟨pb,po,none⟩) H.E.parts.length pc):=by rw[hs1.sea.q0,hq0]
        have t42:wr.cell? ⟨H.sb,42,none⟩=some (.int .i64 (S.cnt:Int)):=by rw[hs1.sea.cnt,hs2.cnt]
        have t17:wr.cell? ⟨H.sb,17,none⟩=some (.int .i64 (H.E.ahead:Int)):=by rw[hs1.sea.ahead,hs1.ahead]
        have t16:wr.cell? ⟨H.sb,16,none⟩=some (.bool H.E.inOrder):=by rw[hs1.sea.inOrd,hs1.inOrd]
        have u0:wr.cell? ⟨H.stb,0,none⟩=some (.slice (some ⟨fb,fo,none⟩) H.E.facts.length fc):=by rw[hs1.st.blk.cell 0,hfv];rfl
        have u1:wr.cell? ⟨H.stb,1,none⟩=some (.slice (some ⟨rb,ro,none⟩) H.E.rounds.length rc):=by rw[hs1.st.blk.cell 1,hrv];rfl
        have HS1:=zh hs1;have HS2:=zh hs2;have HS3:=zh hs3;have HS4:=zh hs4;have HS5:=zh hs5;have HS6:=zh hs6;have HPS:=zh hps;have HFT:=zh hft;have HJ:=zh hj;have HA:=zh ha;have HBI:=zh hbi;have HPI:=zh hpi;have hpsz:=hpn;clear hs1 hs2 hs3 hs4 hs5 hs6 hrl hps hft hj ha hfa hpp hbi hpi hrr hq0 hfv hrv hFM;rw[hci];clear hci
        go_upto_region 11 with fail
        go_cut [64] (fun c wx=>c=.bool (H.E.skip j)/\Ext wr wx)
        case first =>
         rcases Bool.eq_false_or_eq_true H.E.inOrder with hio|hio
         . rw [hio] at t16
           by_cases hge:H.E.ahead<=rj
           . have hge1:((H.E.ahead:Int)<=(rj:Int)):=by omega
             have HSK3:=zh (show H.E.skip j=true from by unfold SE.skip;rw[hio,hrg,decide_eq_true hge];rfl);clear hio hge
             go_big_quiet (fail)
             go_wp2
             go_meet
             exact⟨by rw[HSK3.o],Ext.drewN' wr _⟩
           have hge1:¬ ((H.E.ahead:Int)<=(rj:Int)):=by omega
           have HSK3:=zh (show H.E.skip j=false from by unfold SE.skip;rw[hrg,decide_eq_false hge,Bool.and_false]);clear hio hge
           go_big_quiet (fail)
           go_wp2
           go_meet
           exact⟨by rw[HSK3.o],Ext.drewN' wr _⟩
         rw[hio] at t16;have HSK3:=zh (show H.E.skip j=false from by unfold SE.skip;rw[hio,Bool.false_and]);clear hio
         go_big_quiet (fail)
         go_wp2
         go_meet
         exact⟨by rw[HSK3.o],Ext.drewN' wr _⟩
        case rest =>
         obtain⟨rfl,hxc⟩:=hcut;have q0:=(hxc.cells.1 H.sb 0 HS1.o.sea.lt).trans t0;have q1:=(hxc.cells.1 H.sb 1 HS1.o.sea.lt).trans t1;have q42:=(hxc.cells.1 H.sb 42 HS1.o.sea.lt).trans t42;have v0:=(hxc.cells.1 H.stb 0 HS1.o.st.blk.lt).trans u0;have b0:=(hxc.cells.1 pb (po+i0*2) hpb).trans hp0;have b1:=(hxc.cells.1 pb (po+i0*2+1) hpb).trans hp1;have f0:=(hxc.cells.1 fb (fo+j*2) hfb).trans hf0;have f1:=(hxc.cells.1 fb (fo+j*2+1) hfb).trans hf1;have HC1:=zh (HS1.o.ext hxc);have HC3:=zh (HTT.o.keep _ _ _ HS3.o (jac.of_ext hxc));have HC4:=zh (HS4.o.t (jac.of_ext hxc));have HCP:=zh (HPS.o.ext hxc);have HCF:=zh (HFT.o.ext hxc);have sl2:=HC1.o.sea.lt;clear t0 t1 t42 t16 t17 u0 u1 hp0 hp1 hf0 hf1 hr0 hjc HS1 HS3 HS4 HPS HFT hxc;rcases Bool.eq_false_or_eq_true (H.E.skip j) with hsk3|hsk3
         . have HLS:=zh (jr4 (E:=H.E) (rec_:=told H.E n (jaj left i0)) (sd:=true) (p:=p) (W:=S.W) (held:=held) HJ.o hsk3)
           rw[hsk3];clear hsk3;go_wp2;go_roundw
           case rel =>
            have HQ:J1 (_/\_/\_/\_/\_/\_):=zh ⟨HC1.o,HS2.o,HC3.o,HC4.o,HLS.o▸HS5.o,HLS.o▸HS6.o⟩
            first
             | exact⟨k+1,held,sk,Q,by omega,by go_num,rfl,HQ⟩
             | ((repeat apply Exists.intro);exact⟨⟨k+1,held,sk,Q,by omega,by go_num,rfl,HQ⟩,rfl⟩)
           case measure=>simp[intOf];omega
         rw[hsk3];have HK4:=zh hsk3;obtain⟨wq,hwq⟩:∃ x,x=wc:=⟨_,rfl⟩
         subst hwq;clear hsk3;have hi4:i0<4:=Nat.lt_of_lt_of_le hil HH.o.few;have HMT:=zh (fun (W:World) (hW:Ext wq W)=>jrw p a pv av Q H.sb W (HC1.o.sea.ext hW) (HCP.o.ext hW) (HCF.o.ext hW) HH.o.nP HH.o.nF (HH.o.parts p (List.mem_of_getElem? HPI.o)).1 HC1.o.bok);go_wp2_with fail
         go_still_tail 21,(by kernel_rfl)
         change wpList _ _ _ _ _ wq.drew;clear q0 q1 v0 b0 b1 f0 f1
         go_upto_if 91 with (go_at_call 296;refine (HMT.o _ (Ext.refl _).drew).mono ?_;rintro e w4 ⟨rfl,⟨Q4,hq4,hqW,hqm⟩,hin4⟩;rw[HS2.o.W] at hqW hqm ⊢)
         have hcb:Q.cnt<=Q.bd.length:=by rw[HC1.o.sea.lB];exact HC1.o.cnt
         have HIN4:=zh (show jac (fun b=>b=H.sb) wq w4 from (jac.of_ext (Ext.refl _).drew).t hin4);have HQ4:=zh hq4;have HQW:=zh hqW;have HQM:=zh hqm;have HFI:=zh (fun (Q5:Sea) (h5:Same Q4 Q5)=>jvs h5 (by have:=jmo HQM.o hcb HQ4.o.lB;rwa [HS2.o.cnt] at this))
         have HBK:=zh (fun (Q5:Sea) (h5:Same Q4 Q5)=>HS2.o.trans (show Same Q (Q5.back S.cnt) from by
          have:=jr2 (S:=Q) (by rw[HS2.o.W];exact HQM.o) (by rw[HS2.o.W];exact HQW.o) h5 (fun s hs=>by rw[HC1.o.sea.lW];exact (HH.o.parts p (List.mem_of_getElem? HPI.o)).1 s hs) hcb
          rwa [HS2.o.cnt] at this))
         have HSK4:=zh (show Seek H Q4 w4 from HC1.o.move HH.o (HIN4.o.sub (fun _ h _=>.inl h)) HQ4.o HQM.o.same HQM.o.ok (HFI.o Q4 (Same.refl _)).2.1);have HR4:=zh (HTT.o.keep _ _ _ HC3.o HIN4.o);clear hq4 hqW hqm hin4 HMT
         go_cut [9,13,14] (fun h m f wx=>∃ (h2 more:Bool) (s2:σ) (Q2:Sea),h=.bool h2/\m=.bool more/\J1 (SeaAt wx H.sb Q2/\Same S (Q2.back S.cnt)/\(S.cnt<=Q2.cnt/\Q2.cnt<=12/\∀ i,i<Q2.cnt->Q2.bd.getD i 0<12)/\R s2 wx/\jac (fun b=>b=H.sb∨H.M b) w2 wx /\
          (more=false->feed step (jaf H.E (told H.E n (jaj left i0)) true p S.W L false).1 st=(s2,false))/\(more=true->(h2 && true)=true->feed step (jaf H.E (told H.E n (jaj left i0)) true p S.W L false).1 st=(s2,true)/\(jaf H.E (told H.E n (jaj left i0)) true p S.W L false).2=h2)/\(more=true->(h2 && true)=false->feed step (jaf H.E (told H.E n (jaj left i0)) true p S.W L false).1 st=feed step (jaf H.E (told H.E n (jaj left i0)) true p S.W (L.drop (k+1)) h2).1 s2/\(jaf H.E (told H.E n (jaj left i0)) true p S.W L false).2=(jaf H.E (told H.E n (jaj left i0)) true p S.W (L.drop (k+1)) h2).2/\rank s2+(jaf H.E (told H.E n (jaj left i0)) true p S.W (L.drop (k+1)) h2).1.length<=N)))
         case first =>
          rcases Bool.eq_false_or_eq_true (jak p a S.W).2 with hm|hm
          . have HIT:=zh (jvq (E:=H.E) (rec_:=told H.E n (jaj left i0)) (sd:=true) (p:=p) (W:=S.W) (held:=held) (tell:=step) (sk:=sk) HJ.o HK4.o HA.o hm)
            have HRO:=zh (jvr (E:=H.E) (rec_:=told H.E n (jaj left i0)) (sd:=true) (p:=p) (W:=S.W) (held:=held) (tell:=step) (sk:=sk) HTT.o.up HJ.o HK4.o HA.o hm HS6.o.2)
            have HIHC:=zh (HIH.o (jaj left i0) Q4 sk w4 HSK4.o (by rw[HQM.o.same];show Q.tell=_;rw[HS2.o.eq];exact HTL.o) HR4.o (by rw[HQW.o];exact HH.o.keep S.W p j a HG.o (List.mem_of_getElem? HPI.o) HA.o hm) (joi hl hi4)
             (by have h1:=jgh hil HBI.o;have h2:=HN.o;omega) (by rw[HQW.o];exact HRO.o.1))
            rw[HQW.o] at HIHC;rw[hm];clear hm;cases held
            . go_wp2_with (first|(go_at_call 260;rw[jez hl hi4];refine HIHC.o.mono ?_;rintro e w5 ⟨⟨v5,rfl,⟨h5,rfl,hv5⟩⟩,hr5,⟨Q5,hq5,hs5⟩,hi5⟩)|fail)
              go_meet
              exact ⟨h5,_,_,Q5,rfl,rfl,zh ⟨hq5,HBK.o Q5 hs5,HFI.o Q5 hs5,hr5,(HC4.o.t (HIN4.o.sub (fun _ h _=>.inl h))).t hi5,fun h=>HS5.o.trans (HIT.o.1 h),
               fun h1 h2=>by have e:=hv5 h1;rw[e] at h2 ⊢;exact⟨HS5.o.trans (HIT.o.2.1 h1 h2).1,HS6.o.1.trans (HIT.o.2.1 h1 h2).2⟩,fun h1 h2=>by have e:=hv5 h1;rw[e] at h2 ⊢;exact⟨HS5.o.trans (HIT.o.2.2 h1 h2).1,HS6.o.1.trans (HIT.o.2.2 h1 h2).2,HRO.o.2 h2⟩⟩⟩
            go_wp2_with (first|(go_at_call 260;rw[jez hl hi4];refine HIHC.o.mono ?_;rintro e w5 ⟨⟨v5,rfl,⟨h5,rfl,hv5⟩⟩,hr5,⟨Q5,hq5,hs5⟩,hi5⟩)|fail)
            go_meet
            exact ⟨true,_,_,Q5,rfl,rfl,zh ⟨hq5,HBK.o Q5 hs5,HFI.o Q5 hs5,hr5,(HC4.o.t (HIN4.o.sub (fun _ h _=>.inl h))).t hi5,fun h=>HS5.o.trans (HIT.o.1 h),
             fun h1 h2=>⟨HS5.o.trans (HIT.o.2.1 h1 h2).1,HS6.o.1.trans (HIT.o.2.1 h1 h2).2⟩,fun h1 h2=>⟨HS5.o.trans (HIT.o.2.2 h1 h2).1,HS6.o.1.trans (HIT.o.2.2 h1 h2).2,HRO.o.2 h2⟩⟩⟩
          have HMI:=zh (jr7 (E:=H.E) (rec_:=told H.E n (jaj left i0)) (sd:=true) (p:=p) (W:=S.W) (held:=held) (tell:=step) (sk:=sk) HJ.o HK4.o HA.o hm);have HRO:=zh (jr6 (E:=H.E) (rec_:=told H.E n (jaj left i0)) (sd:=true) (p:=p) (W:=S.W) (held:=held) (rank:=rank) (sk:=sk) HJ.o HK4.o HA.o hm HS6.o.2);rw[hm];clear hm;go_wp2
          go_meet
          exact ⟨held,true,sk,Q4,rfl,rfl,zh ⟨HQ4.o,HBK.o Q4 (Same.refl _),HFI.o Q4 (Same.refl _),HR4.o,HC4.o.t (HIN4.o.sub (fun _ h _=>.inl h)),fun h=>Bool.noConfusion h,
           fun _ h=>⟨HS5.o.trans (HMI.o.1 h).1,HS6.o.1.trans (HMI.o.1 h).2⟩,fun _ h=>⟨HS5.o.trans (HMI.o.2 h).1,HS6.o.1.trans (HMI.o.2 h).2,HRO.o h⟩⟩⟩
         case rest =>
          obtain⟨h2,more,s2,Q2,rfl,rfl,hrel2⟩:=hcut;have HUN:=zh (jvn Q2 H.sb S.cnt wc hrel2.o.1 hrel2.o.2.2.1.1 hrel2.o.2.2.1.2.1 hrel2.o.2.2.1.2.2)
          have HEX:=zh (show ∀ w6,SeaAt w6 H.sb (Q2.back S.cnt)->jac (fun b=>b=H.sb) wc w6->R s2 w6/\Same S (Q2.back S.cnt)/\jac (fun b=>b=H.sb∨H.M b) w2 w6/\Seek H (Q2.back S.cnt) w6 from fun w6 h6 hi6=>by
           have hii:jac (fun b=>b=H.sb∨H.M b) w2 w6:=hrel2.o.2.2.2.2.1.t (hi6.sub (fun _ h _=>.inl h));exact⟨HTT.o.keep _ _ _ hrel2.o.2.2.2.1 hi6,hrel2.o.2.1,hii,HSK2.o.same HH.o hii h6 hrel2.o.2.1⟩)
          have HXE:=zh hrel2.o.2.2.2.2.2;clear hrel2;cases more
          . have HF:=zh (show feed step (told H.E (n+1) left S.W).1 st=(s2,false) from by rw[HTO.o,HSE.o];exact HXE.o.1 rfl)
            go_wp2_with (first|(go_at_call 297;refine HUN.o.mono ?_;rintro e w6 ⟨rfl,hq6,hi6⟩)|fail)
            go_ret2;obtain⟨x1,x2,x3,_⟩:=HEX.o w6 hq6 hi6;rw[HF.o];exact⟨⟨_,rfl,⟨h2,rfl,fun h=>by cases h⟩⟩,x1,⟨_,hq6,x2⟩,(jac.of_ext HX2.o).t x3⟩
          cases h2
          . have HG0:=zh (HXE.o.2.2 rfl rfl)
            clear HXE;go_wp2_with (first|(go_at_call 297;refine HUN.o.mono ?_;rintro e w6 ⟨rfl,hq6,hi6⟩)|fail)
            go_roundw
            case rel =>
             obtain⟨x1,x2,x3,x4⟩:=HEX.o w6 hq6 hi6;have HQ:J1 (_/\_/\_/\_/\_/\_):=zh ⟨x4,x2,x1,x3,HG0.o.1,HG0.o.2⟩
             first
              | exact⟨k+1,_,s2,_,by omega,by go_num,rfl,HQ⟩
              | ((repeat apply Exists.intro);exact⟨⟨k+1,_,s2,_,by omega,by go_num,rfl,HQ⟩,rfl⟩)
            case measure=>simp[intOf];omega
          have HF:=zh (show feed step (told H.E (n+1) left S.W).1 st=(s2,true) from by rw[HTO.o,HSE.o];exact (HXE.o.2.1 rfl rfl).1);have HY:=zh (show (told H.E (n+1) left S.W).2=true from by rw[HTO.o,HSE.o];exact (HXE.o.2.1 rfl rfl).2);go_wp2_with (first|(go_at_call 297;refine HUN.o.mono ?_;rintro e w6 ⟨rfl,hq6,hi6⟩)|fail)
          go_ret2;obtain⟨x1,x2,x3,_⟩:=HEX.o w6 hq6 hi6;rw[HF.o];exact⟨⟨_,rfl,⟨true,rfl,fun _=>HY.o.symm⟩⟩,x1,⟨_,hq6,x2⟩,(jac.of_ext HX2.o).t x3⟩
      have hk1:¬ (k:Int)<(L.length:Int):=by omega
      obtain⟨hs1,hs2,hs3,hs4,hs5,hs6⟩:=hrl.o;have e0:L.drop k=[]:=List.drop_eq_nil_of_le (by omega);rw[e0] at hs5 hs6;have HF:=zh (show feed step (told H.E (n+1) left S.W).1 st=(sk,true) from by rw[HTO.o,HSE.o,hs5];rfl);have HY:=zh (show (told H.E (n+1) left S.W).2=held from by rw[HTO.o,HSE.o,hs6.1];rfl);have HS1:=zh hs1;have HS2:=zh hs2;have HS3:=zh hs3;have HS4:=zh hs4;clear hs1 hs2 hs3 hs4 hs5 hs6 e0 hrl;go_wp2;go_ret2;rw[HF.o];exact⟨⟨_,rfl,⟨held,rfl,fun _=>HY.o.symm⟩⟩,HS3.o,⟨Q,HS1.o.sea,HS2.o⟩,(jac.of_ext HX2.o).t HS4.o⟩
   have HSV:=zh hsv;rw[hsv] at hsd;have HSD:=zh hsd;have HNO:=zh (show (H.E.settled S.W && H.E.hindered S.W)=false from by rw[<- hsd,Bool.false_and]);clear hsv hsd;by_cases hl0:left=0
   . subst hl0
     have HTO:=zh (show told H.E (n+1) 0 S.W=([S.W],true) from by simp only[told];rw[HNO.o];rfl)
     go_in;go_wp2_with (first|(go_at_call 293;refine HSET.o.mono ?_;rintro e w1 ⟨rfl,e1⟩;obtain rfl:w=w1:=e1.symm;rw[HSV.o])|fail)
     have HX1:=zh (show Ext w w from by first|exact hx1|exact Ext.refl _);have sl1:H.sb<w.heap.size:=Nat.lt_of_lt_of_le sl HX1.o.size;have HSK1:=zh (HSK.o.ext HX1.o);have HR1:=zh (HTT.o.keep _ _ _ HR.o (jac.of_ext HX1.o));have HSW:=zh (show ∀ W,Ext w W->W.cell? ⟨H.sb,43,none⟩=some (.func (.func g) #[] caps) from fun W hW=>by rw[(HSK1.o.sea.ext hW).tell,HTL.o]);refine wp_region_noPanic ?_;refine wp_region_held_drew (S:=(fun w'=>w'.cell? ⟨H.sb,43,none⟩=some (.func (.func g) #[] caps))) (by kernel_rfl) ?_ (fun hHeld=>?_)
     . (try dsimp only);(first|exact HSW.o _ (Ext.refl _).drew|exact HSW5)
     refine tq 0 rfl ?_;(try simp only[Act.put,stz])
     refine tq 1 rfl ?_;(try simp only[Act.put,stz])
     refine tq 2 rfl ?_;(try simp only[Act.put,stz])
     refine tq 3 rfl ?_;(try simp only[Act.put,stz])
     refine tq 4 rfl ?_;(try simp only[Act.put,stz])
     refine tq 5 rfl ?_;(try simp only[Act.put,stz])
     refine tq 6 rfl ?_;(try simp only[Act.put,stz])
     refine rd1 7 rfl (fun K hK=>?_)
     . go_simp
       go_at_fn g
       refine (HTT.o.told st S _ (HSK1.o.ext (Ext.refl _).drew) (HTT.o.keep _ _ _ HR1.o (jac.of_ext (Ext.refl _).drew)) HG.o (by have h:=HRM.o;rw[HTO.o] at h;exact h)).mono ?_;rintro e w5 ⟨rfl,hr5,hi5⟩;have HR5:=zh hr5;have HI5:=zh (show jac H.M w w5 from (jac.of_ext (Ext.refl _).drew).t hi5);have HSW5:w5.cell? ⟨H.sb,43,none⟩=some (.func (.func g) #[] caps):=HI5.o.cell sl1 HH.o.nM (HSW.o _ (Ext.refl _));clear hr5 hi5;refine hK.out _ _ ?_ (fun hNew=>?_)
       . (try dsimp only);(first|exact HSW.o _ (Ext.refl _).drew|exact HSW5)
       clear hK K hHeld;have hHeld:=hNew;clear hNew;try simp only[Act.put,stz]
       refine tq 8 rfl ?_;(try simp only[Act.put,stz])
       refine tq 9 rfl ?_;(try simp only[Act.put,stz])
       refine dn ?_;simp only[List.getElem_toArray,List.getElem_cons_succ,List.getElem_cons_zero,Act.put,List.setIfInBounds_toArray,List.set_cons_zero,List.set_cons_succ];go_wp2;go_ret2;have HF:feed step (told H.E (n+1) 0 S.W).1 st=step st S.W:=by rw[HTO.o];exact jvo _ _ _
       have HY:(told H.E (n+1) 0 S.W).2=true:=by rw[HTO.o]
       rw[HF];exact⟨⟨_,rfl,⟨true,rfl,fun _=>HY.symm⟩⟩,HR5.o,⟨S,HSK1.o.sea.inside HI5.o HH.o.nM,Same.refl S⟩,(jac.of_ext HX1.o).t (HI5.o.sub (fun _ h _=>.inr h))⟩
   have hl1:¬ (left:Int)=0:=by omega
   obtain⟨i0,L,p,hL,hto,hne,hal⟩:=joj (n:=n) HNO.o hl0;have HLL:=zh hL;have HTO:=zh hto;have HNE:=zh hne;have HAL:=zh hal;clear hL hto hne hal hl0;have HCHO:=zh (fun (W:World) (hW:Ext w W)=>joh H.E left S H.sb W (HSK.o.ext hW).st (HSK.o.ext hW).sea HSK.o.at_ (HSK.o.ext hW).q0 HH.o.parts (HSK.o.ext hW).low HSK.o.inOrd hl HH.o.few)
   go_in;go_wp2_with (first|(go_at_call 293;refine HSET.o.mono ?_;rintro e w1 ⟨rfl,e1⟩;obtain rfl:w=w1:=e1.symm;rw[HSV.o])|(go_at_call 295;refine (HCHO.o _ (by first|exact hx1|exact Ext.refl _)).mono ?_;rintro e w2 ⟨⟨v2,rfl,hv2⟩,hx2⟩;obtain⟨A2,n2,c2,rfl,hn2,hc21,hc22⟩:=NumsR.form2 hv2)|fail)
   obtain rfl:n2=L.length:=by rw[hn2.o,HLL.o]
   have HX2:=zh (show Ext w w2 from by first|exact hx1.t hx2|exact hx2);have HNU:=zh (show NumsR H.F w2 (.slice A2 L.length c2) L from by have h:=hv2;rw[HLL.o] at h;exact h);have HSK2:=zh (HSK.o.ext HX2.o);have HR2:=zh (HTT.o.keep _ _ _ HR.o (jac.of_ext HX2.o));have HSE:=zh HSD.o.symm;have HR0:=zh (show rank st+(jaf H.E (told H.E n (jaj left i0)) false p S.W L false).1.length<=N from by have h:=HRM.o;rw[HTO.o,HSE.o] at h;exact h);clear hv2 hx2 HCHO HSET HSD
   go_loopw [9,40] (fun h i wr=>∃ (k:Nat) (held:Bool) (sk:σ) (Q:Sea),k<=L.length/\i=.int .i64 k/\h=.bool held/\J1 (Seek H Q wr/\Same S Q/\R sk wr/\jac (fun b=>b=H.sb∨H.M b) w2 wr /\
    feed step (jaf H.E (told H.E n (jaj left i0)) false p S.W L false).1 st=feed step (jaf H.E (told H.E n (jaj left i0)) false p S.W (L.drop k) held).1 sk /\
    (jaf H.E (told H.E n (jaj left i0)) false p S.W L false).2=(jaf H.E (told H.E n (jaj left i0)) false p S.W (L.drop k) held).2/\rank sk+(jaf H.E (told H.E n (jaj left i0)) false p S.W (L.drop k) held).1.length<=N)) (fun _ i _=>L.length-(intOf i).toNat)
   case atStart=>exact⟨0,false,st,S,Nat.zero_le _,rfl,rfl,zh ⟨HSK2.o,Same.refl S,HR2.o,jac.refl _ _,rfl,rfl,HR0.o⟩⟩
   case round =>
    obtain⟨k,held,sk,Q,hk,rfl,rfl,hrl⟩:=hrel;have hk0:(0:Int)<=(k:Int):=by omega
    by_cases hlt:k<L.length
    . have hk1 : (k:Int)<(L.length:Int):=by omega
      have HL0:=zh hlt;obtain⟨hs1,hs2,hs3,hs4,hs5,hs6⟩:=hrl.o;have hFM:∀ b,H.F b->¬ (b=H.sb∨H.M b):=fun b hb h=>h.elim (fun e=>HH.o.nF (e▸hb)) (HH.o.FM b hb)
      obtain⟨hci,hpi,hbi⟩:=HNE.o (fun e=>by rw[e] at hlt;cases hlt);obtain⟨lb,lo,j,rfl,hlb,hj,hjc⟩:=NumsR.at_ (HNU.o.impL (fun _ h _=>h) (fun b hb hlt'=>hs4.block b hlt' (hFM b hb)) hs4.size) hlt;obtain⟨a,ha⟩:=HAL.o j (List.mem_of_getElem? hj);have hjl:j<H.E.facts.length:=(List.getElem?_eq_some_iff.1 ha).1;have hil:i0<H.E.parts.length:=(List.getElem?_eq_some_iff.1 hpi).1;obtain⟨PA,pc,hq0,hpc1,hpc2⟩:=jaa.form hs1.q0;obtain⟨pb,po,p',pv,rfl,hpb,hpp,hpn,hps,hp0,hp1⟩:=PatsR.at_ (hq0▸hs1.q0) hil;obtain rfl:p=p':=Option.some.inj (hpi.symm.trans hpp);obtain⟨FA,fc,hfv,hfc1,hfc2⟩:=jaa.form hs1.st.fa;obtain⟨fb,fo,a',av,rfl,hfb,hfa,hfn,hft,hf0,hf1⟩:=jab.at_ (hfv▸hs1.st.fa) hjl;obtain rfl:a=a':=Option.some.inj (ha.symm.trans hfa);obtain⟨RA,rc,hrv,hrc1,hrc2⟩:=jaa.form hs1.st.ro;obtain⟨rb,ro,rj,rfl,hrb,hrr,hr0⟩:=NumsR.at_ (hrv▸hs1.st.ro) (show j<H.E.rounds.length by rw[HH.o.rounds];exact hjl);have hrg:H.E.rounds.getD j 0=rj:=by rw[List.getD_eq_getElem?_getD,hrr];rfl
      have hrl2:j<H.E.rounds.length:=by rw[HH.o.rounds];exact hjl
      have t0:wr.cell? ⟨H.sb,0,none⟩=some (.pointer (some ⟨H.stb,0,none⟩)):=by rw[hs1.sea.st,hs1.at_]
      have t1:wr.cell? ⟨H.sb,1,none⟩=some (.slice (some ⟨pb,po,none⟩) H.E.parts.length pc):=by rw[hs1.sea.q0,hq0]
      have t42:wr.cell? ⟨H.sb,42,none⟩=some (.int .i64 (S.cnt:Int)):=by rw[hs1.sea.cnt,hs2.cnt]
      have t17:wr.cell? ⟨H.sb,17,none⟩=some (.int .i64 (H.E.ahead:Int)):=by rw[hs1.sea.ahead,hs1.ahead]
      have t16:wr.cell? ⟨H.sb,16,none⟩=some (.bool H.E.inOrder):=by rw[hs1.sea.inOrd,hs1.inOrd]
      have u0:wr.cell? ⟨H.stb,0,none⟩=some (.slice (some ⟨fb,fo,none⟩) H.E.facts.length fc):=by rw[hs1.st.blk.cell 0,hfv];rfl
      have u1:wr.cell? ⟨H.stb,1,none⟩=some (.slice (some ⟨rb,ro,none⟩) H.E.rounds.length rc):=by rw[hs1.st.blk.cell 1,hrv];rfl
      have HS1:=zh hs1;have HS2:=zh hs2;have HS3:=zh hs3;have HS4:=zh hs4;have HS5:=zh hs5;have HS6:=zh hs6;have HPS:=zh hps;have HFT:=zh hft;have HJ:=zh hj;have HA:=zh ha;have HBI:=zh hbi;have HPI:=zh hpi;have hpsz:=hpn;clear hs1 hs2 hs3 hs4 hs5 hs6 hrl hps hft hj ha hfa hpp hbi hpi hrr hq0 hfv hrv hFM;rw[hci];clear hci
      go_upto_region 11 with fail
      go_cut [64] (fun c wx=>c=.bool (H.E.skip j)/\Ext wr wx)
      case first =>
       rcases Bool.eq_false_or_eq_true H.E.inOrder with hio|hio
       . rw [hio] at t16
         by_cases hge:H.E.ahead<=rj
         . have hge1:((H.E.ahead:Int)<=(rj:Int)):=by omega
           have HSK3:=zh (show H.E.skip j=true from by unfold SE.skip;rw[hio,hrg,decide_eq_true hge];rfl);clear hio hge
           go_big_quiet (fail)
           go_wp2
           go_meet
           exact⟨by rw[HSK3.o],Ext.drewN' wr _⟩
         have hge1:¬ ((H.E.ahead:Int)<=(rj:Int)):=by omega
         have HSK3:=zh (show H.E.skip j=false from by unfold SE.skip;rw[hrg,decide_eq_false hge,Bool.and_false]);clear hio hge
         go_big_quiet (fail)
         go_wp2
         go_meet
         exact⟨by rw[HSK3.o],Ext.drewN' wr _⟩
       rw[hio] at t16;have HSK3:=zh (show H.E.skip j=false from by unfold SE.skip;rw[hio,Bool.false_and]);clear hio
       go_big_quiet (fail)
       go_wp2
       go_meet
       exact⟨by rw[HSK3.o],Ext.drewN' wr _⟩
      case rest =>
       obtain⟨rfl,hxc⟩:=hcut;have q0:=(hxc.cells.1 H.sb 0 HS1.o.sea.lt).trans t0;have q1:=(hxc.cells.1 H.sb 1 HS1.o.sea.lt).trans t1;have q42:=(hxc.cells.1 H.sb 42 HS1.o.sea.lt).trans t42;have v0:=(hxc.cells.1 H.stb 0 HS1.o.st.blk.lt).trans u0;have b0:=(hxc.cells.1 pb (po+i0*2) hpb).trans hp0;have b1:=(hxc.cells.1 pb (po+i0*2+1) hpb).trans hp1;have f0:=(hxc.cells.1 fb (fo+j*2) hfb).trans hf0;have f1:=(hxc.cells.1 fb (fo+j*2+1) hfb).trans hf1;have HC1:=zh (HS1.o.ext hxc);have HC3:=zh (HTT.o.keep _ _ _ HS3.o (jac.of_ext hxc));have HC4:=zh (HS4.o.t (jac.of_ext hxc));have HCP:=zh (HPS.o.ext hxc);have HCF:=zh (HFT.o.ext hxc);have sl2:=HC1.o.sea.lt;clear t0 t1 t42 t16 t17 u0 u1 hp0 hp1 hf0 hf1 hr0 hjc HS1 HS3 HS4 HPS HFT hxc;rcases Bool.eq_false_or_eq_true (H.E.skip j) with hsk3|hsk3
       . have HLS:=zh (jr4 (E:=H.E) (rec_:=told H.E n (jaj left i0)) (sd:=false) (p:=p) (W:=S.W) (held:=held) HJ.o hsk3)
         rw[hsk3];clear hsk3;go_wp2;go_roundw
         case rel =>
          have HQ:J1 (_/\_/\_/\_/\_/\_):=zh ⟨HC1.o,HS2.o,HC3.o,HC4.o,HLS.o▸HS5.o,HLS.o▸HS6.o⟩
          first
           | exact⟨k+1,held,sk,Q,by omega,by go_num,rfl,HQ⟩
           | ((repeat apply Exists.intro);exact⟨⟨k+1,held,sk,Q,by omega,by go_num,rfl,HQ⟩,rfl⟩)
         case measure=>simp[intOf];omega
       rw[hsk3];have HK4:=zh hsk3;obtain⟨wq,hwq⟩:∃ x,x=wc:=⟨_,rfl⟩
       subst hwq;clear hsk3;have hi4:i0<4:=Nat.lt_of_lt_of_le hil HH.o.few;have HMT:=zh (fun (W:World) (hW:Ext wq W)=>jrw p a pv av Q H.sb W (HC1.o.sea.ext hW) (HCP.o.ext hW) (HCF.o.ext hW) HH.o.nP HH.o.nF (HH.o.parts p (List.mem_of_getElem? HPI.o)).1 HC1.o.bok);go_wp2_with fail
       go_still_tail 21,(by kernel_rfl)
       change wpList _ _ _ _ _ wq.drew;clear q0 q1 v0 b0 b1 f0 f1
       go_upto_if 91 with (go_at_call 296;refine (HMT.o _ (Ext.refl _).drew).mono ?_;rintro e w4 ⟨rfl,⟨Q4,hq4,hqW,hqm⟩,hin4⟩;rw[HS2.o.W] at hqW hqm ⊢)
       have hcb:Q.cnt<=Q.bd.length:=by rw[HC1.o.sea.lB];exact HC1.o.cnt
       have HIN4:=zh (show jac (fun b=>b=H.sb) wq w4 from (jac.of_ext (Ext.refl _).drew).t hin4);have HQ4:=zh hq4;have HQW:=zh hqW;have HQM:=zh hqm;have HFI:=zh (fun (Q5:Sea) (h5:Same Q4 Q5)=>jvs h5 (by have:=jmo HQM.o hcb HQ4.o.lB;rwa [HS2.o.cnt] at this))
       have HBK:=zh (fun (Q5:Sea) (h5:Same Q4 Q5)=>HS2.o.trans (show Same Q (Q5.back S.cnt) from by
        have:=jr2 (S:=Q) (by rw[HS2.o.W];exact HQM.o) (by rw[HS2.o.W];exact HQW.o) h5 (fun s hs=>by rw[HC1.o.sea.lW];exact (HH.o.parts p (List.mem_of_getElem? HPI.o)).1 s hs) hcb
        rwa [HS2.o.cnt] at this))
       have HSK4:=zh (show Seek H Q4 w4 from HC1.o.move HH.o (HIN4.o.sub (fun _ h _=>.inl h)) HQ4.o HQM.o.same HQM.o.ok (HFI.o Q4 (Same.refl _)).2.1);have HR4:=zh (HTT.o.keep _ _ _ HC3.o HIN4.o);clear hq4 hqW hqm hin4 HMT
       go_cut [9,13,14] (fun h m f wx=>∃ (h2 more:Bool) (s2:σ) (Q2:Sea),h=.bool h2/\m=.bool more/\J1 (SeaAt wx H.sb Q2/\Same S (Q2.back S.cnt)/\(S.cnt<=Q2.cnt/\Q2.cnt<=12/\∀ i,i<Q2.cnt->Q2.bd.getD i 0<12)/\R s2 wx/\jac (fun b=>b=H.sb∨H.M b) w2 wx /\
        (more=false->feed step (jaf H.E (told H.E n (jaj left i0)) false p S.W L false).1 st=(s2,false))/\(more=true->(h2 && false)=true->feed step (jaf H.E (told H.E n (jaj left i0)) false p S.W L false).1 st=(s2,true)/\(jaf H.E (told H.E n (jaj left i0)) false p S.W L false).2=h2)/\(more=true->(h2 && false)=false->feed step (jaf H.E (told H.E n (jaj left i0)) false p S.W L false).1 st=feed step (jaf H.E (told H.E n (jaj left i0)) false p S.W (L.drop (k+1)) h2).1 s2/\(jaf H.E (told H.E n (jaj left i0)) false p S.W L false).2=(jaf H.E (told H.E n (jaj left i0)) false p S.W (L.drop (k+1)) h2).2/\rank s2+(jaf H.E (told H.E n (jaj left i0)) false p S.W (L.drop (k+1)) h2).1.length<=N)))
       case first =>
        rcases Bool.eq_false_or_eq_true (jak p a S.W).2 with hm|hm
        . have HIT:=zh (jvq (E:=H.E) (rec_:=told H.E n (jaj left i0)) (sd:=false) (p:=p) (W:=S.W) (held:=held) (tell:=step) (sk:=sk) HJ.o HK4.o HA.o hm)
          have HRO:=zh (jvr (E:=H.E) (rec_:=told H.E n (jaj left i0)) (sd:=false) (p:=p) (W:=S.W) (held:=held) (tell:=step) (sk:=sk) HTT.o.up HJ.o HK4.o HA.o hm HS6.o.2)
          have HIHC:=zh (HIH.o (jaj left i0) Q4 sk w4 HSK4.o (by rw[HQM.o.same];show Q.tell=_;rw[HS2.o.eq];exact HTL.o) HR4.o (by rw[HQW.o];exact HH.o.keep S.W p j a HG.o (List.mem_of_getElem? HPI.o) HA.o hm) (joi hl hi4)
           (by have h1:=jgh hil HBI.o;have h2:=HN.o;omega) (by rw[HQW.o];exact HRO.o.1))
          rw[HQW.o] at HIHC;rw[hm];clear hm;cases held
          . go_wp2_with (first|(go_at_call 260;rw[jez hl hi4];refine HIHC.o.mono ?_;rintro e w5 ⟨⟨v5,rfl,⟨h5,rfl,hv5⟩⟩,hr5,⟨Q5,hq5,hs5⟩,hi5⟩)|fail)
            go_meet
            exact ⟨h5,_,_,Q5,rfl,rfl,zh ⟨hq5,HBK.o Q5 hs5,HFI.o Q5 hs5,hr5,(HC4.o.t (HIN4.o.sub (fun _ h _=>.inl h))).t hi5,fun h=>HS5.o.trans (HIT.o.1 h),
             fun h1 h2=>by have e:=hv5 h1;rw[e] at h2 ⊢;exact⟨HS5.o.trans (HIT.o.2.1 h1 h2).1,HS6.o.1.trans (HIT.o.2.1 h1 h2).2⟩,fun h1 h2=>by have e:=hv5 h1;rw[e] at h2 ⊢;exact⟨HS5.o.trans (HIT.o.2.2 h1 h2).1,HS6.o.1.trans (HIT.o.2.2 h1 h2).2,HRO.o.2 h2⟩⟩⟩
          go_wp2_with (first|(go_at_call 260;rw[jez hl hi4];refine HIHC.o.mono ?_;rintro e w5 ⟨⟨v5,rfl,⟨h5,rfl,hv5⟩⟩,hr5,⟨Q5,hq5,hs5⟩,hi5⟩)|fail)
          go_meet
          exact ⟨true,_,_,Q5,rfl,rfl,zh ⟨hq5,HBK.o Q5 hs5,HFI.o Q5 hs5,hr5,(HC4.o.t (HIN4.o.sub (fun _ h _=>.inl h))).t hi5,fun h=>HS5.o.trans (HIT.o.1 h),
           fun h1 h2=>⟨HS5.o.trans (HIT.o.2.1 h1 h2).1,HS6.o.1.trans (HIT.o.2.1 h1 h2).2⟩,fun h1 h2=>⟨HS5.o.trans (HIT.o.2.2 h1 h2).1,HS6.o.1.trans (HIT.o.2.2 h1 h2).2,HRO.o.2 h2⟩⟩⟩
        have HMI:=zh (jr7 (E:=H.E) (rec_:=told H.E n (jaj left i0)) (sd:=false) (p:=p) (W:=S.W) (held:=held) (tell:=step) (sk:=sk) HJ.o HK4.o HA.o hm);have HRO:=zh (jr6 (E:=H.E) (rec_:=told H.E n (jaj left i0)) (sd:=false) (p:=p) (W:=S.W) (held:=held) (rank:=rank) (sk:=sk) HJ.o HK4.o HA.o hm HS6.o.2);rw[hm];clear hm;go_wp2
        go_meet
        exact ⟨held,true,sk,Q4,rfl,rfl,zh ⟨HQ4.o,HBK.o Q4 (Same.refl _),HFI.o Q4 (Same.refl _),HR4.o,HC4.o.t (HIN4.o.sub (fun _ h _=>.inl h)),fun h=>Bool.noConfusion h,
         fun _ h=>⟨HS5.o.trans (HMI.o.1 h).1,HS6.o.1.trans (HMI.o.1 h).2⟩,fun _ h=>⟨HS5.o.trans (HMI.o.2 h).1,HS6.o.1.trans (HMI.o.2 h).2,HRO.o h⟩⟩⟩
       case rest =>
        obtain⟨h2,more,s2,Q2,rfl,rfl,hrel2⟩:=hcut;have HUN:=zh (jvn Q2 H.sb S.cnt wc hrel2.o.1 hrel2.o.2.2.1.1 hrel2.o.2.2.1.2.1 hrel2.o.2.2.1.2.2)
        have HEX:=zh (show ∀ w6,SeaAt w6 H.sb (Q2.back S.cnt)->jac (fun b=>b=H.sb) wc w6->R s2 w6/\Same S (Q2.back S.cnt)/\jac (fun b=>b=H.sb∨H.M b) w2 w6/\Seek H (Q2.back S.cnt) w6 from fun w6 h6 hi6=>by
         have hii:jac (fun b=>b=H.sb∨H.M b) w2 w6:=hrel2.o.2.2.2.2.1.t (hi6.sub (fun _ h _=>.inl h));exact⟨HTT.o.keep _ _ _ hrel2.o.2.2.2.1 hi6,hrel2.o.2.1,hii,HSK2.o.same HH.o hii h6 hrel2.o.2.1⟩)
        have HXE:=zh hrel2.o.2.2.2.2.2;clear hrel2;cases more
        . have HF:=zh (show feed step (told H.E (n+1) left S.W).1 st=(s2,false) from by rw[HTO.o,HSE.o];exact HXE.o.1 rfl)
          go_wp2_with (first|(go_at_call 297;refine HUN.o.mono ?_;rintro e w6 ⟨rfl,hq6,hi6⟩)|fail)
          go_ret2;obtain⟨x1,x2,x3,_⟩:=HEX.o w6 hq6 hi6;rw[HF.o];exact⟨⟨_,rfl,⟨h2,rfl,fun h=>by cases h⟩⟩,x1,⟨_,hq6,x2⟩,(jac.of_ext HX2.o).t x3⟩
        cases h2
        . have HG0:=zh (HXE.o.2.2 rfl rfl)
          clear HXE;go_wp2_with (first|(go_at_call 297;refine HUN.o.mono ?_;rintro e w6 ⟨rfl,hq6,hi6⟩)|fail)
          go_roundw
          case rel =>
           obtain⟨x1,x2,x3,x4⟩:=HEX.o w6 hq6 hi6;have HQ:J1 (_/\_/\_/\_/\_/\_):=zh ⟨x4,x2,x1,x3,HG0.o.1,HG0.o.2⟩
           first
            | exact⟨k+1,_,s2,_,by omega,by go_num,rfl,HQ⟩
            | ((repeat apply Exists.intro);exact⟨⟨k+1,_,s2,_,by omega,by go_num,rfl,HQ⟩,rfl⟩)
          case measure=>simp[intOf];omega
        have HG0:=zh (HXE.o.2.2 rfl rfl);clear HXE;go_wp2_with (first|(go_at_call 297;refine HUN.o.mono ?_;rintro e w6 ⟨rfl,hq6,hi6⟩)|fail)
        go_roundw
        case rel =>
         obtain⟨x1,x2,x3,x4⟩:=HEX.o w6 hq6 hi6;have HQ:J1 (_/\_/\_/\_/\_/\_):=zh ⟨x4,x2,x1,x3,HG0.o.1,HG0.o.2⟩
         first
          | exact⟨k+1,_,s2,_,by omega,by go_num,rfl,HQ⟩
          | ((repeat apply Exists.intro);exact⟨⟨k+1,_,s2,_,by omega,by go_num,rfl,HQ⟩,rfl⟩)
        case measure=>simp[intOf];omega
    have hk1:¬ (k:Int)<(L.length:Int):=by omega
    obtain⟨hs1,hs2,hs3,hs4,hs5,hs6⟩:=hrl.o;have e0:L.drop k=[]:=List.drop_eq_nil_of_le (by omega);rw[e0] at hs5 hs6;have HF:=zh (show feed step (told H.E (n+1) left S.W).1 st=(sk,true) from by rw[HTO.o,HSE.o,hs5];rfl);have HY:=zh (show (told H.E (n+1) left S.W).2=held from by rw[HTO.o,HSE.o,hs6.1];rfl);have HS1:=zh hs1;have HS2:=zh hs2;have HS3:=zh hs3;have HS4:=zh hs4;clear hs1 hs2 hs3 hs4 hs5 hs6 e0 hrl;go_wp2;go_ret2;rw[HF.o];exact⟨⟨_,rfl,⟨held,rfl,fun _=>HY.o.symm⟩⟩,HS3.o,⟨Q,HS1.o.sea,HS2.o⟩,(jac.of_ext HX2.o).t HS4.o⟩
theorem j1l:∀ (n:Fin 5),wrap64 (wrap64 (2 ^ n.val)-1)=((2 ^ n.val-1:Nat):Int)/\wrap64 (2 ^ n.val)-1=((2 ^ n.val-1:Nat):Int)/\2 ^ n.val-1<16:=by decide +kernel
theorem jxr (n:Nat):jh9 n (2 ^ n-1)<n+1:=by
 unfold jh9;have:=List.countP_le_length (p:=(2 ^ n-1).testBit) (l:=List.range n);rw[List.length_range] at this;omega
theorem j2e {σ:Type} (H:Hunt) (hH:H.Fit) {g:Nat} {caps:Array Value} {R:σ->World->Prop} {step:σ->Words->σ × Bool} {rank:σ->Nat} {N:Nat} (hT:jzg H g caps R step rank N) (S:Sea) (st:σ) (w:World) (hs:Seek H S w) (ht:S.tell=.func (.func g) #[] caps) (hr:R st w) (hG:H.G S.W) (hN:rank st+(told H.E (H.E.parts.length+1) (2 ^ H.E.parts.length-1) S.W).1.length<=N) :
  Calls Tryz.prog 221 #[.pointer (some ⟨H.sb,0,none⟩)] w fun e w'=>e=.returned (.tuple #[])/\R (feed step (told H.E (H.E.parts.length+1) (2 ^ H.E.parts.length-1) S.W).1 st).1 w'/\jac (fun b=>b=H.sb∨H.M b) w w':=by
 obtain⟨f1,f2,f3⟩:=j1l ⟨H.E.parts.length,by have:=hH.few;omega⟩;simp only at f1 f2 f3;obtain⟨A,c,hq0,hc1,hc2⟩:=jaa.form hs.q0;have t1:=hs.sea.q0;rw[hq0] at t1;have few:=hH.few;have hl64:H.E.parts.length<64:=by omega
 have HRU:=zh (fun (W:World) (hW:Ext w W)=>j2d H hH hT (H.E.parts.length+1) (2 ^ H.E.parts.length-1) S st W (hs.ext hW) ht (hT.keep _ _ _ hr (jac.of_ext hW)) hG f3 (jxr _) hN);have HF1:=zh f1;have HF2:=zh f2;clear hs hH hT hr hG ht hN f1 f2 f3 hq0
 go_in;go_wp2_with (first|(go_at_call 260;(first|rw[HF1.o]|rw[HF2.o]);refine (HRU.o _ (Ext.refl _)).mono ?_;rintro e w1 ⟨⟨v,rfl,hv⟩,hr1,_,hi1⟩)|fail)
 trace_state
 go_end0
 exact⟨rfl,hr1,hi1⟩
end Go.Proofs.YthiflhkcpanaaaaGreatDoor
