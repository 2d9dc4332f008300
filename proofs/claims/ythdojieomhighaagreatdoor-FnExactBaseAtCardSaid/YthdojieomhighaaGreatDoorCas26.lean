/- Own texts, joined. -/
import Derived.Test.YthdojieomhighaaGreatDoorCas16
import Derived.Deep.RegionHeld3
import Derived.Deep.DeepCutAuto
import Derived.BigQuiet
set_option linter.unusedSimpArgs false
set_option linter.unusedVariables false
set_option maxHeartbeats 8000000
set_option maxRecDepth 100000
namespace Go.Proofs.YthdojieomhighaaGreatDoor
open Go.RowKit
def HeldV (v:Value) (more b:Bool):Prop:=∃ h,v=.bool h∧(more=true→h=b)
theorem j02 {σ:Type} (H:Hunt) (hH:H.Fit) {g:Nat} {caps:Array Value} {R:σ→World→Prop} {step:σ→Words→σ × Bool} {rank:σ→Nat} {N:Nat} (hT:jxw H g caps R step rank N) :
  ∀ (n left:Nat) (S:Sea) (st:σ) (w:World),Seek H S w→S.tell=.func (.func g) #[] caps→R st w→H.G S.W→left<16→jh4 H.E.parts.length left<n→rank st+(told H.E n left S.W).1.length≤N →
    Calls Tryz.prog 253 #[.pointer (some ⟨H.sb,0,none⟩),.int .i64 (left:Int)] w fun e w'=>(∃ v,e=.returned (.tuple #[v,.bool (feed step (told H.E n left S.W).1 st).2]) ∧
     HeldV v (feed step (told H.E n left S.W).1 st).2 (told H.E n left S.W).2)∧R (feed step (told H.E n left S.W).1 st).1 w'∧(∃ Q,SeaAt w' H.sb Q∧Same S Q)∧jab (fun b=>b=H.sb∨H.M b) w w':=by
 intro n
 induction n with
 | zero=>intro left S st w _ _ _ _ _ h _;exact absurd h (Nat.not_lt_zero _)
 | succ n ih =>
   intro left S st w hsk htl hR hG hl hn hrm;have eg:=hT.go;have hsd:=jq7 hsk.wanted hH.wlen;have HSK:=zh hsk;have HG:=zh hG;have HR:=zh hR;have HN:=zh hn;have HRM:=zh hrm;have HTL:=zh htl;have sl:=hsk.sea.lt;have HIH:=zh ih;have HTT:=zh hT;have HH:=zh hH;clear hsk hG hR hn hrm htl ih hT hH;have HSET:=zh (js2 S H.sb w HSK.out.sea);rcases Bool.eq_false_or_eq_true (jeq S) with hsv|hsv
   · have HSV := zh hsv
     rw[hsv] at hsd;have HSD:=zh hsd;clear hsv hsd;have hhv:=HH.out.text S.W HG.out HSD.out.symm;have HHIN:=zh (jq2 H.E.nots S H.sb w HSK.out.st HSK.out.sea HSK.out.at_ HSK.out.q1 (HH.out.nots S.W HG.out));rcases Bool.eq_false_or_eq_true (H.E.hindered S.W) with hhd|hhd
     · have HTO:=zh (show told H.E (n+1) left S.W=([],false) from by simp only[told];rw[← HSD.out,hhd];rfl)
       have HHV:=zh (hhv.trans hhd);clear hhv hhd
       go_enter Tryz.func253,Tryz.ntmps253;go_wp2_with (first|(go_at_call 295;refine HSET.out.mono ?_;rintro e w1 ⟨rfl,e1⟩;obtain rfl:w=w1:=e1.symm;rw[HSV.out])|(go_at_call 296;refine HHIN.out.mono ?_;rintro e w1 ⟨rfl,hx1⟩;rw[HHV.out]) )
       go_ret2;rw[HTO.out];exact⟨⟨_,rfl,⟨false,rfl,fun _=>rfl⟩⟩,HTT.out.keep _ _ _ HR.out (jab.of_ext hx1),⟨S,HSK.out.sea.ext hx1,Same.refl S⟩,jab.of_ext hx1⟩
     have HNO:=zh (show (H.E.settled S.W && H.E.hindered S.W)=false from by rw[hhd,Bool.and_false]);have HHV:=zh (hhv.trans hhd);clear hhv hhd;by_cases hl0:left=0
     · subst hl0
       have HTO:=zh (show told H.E (n+1) 0 S.W=([S.W],true) from by simp only[told];rw[HNO.out];rfl)
       go_enter Tryz.func253,Tryz.ntmps253;go_wp2_with (first|(go_at_call 295;refine HSET.out.mono ?_;rintro e w1 ⟨rfl,e1⟩;obtain rfl:w=w1:=e1.symm;rw[HSV.out])|(go_at_call 296;refine HHIN.out.mono ?_;rintro e w1 ⟨rfl,hx1⟩;rw[HHV.out]) )
       have HX1:=zh (show Ext w w1 from by first|exact hx1|exact Ext.refl _);have sl1:H.sb<w1.heap.size:=Nat.lt_of_lt_of_le sl HX1.out.size;have HSK1:=zh (HSK.out.ext HX1.out);have HR1:=zh (HTT.out.keep _ _ _ HR.out (jab.of_ext HX1.out));have HSW:=zh (show ∀ W,Ext w1 W→W.cell? ⟨H.sb,43,none⟩=some (.func (.func g) #[] caps) from fun W hW=>by rw[(HSK1.out.sea.ext hW).tell,HTL.out]);refine wp_region_noPanic ?_;refine wp_region_held_drew (S:=(fun w'=>w'.cell? ⟨H.sb,43,none⟩=some (.func (.func g) #[] caps))) (by kernel_rfl) ?_ (fun hHeld=>?_)
       · (try dsimp only);(exact HSW.out _ (Ext.refl _).drew)
       refine tk 0 (v:=?_) rfl ?_ ?_;rotate_left;((intro w hSw;(try dsimp only at hSw);go_simp)<;>with_reducible rfl);(try simp only[Act.put,stz])
       refine tk 1 (v:=?_) rfl ?_ ?_;rotate_left;((intro w hSw;(try dsimp only at hSw);go_simp)<;>with_reducible rfl);(try simp only[Act.put,stz])
       refine tk 2 (v:=?_) rfl ?_ ?_;rotate_left;((intro w hSw;(try dsimp only at hSw);go_simp)<;>with_reducible rfl);(try simp only[Act.put,stz])
       refine tk 3 (v:=?_) rfl ?_ ?_;rotate_left;((intro w hSw;(try dsimp only at hSw);go_simp)<;>with_reducible rfl);(try simp only[Act.put,stz])
       refine tk 4 (v:=?_) rfl ?_ ?_;rotate_left;((intro w hSw;(try dsimp only at hSw);go_simp)<;>with_reducible rfl);(try simp only[Act.put,stz])
       refine tk 5 (v:=?_) rfl ?_ ?_;rotate_left;((intro w hSw;(try dsimp only at hSw);go_simp)<;>with_reducible rfl);(try simp only[Act.put,stz])
       refine tk 6 (v:=?_) rfl ?_ ?_;rotate_left;((intro w hSw;(try dsimp only at hSw);go_simp)<;>with_reducible rfl);(try simp only[Act.put,stz])
       refine wpAnyH_ready (rs:=[7]) (by kernel_rfl) (by simp) ?_;refine AllReadyH.cons (o:=_) rfl (fun K hK=>?_) ?_
       · go_simp
         go_at_fn g
         refine (HTT.out.told st S _ (HSK1.out.ext (Ext.refl _).drew) (HTT.out.keep _ _ _ HR1.out (jab.of_ext (Ext.refl _).drew)) HG.out (by have h:=HRM.out;rw[HTO.out] at h;exact h)).mono ?_;rintro e w5 ⟨rfl,hr5,hi5⟩;have HR5:=zh hr5;have HI5:=zh (show jab H.M w1 w5 from (jab.of_ext (Ext.refl _).drew).trans' hi5);have HSW5:w5.cell? ⟨H.sb,43,none⟩=some (.func (.func g) #[] caps):=HI5.out.cell sl1 HH.out.nM (HSW.out _ (Ext.refl _));clear hr5 hi5;refine hK.out _ _ ?_ (fun hNew=>?_)
         · (try dsimp only);(exact HSW5)
         clear hK K hHeld;have hHeld:=hNew;clear hNew;try simp only[Act.put,stz]
         refine tk 8 (v:=?_) rfl ?_ ?_;rotate_left;((intro w hSw;(try dsimp only at hSw);go_simp)<;>with_reducible rfl);(try simp only[Act.put,stz])
         refine tk 9 (v:=?_) rfl ?_ ?_;rotate_left;((intro w hSw;(try dsimp only at hSw);go_simp)<;>with_reducible rfl);(try simp only[Act.put,stz])
         refine wpAnyH_done (by kernel_rfl) ?_ _;refine NoPanic.normal ?_;simp only[List.getElem_toArray,List.getElem_cons_succ,List.getElem_cons_zero,Act.put,List.setIfInBounds_toArray,List.set_cons_zero,List.set_cons_succ];go_wp2;go_ret2;have HF:feed step (told H.E (n+1) 0 S.W).1 st=step st S.W:=by rw[HTO.out];exact jul _ _ _
         have HY:(told H.E (n+1) 0 S.W).2=true:=by rw[HTO.out]
         rw[HF];exact⟨⟨_,rfl,⟨true,rfl,fun _=>HY.symm⟩⟩,HR5.out,⟨S,HSK1.out.sea.inside HI5.out HH.out.nM,Same.refl S⟩,(jab.of_ext HX1.out).trans' (HI5.out.sub (fun _ h _=>.inr h))⟩
       exact AllReadyH.nil
     have hl1:¬ (left:Int)=0:=by omega
     obtain⟨i0,L,p,hL,hto,hne,hal⟩:=jnu (n:=n) HNO.out hl0;have HLL:=zh hL;have HTO:=zh hto;have HNE:=zh hne;have HAL:=zh hal;clear hL hto hne hal hl0;have HCHO:=zh (fun (W:World) (hW:Ext w W)=>jns H.E left S H.sb W (HSK.out.ext hW).st (HSK.out.ext hW).sea HSK.out.at_ (HSK.out.ext hW).q0 HH.out.parts (HSK.out.ext hW).low HSK.out.inOrd hl HH.out.few)
     go_enter Tryz.func253,Tryz.ntmps253;go_wp2_with (first|(go_at_call 295;refine HSET.out.mono ?_;rintro e w1 ⟨rfl,e1⟩;obtain rfl:w=w1:=e1.symm;rw[HSV.out])|(go_at_call 296;refine HHIN.out.mono ?_;rintro e w1 ⟨rfl,hx1⟩;rw[HHV.out])|(go_at_call 297;refine (HCHO.out _ (by first|exact hx1|exact Ext.refl _)).mono ?_;rintro e w2 ⟨⟨v2,rfl,hv2⟩,hx2⟩;obtain⟨A2,n2,c2,rfl,hn2,hc21,hc22⟩:=NumsR.form2 hv2)|fail)
     obtain rfl:n2=L.length:=by rw[hn2.out,HLL.out]
     have HX2:=zh (show Ext w w2 from by first|exact hx1.trans' hx2|exact hx2);have HNU:=zh (show NumsR H.F w2 (.slice A2 L.length c2) L from by have h:=hv2;rw[HLL.out] at h;exact h);have HSK2:=zh (HSK.out.ext HX2.out);have HR2:=zh (HTT.out.keep _ _ _ HR.out (jab.of_ext HX2.out));have HSE:=zh HSD.out.symm;have HR0:=zh (show rank st+(jaf H.E (told H.E n (jaj left i0)) true p S.W L false).1.length≤N from by have h:=HRM.out;rw[HTO.out,HSE.out] at h;exact h);clear hv2 hx2 HCHO HSET HSD
     go_loopw [9,40] (fun h i wr=>∃ (k:Nat) (held:Bool) (sk:σ) (Q:Sea),k≤L.length∧i=.int .i64 k∧h=.bool held∧Hid (Seek H Q wr∧Same S Q∧R sk wr∧jab (fun b=>b=H.sb∨H.M b) w2 wr ∧
      feed step (jaf H.E (told H.E n (jaj left i0)) true p S.W L false).1 st=feed step (jaf H.E (told H.E n (jaj left i0)) true p S.W (L.drop k) held).1 sk ∧
      (jaf H.E (told H.E n (jaj left i0)) true p S.W L false).2=(jaf H.E (told H.E n (jaj left i0)) true p S.W (L.drop k) held).2∧rank sk+(jaf H.E (told H.E n (jaj left i0)) true p S.W (L.drop k) held).1.length≤N)) (fun _ i _=>L.length-(intOf i).toNat)
     case atStart=>exact⟨0,false,st,S,Nat.zero_le _,rfl,rfl,zh ⟨HSK2.out,Same.refl S,HR2.out,jab.refl _ _,rfl,rfl,HR0.out⟩⟩
     case round =>
      obtain⟨k,held,sk,Q,hk,rfl,rfl,hrl⟩:=hrel;have hk0:(0:Int)≤(k:Int):=by omega
      by_cases hlt:k<L.length
      · have hk1 : (k:Int)<(L.length:Int):=by omega
        have HL0:=zh hlt;obtain⟨hs1,hs2,hs3,hs4,hs5,hs6⟩:=hrl.out;have hFM:∀ b,H.F b→¬ (b=H.sb∨H.M b):=fun b hb h=>h.elim (fun e=>HH.out.nF (e▸hb)) (HH.out.FM b hb)
        obtain⟨hci,hpi,hbi⟩:=HNE.out (fun e=>by rw[e] at hlt;cases hlt);obtain⟨lb,lo,j,rfl,hlb,hj,hjc⟩:=NumsR.at_ (HNU.out.impL (fun _ h _=>h) (fun b hb hlt'=>hs4.block b hlt' (hFM b hb)) hs4.size) hlt;obtain⟨a,ha⟩:=HAL.out j (List.mem_of_getElem? hj);have hjl:j<H.E.facts.length:=(List.getElem?_eq_some_iff.1 ha).1;have hil:i0<H.E.parts.length:=(List.getElem?_eq_some_iff.1 hpi).1;obtain⟨PA,pc,hq0,hpc1,hpc2⟩:=jaa.form hs1.q0;obtain⟨pb,po,p',pv,rfl,hpb,hpp,hpn,hps,hp0,hp1⟩:=PatsR.at_ (hq0▸hs1.q0) hil;obtain rfl:p=p':=Option.some.inj (hpi.symm.trans hpp);obtain⟨FA,fc,hfv,hfc1,hfc2⟩:=jaa.form hs1.st.fa;obtain⟨fb,fo,a',av,rfl,hfb,hfa,hfn,hft,hf0,hf1⟩:=jac.at_ (hfv▸hs1.st.fa) hjl;obtain rfl:a=a':=Option.some.inj (ha.symm.trans hfa);obtain⟨RA,rc,hrv,hrc1,hrc2⟩:=jaa.form hs1.st.ro;obtain⟨rb,ro,rj,rfl,hrb,hrr,hr0⟩:=NumsR.at_ (hrv▸hs1.st.ro) (show j<H.E.rounds.length by rw[HH.out.rounds];exact hjl);have hrg:H.E.rounds.getD j 0=rj:=by rw[List.getD_eq_getElem?_getD,hrr];rfl
        have hrl2:j<H.E.rounds.length:=by rw[HH.out.rounds];exact hjl
        have t0:wr.cell? ⟨H.sb,0,none⟩=some (.pointer (some ⟨H.stb,0,none⟩)):=by rw[hs1.sea.st,hs1.at_]
        have t1:wr.cell? ⟨H.sb,1,none⟩=some (.slice (some ⟨pb,po,none⟩) H.E.parts.length pc):=by rw[hs1.sea.q0,hq0]
        have t42:wr.cell? ⟨H.sb,42,none⟩=some (.int .i64 (S.cnt:Int)):=by rw[hs1.sea.cnt,hs2.cnt]
        have t17:wr.cell? ⟨H.sb,17,none⟩=some (.int .i64 (H.E.ahead:Int)):=by rw[hs1.sea.ahead,hs1.ahead]
        have t16:wr.cell? ⟨H.sb,16,none⟩=some (.bool H.E.inOrder):=by rw[hs1.sea.inOrd,hs1.inOrd]
        have u0:wr.cell? ⟨H.stb,0,none⟩=some (.slice (some ⟨fb,fo,none⟩) H.E.facts.length fc):=by rw[hs1.st.blk.cell 0,hfv];rfl
        have u1:wr.cell? ⟨H.stb,1,none⟩=some (.slice (some ⟨rb,ro,none⟩) H.E.rounds.length rc):=by rw[hs1.st.blk.cell 1,hrv];rfl
        have HS1:=zh hs1;have HS2:=zh hs2;have HS3:=zh hs3;have HS4:=zh hs4;have HS5:=zh hs5;have HS6:=zh hs6;have HPS:=zh hps;have HFT:=zh hft;have HJ:=zh hj;have HA:=zh ha;have HBI:=zh hbi;have HPI:=zh hpi;have hpsz:=hpn;clear hs1 hs2 hs3 hs4 hs5 hs6 hrl hps hft hj ha hfa hpp hbi hpi hrr hq0 hfv hrv hFM;rw[hci];clear hci
        go_upto_region 11 with fail
        go_cut [64] (fun c wx=>c=.bool (H.E.skip j)∧Ext wr wx)
        case first =>
         rcases Bool.eq_false_or_eq_true H.E.inOrder with hio|hio
         · rw [hio] at t16
           by_cases hge:H.E.ahead≤rj
           · have hge1:((H.E.ahead:Int)≤(rj:Int)):=by omega
             have HSK3:=zh (show H.E.skip j=true from by unfold SE.skip;rw[hio,hrg,decide_eq_true hge];rfl);clear hio hge
             go_big_quiet (fail)
             go_wp2
             go_meet
             exact⟨by rw[HSK3.out],Ext.drewN' wr _⟩
           have hge1:¬ ((H.E.ahead:Int)≤(rj:Int)):=by omega
           have HSK3:=zh (show H.E.skip j=false from by unfold SE.skip;rw[hrg,decide_eq_false hge,Bool.and_false]);clear hio hge
           go_big_quiet (fail)
           go_wp2
           go_meet
           exact⟨by rw[HSK3.out],Ext.drewN' wr _⟩
         rw[hio] at t16;have HSK3:=zh (show H.E.skip j=false from by unfold SE.skip;rw[hio,Bool.false_and]);clear hio
         go_big_quiet (fail)
         go_wp2
         go_meet
         exact⟨by rw[HSK3.out],Ext.drewN' wr _⟩
        case rest =>
         obtain⟨rfl,hxc⟩:=hcut;have q0:=(hxc.cells.1 H.sb 0 HS1.out.sea.lt).trans t0;have q1:=(hxc.cells.1 H.sb 1 HS1.out.sea.lt).trans t1;have q42:=(hxc.cells.1 H.sb 42 HS1.out.sea.lt).trans t42;have v0:=(hxc.cells.1 H.stb 0 HS1.out.st.blk.lt).trans u0;have b0:=(hxc.cells.1 pb (po+i0*2) hpb).trans hp0;have b1:=(hxc.cells.1 pb (po+i0*2+1) hpb).trans hp1;have f0:=(hxc.cells.1 fb (fo+j*2) hfb).trans hf0;have f1:=(hxc.cells.1 fb (fo+j*2+1) hfb).trans hf1;have HC1:=zh (HS1.out.ext hxc);have HC3:=zh (HTT.out.keep _ _ _ HS3.out (jab.of_ext hxc));have HC4:=zh (HS4.out.trans' (jab.of_ext hxc));have HCP:=zh (HPS.out.ext hxc);have HCF:=zh (HFT.out.ext hxc);have sl2:=HC1.out.sea.lt;clear t0 t1 t42 t16 t17 u0 u1 hp0 hp1 hf0 hf1 hr0 hjc HS1 HS3 HS4 HPS HFT hxc;rcases Bool.eq_false_or_eq_true (H.E.skip j) with hsk3|hsk3
         · have HLS:=zh (jq8 (E:=H.E) (rec_:=told H.E n (jaj left i0)) (sd:=true) (p:=p) (W:=S.W) (held:=held) HJ.out hsk3)
           rw[hsk3];clear hsk3;go_wp2;go_roundw
           case rel =>
            have HQ:Hid (_∧_∧_∧_∧_∧_):=zh ⟨HC1.out,HS2.out,HC3.out,HC4.out,HLS.out▸HS5.out,HLS.out▸HS6.out⟩
            first
             | exact⟨k+1,held,sk,Q,by omega,by go_num,rfl,HQ⟩
             | ((repeat apply Exists.intro);exact⟨⟨k+1,held,sk,Q,by omega,by go_num,rfl,HQ⟩,rfl⟩)
           case measure=>simp[intOf];omega
         rw[hsk3];have HK4:=zh hsk3;obtain⟨wq,hwq⟩:∃ x,x=wc:=⟨_,rfl⟩
         subst hwq;clear hsk3;have hi4:i0<4:=Nat.lt_of_lt_of_le hil HH.out.few;have HMT:=zh (fun (W:World) (hW:Ext wq W)=>jq0 p a pv av Q H.sb W (HC1.out.sea.ext hW) (HCP.out.ext hW) (HCF.out.ext hW) HH.out.nP HH.out.nF (HH.out.parts p (List.mem_of_getElem? HPI.out)).1 HC1.out.bok);go_wp2_with fail
         go_still_tail 21,(by kernel_rfl)
         change wpList _ _ _ _ _ wq.drew;clear q0 q1 v0 b0 b1 f0 f1
         go_upto_if 91 with (go_at_call 298;refine (HMT.out _ (Ext.refl _).drew).mono ?_;rintro e w4 ⟨rfl,⟨Q4,hq4,hqW,hqm⟩,hin4⟩;rw[HS2.out.W] at hqW hqm ⊢)
         have hcb:Q.cnt≤Q.bd.length:=by rw[HC1.out.sea.lB];exact HC1.out.cnt
         have HIN4:=zh (show jab (fun b=>b=H.sb) wq w4 from (jab.of_ext (Ext.refl _).drew).trans' hin4);have HQ4:=zh hq4;have HQW:=zh hqW;have HQM:=zh hqm;have HFI:=zh (fun (Q5:Sea) (h5:Same Q4 Q5)=>jup h5 (by have:=jl6 HQM.out hcb HQ4.out.lB;rwa [HS2.out.cnt] at this))
         have HBK:=zh (fun (Q5:Sea) (h5:Same Q4 Q5)=>HS2.out.trans (show Same Q (Q5.back S.cnt) from by
          have:=jq6 (S:=Q) (by rw[HS2.out.W];exact HQM.out) (by rw[HS2.out.W];exact HQW.out) h5 (fun s hs=>by rw[HC1.out.sea.lW];exact (HH.out.parts p (List.mem_of_getElem? HPI.out)).1 s hs) hcb
          rwa [HS2.out.cnt] at this))
         have HSK4:=zh (show Seek H Q4 w4 from HC1.out.move HH.out (HIN4.out.sub (fun _ h _=>.inl h)) HQ4.out HQM.out.same HQM.out.ok (HFI.out Q4 (Same.refl _)).2.1);have HR4:=zh (HTT.out.keep _ _ _ HC3.out HIN4.out);clear hq4 hqW hqm hin4 HMT
         go_cut [9,13,14] (fun h m f wx=>∃ (h2 more:Bool) (s2:σ) (Q2:Sea),h=.bool h2∧m=.bool more∧Hid (SeaAt wx H.sb Q2∧Same S (Q2.back S.cnt)∧(S.cnt≤Q2.cnt∧Q2.cnt≤12∧∀ i,i<Q2.cnt→Q2.bd.getD i 0<12)∧R s2 wx∧jab (fun b=>b=H.sb∨H.M b) w2 wx ∧
          (more=false→feed step (jaf H.E (told H.E n (jaj left i0)) true p S.W L false).1 st=(s2,false))∧(more=true→(h2 && true)=true→feed step (jaf H.E (told H.E n (jaj left i0)) true p S.W L false).1 st=(s2,true)∧(jaf H.E (told H.E n (jaj left i0)) true p S.W L false).2=h2)∧(more=true→(h2 && true)=false→feed step (jaf H.E (told H.E n (jaj left i0)) true p S.W L false).1 st=feed step (jaf H.E (told H.E n (jaj left i0)) true p S.W (L.drop (k+1)) h2).1 s2∧(jaf H.E (told H.E n (jaj left i0)) true p S.W L false).2=(jaf H.E (told H.E n (jaj left i0)) true p S.W (L.drop (k+1)) h2).2∧rank s2+(jaf H.E (told H.E n (jaj left i0)) true p S.W (L.drop (k+1)) h2).1.length≤N)))
         case first =>
          rcases Bool.eq_false_or_eq_true (jak p a S.W).2 with hm|hm
          · have HIT:=zh (jun (E:=H.E) (rec_:=told H.E n (jaj left i0)) (sd:=true) (p:=p) (W:=S.W) (held:=held) (tell:=step) (sk:=sk) HJ.out HK4.out HA.out hm)
            have HRO:=zh (juo (E:=H.E) (rec_:=told H.E n (jaj left i0)) (sd:=true) (p:=p) (W:=S.W) (held:=held) (tell:=step) (sk:=sk) HTT.out.up HJ.out HK4.out HA.out hm HS6.out.2)
            have HIHC:=zh (HIH.out (jaj left i0) Q4 sk w4 HSK4.out (by rw[HQM.out.same];show Q.tell=_;rw[HS2.out.eq];exact HTL.out) HR4.out (by rw[HQW.out];exact HH.out.keep S.W p j a HG.out (List.mem_of_getElem? HPI.out) HA.out hm) (jnt hl hi4)
             (by have h1:=jf8 hil HBI.out;have h2:=HN.out;omega) (by rw[HQW.out];exact HRO.out.1))
            rw[HQW.out] at HIHC;rw[hm];clear hm;cases held
            · go_wp2_with ((go_at_call 253;rw[jer hl hi4];refine HIHC.out.mono ?_;rintro e w5 ⟨⟨v5,rfl,⟨h5,rfl,hv5⟩⟩,hr5,⟨Q5,hq5,hs5⟩,hi5⟩))
              go_meet
              exact ⟨h5,_,_,Q5,rfl,rfl,zh ⟨hq5,HBK.out Q5 hs5,HFI.out Q5 hs5,hr5,(HC4.out.trans' (HIN4.out.sub (fun _ h _=>.inl h))).trans' hi5,fun h=>HS5.out.trans (HIT.out.1 h),
               fun h1 h2=>by have e:=hv5 h1;rw[e] at h2 ⊢;exact⟨HS5.out.trans (HIT.out.2.1 h1 h2).1,HS6.out.1.trans (HIT.out.2.1 h1 h2).2⟩,fun h1 h2=>by have e:=hv5 h1;rw[e] at h2 ⊢;exact⟨HS5.out.trans (HIT.out.2.2 h1 h2).1,HS6.out.1.trans (HIT.out.2.2 h1 h2).2,HRO.out.2 h2⟩⟩⟩
            go_wp2_with ((go_at_call 253;rw[jer hl hi4];refine HIHC.out.mono ?_;rintro e w5 ⟨⟨v5,rfl,⟨h5,rfl,hv5⟩⟩,hr5,⟨Q5,hq5,hs5⟩,hi5⟩))
            go_meet
            exact ⟨true,_,_,Q5,rfl,rfl,zh ⟨hq5,HBK.out Q5 hs5,HFI.out Q5 hs5,hr5,(HC4.out.trans' (HIN4.out.sub (fun _ h _=>.inl h))).trans' hi5,fun h=>HS5.out.trans (HIT.out.1 h),
             fun h1 h2=>⟨HS5.out.trans (HIT.out.2.1 h1 h2).1,HS6.out.1.trans (HIT.out.2.1 h1 h2).2⟩,fun h1 h2=>⟨HS5.out.trans (HIT.out.2.2 h1 h2).1,HS6.out.1.trans (HIT.out.2.2 h1 h2).2,HRO.out.2 h2⟩⟩⟩
          have HMI:=zh (jrb (E:=H.E) (rec_:=told H.E n (jaj left i0)) (sd:=true) (p:=p) (W:=S.W) (held:=held) (tell:=step) (sk:=sk) HJ.out HK4.out HA.out hm);have HRO:=zh (jra (E:=H.E) (rec_:=told H.E n (jaj left i0)) (sd:=true) (p:=p) (W:=S.W) (held:=held) (rank:=rank) (sk:=sk) HJ.out HK4.out HA.out hm HS6.out.2);rw[hm];clear hm;go_wp2
          go_meet
          exact ⟨held,true,sk,Q4,rfl,rfl,zh ⟨HQ4.out,HBK.out Q4 (Same.refl _),HFI.out Q4 (Same.refl _),HR4.out,HC4.out.trans' (HIN4.out.sub (fun _ h _=>.inl h)),fun h=>Bool.noConfusion h,
           fun _ h=>⟨HS5.out.trans (HMI.out.1 h).1,HS6.out.1.trans (HMI.out.1 h).2⟩,fun _ h=>⟨HS5.out.trans (HMI.out.2 h).1,HS6.out.1.trans (HMI.out.2 h).2,HRO.out h⟩⟩⟩
         case rest =>
          obtain⟨h2,more,s2,Q2,rfl,rfl,hrel2⟩:=hcut;have HUN:=zh (juk Q2 H.sb S.cnt wc hrel2.out.1 hrel2.out.2.2.1.1 hrel2.out.2.2.1.2.1 hrel2.out.2.2.1.2.2)
          have HEX:=zh (show ∀ w6,SeaAt w6 H.sb (Q2.back S.cnt)→jab (fun b=>b=H.sb) wc w6→R s2 w6∧Same S (Q2.back S.cnt)∧jab (fun b=>b=H.sb∨H.M b) w2 w6∧Seek H (Q2.back S.cnt) w6 from fun w6 h6 hi6=>by
           have hii:jab (fun b=>b=H.sb∨H.M b) w2 w6:=hrel2.out.2.2.2.2.1.trans' (hi6.sub (fun _ h _=>.inl h));exact⟨HTT.out.keep _ _ _ hrel2.out.2.2.2.1 hi6,hrel2.out.2.1,hii,HSK2.out.same HH.out hii h6 hrel2.out.2.1⟩)
          have HXE:=zh hrel2.out.2.2.2.2.2;clear hrel2;cases more
          · have HF:=zh (show feed step (told H.E (n+1) left S.W).1 st=(s2,false) from by rw[HTO.out,HSE.out];exact HXE.out.1 rfl)
            go_wp2_with ((go_at_call 299;refine HUN.out.mono ?_;rintro e w6 ⟨rfl,hq6,hi6⟩))
            go_ret2;obtain⟨x1,x2,x3,_⟩:=HEX.out w6 hq6 hi6;rw[HF.out];exact⟨⟨_,rfl,⟨h2,rfl,fun h=>by cases h⟩⟩,x1,⟨_,hq6,x2⟩,(jab.of_ext HX2.out).trans' x3⟩
          cases h2
          · have HG0:=zh (HXE.out.2.2 rfl rfl)
            clear HXE;go_wp2_with ((go_at_call 299;refine HUN.out.mono ?_;rintro e w6 ⟨rfl,hq6,hi6⟩))
            go_roundw
            case rel =>
             obtain⟨x1,x2,x3,x4⟩:=HEX.out w6 hq6 hi6;have HQ:Hid (_∧_∧_∧_∧_∧_):=zh ⟨x4,x2,x1,x3,HG0.out.1,HG0.out.2⟩
             first
              | exact⟨k+1,_,s2,_,by omega,by go_num,rfl,HQ⟩
              | ((repeat apply Exists.intro);exact⟨⟨k+1,_,s2,_,by omega,by go_num,rfl,HQ⟩,rfl⟩)
            case measure=>simp[intOf];omega
          have HF:=zh (show feed step (told H.E (n+1) left S.W).1 st=(s2,true) from by rw[HTO.out,HSE.out];exact (HXE.out.2.1 rfl rfl).1);have HY:=zh (show (told H.E (n+1) left S.W).2=true from by rw[HTO.out,HSE.out];exact (HXE.out.2.1 rfl rfl).2);go_wp2_with ((go_at_call 299;refine HUN.out.mono ?_;rintro e w6 ⟨rfl,hq6,hi6⟩))
          go_ret2;obtain⟨x1,x2,x3,_⟩:=HEX.out w6 hq6 hi6;rw[HF.out];exact⟨⟨_,rfl,⟨true,rfl,fun _=>HY.out.symm⟩⟩,x1,⟨_,hq6,x2⟩,(jab.of_ext HX2.out).trans' x3⟩
      have hk1:¬ (k:Int)<(L.length:Int):=by omega
      obtain⟨hs1,hs2,hs3,hs4,hs5,hs6⟩:=hrl.out;have e0:L.drop k=[]:=List.drop_eq_nil_of_le (by omega);rw[e0] at hs5 hs6;have HF:=zh (show feed step (told H.E (n+1) left S.W).1 st=(sk,true) from by rw[HTO.out,HSE.out,hs5];rfl);have HY:=zh (show (told H.E (n+1) left S.W).2=held from by rw[HTO.out,HSE.out,hs6.1];rfl);have HS1:=zh hs1;have HS2:=zh hs2;have HS3:=zh hs3;have HS4:=zh hs4;clear hs1 hs2 hs3 hs4 hs5 hs6 e0 hrl;go_wp2;go_ret2;rw[HF.out];exact⟨⟨_,rfl,⟨held,rfl,fun _=>HY.out.symm⟩⟩,HS3.out,⟨Q,HS1.out.sea,HS2.out⟩,(jab.of_ext HX2.out).trans' HS4.out⟩
   have HSV:=zh hsv;rw[hsv] at hsd;have HSD:=zh hsd;have HNO:=zh (show (H.E.settled S.W && H.E.hindered S.W)=false from by rw[← hsd,Bool.false_and]);clear hsv hsd;by_cases hl0:left=0
   · subst hl0
     have HTO:=zh (show told H.E (n+1) 0 S.W=([S.W],true) from by simp only[told];rw[HNO.out];rfl)
     go_enter Tryz.func253,Tryz.ntmps253;go_wp2_with ((go_at_call 295;refine HSET.out.mono ?_;rintro e w1 ⟨rfl,e1⟩;obtain rfl:w=w1:=e1.symm;rw[HSV.out]))
     have HX1:=zh (show Ext w w from by first|exact hx1|exact Ext.refl _);have sl1:H.sb<w.heap.size:=Nat.lt_of_lt_of_le sl HX1.out.size;have HSK1:=zh (HSK.out.ext HX1.out);have HR1:=zh (HTT.out.keep _ _ _ HR.out (jab.of_ext HX1.out));have HSW:=zh (show ∀ W,Ext w W→W.cell? ⟨H.sb,43,none⟩=some (.func (.func g) #[] caps) from fun W hW=>by rw[(HSK1.out.sea.ext hW).tell,HTL.out]);refine wp_region_noPanic ?_;refine wp_region_held_drew (S:=(fun w'=>w'.cell? ⟨H.sb,43,none⟩=some (.func (.func g) #[] caps))) (by kernel_rfl) ?_ (fun hHeld=>?_)
     · (try dsimp only);(exact HSW.out _ (Ext.refl _).drew)
     refine tk 0 (v:=?_) rfl ?_ ?_;rotate_left;((intro w hSw;(try dsimp only at hSw);go_simp)<;>with_reducible rfl);(try simp only[Act.put,stz])
     refine tk 1 (v:=?_) rfl ?_ ?_;rotate_left;((intro w hSw;(try dsimp only at hSw);go_simp)<;>with_reducible rfl);(try simp only[Act.put,stz])
     refine tk 2 (v:=?_) rfl ?_ ?_;rotate_left;((intro w hSw;(try dsimp only at hSw);go_simp)<;>with_reducible rfl);(try simp only[Act.put,stz])
     refine tk 3 (v:=?_) rfl ?_ ?_;rotate_left;((intro w hSw;(try dsimp only at hSw);go_simp)<;>with_reducible rfl);(try simp only[Act.put,stz])
     refine tk 4 (v:=?_) rfl ?_ ?_;rotate_left;((intro w hSw;(try dsimp only at hSw);go_simp)<;>with_reducible rfl);(try simp only[Act.put,stz])
     refine tk 5 (v:=?_) rfl ?_ ?_;rotate_left;((intro w hSw;(try dsimp only at hSw);go_simp)<;>with_reducible rfl);(try simp only[Act.put,stz])
     refine tk 6 (v:=?_) rfl ?_ ?_;rotate_left;((intro w hSw;(try dsimp only at hSw);go_simp)<;>with_reducible rfl);(try simp only[Act.put,stz])
     refine wpAnyH_ready (rs:=[7]) (by kernel_rfl) (by simp) ?_;refine AllReadyH.cons (o:=_) rfl (fun K hK=>?_) ?_
     · go_simp
       go_at_fn g
       refine (HTT.out.told st S _ (HSK1.out.ext (Ext.refl _).drew) (HTT.out.keep _ _ _ HR1.out (jab.of_ext (Ext.refl _).drew)) HG.out (by have h:=HRM.out;rw[HTO.out] at h;exact h)).mono ?_;rintro e w5 ⟨rfl,hr5,hi5⟩;have HR5:=zh hr5;have HI5:=zh (show jab H.M w w5 from (jab.of_ext (Ext.refl _).drew).trans' hi5);have HSW5:w5.cell? ⟨H.sb,43,none⟩=some (.func (.func g) #[] caps):=HI5.out.cell sl1 HH.out.nM (HSW.out _ (Ext.refl _));clear hr5 hi5;refine hK.out _ _ ?_ (fun hNew=>?_)
       · (try dsimp only);(exact HSW5)
       clear hK K hHeld;have hHeld:=hNew;clear hNew;try simp only[Act.put,stz]
       refine tk 8 (v:=?_) rfl ?_ ?_;rotate_left;((intro w hSw;(try dsimp only at hSw);go_simp)<;>with_reducible rfl);(try simp only[Act.put,stz])
       refine tk 9 (v:=?_) rfl ?_ ?_;rotate_left;((intro w hSw;(try dsimp only at hSw);go_simp)<;>with_reducible rfl);(try simp only[Act.put,stz])
       refine wpAnyH_done (by kernel_rfl) ?_ _;refine NoPanic.normal ?_;simp only[List.getElem_toArray,List.getElem_cons_succ,List.getElem_cons_zero,Act.put,List.setIfInBounds_toArray,List.set_cons_zero,List.set_cons_succ];go_wp2;go_ret2;have HF:feed step (told H.E (n+1) 0 S.W).1 st=step st S.W:=by rw[HTO.out];exact jul _ _ _
       have HY:(told H.E (n+1) 0 S.W).2=true:=by rw[HTO.out]
       rw[HF];exact⟨⟨_,rfl,⟨true,rfl,fun _=>HY.symm⟩⟩,HR5.out,⟨S,HSK1.out.sea.inside HI5.out HH.out.nM,Same.refl S⟩,(jab.of_ext HX1.out).trans' (HI5.out.sub (fun _ h _=>.inr h))⟩
     exact AllReadyH.nil
   have hl1:¬ (left:Int)=0:=by omega
   obtain⟨i0,L,p,hL,hto,hne,hal⟩:=jnu (n:=n) HNO.out hl0;have HLL:=zh hL;have HTO:=zh hto;have HNE:=zh hne;have HAL:=zh hal;clear hL hto hne hal hl0;have HCHO:=zh (fun (W:World) (hW:Ext w W)=>jns H.E left S H.sb W (HSK.out.ext hW).st (HSK.out.ext hW).sea HSK.out.at_ (HSK.out.ext hW).q0 HH.out.parts (HSK.out.ext hW).low HSK.out.inOrd hl HH.out.few)
   go_enter Tryz.func253,Tryz.ntmps253;go_wp2_with (first|(go_at_call 295;refine HSET.out.mono ?_;rintro e w1 ⟨rfl,e1⟩;obtain rfl:w=w1:=e1.symm;rw[HSV.out])|(go_at_call 297;refine (HCHO.out _ (by first|exact hx1|exact Ext.refl _)).mono ?_;rintro e w2 ⟨⟨v2,rfl,hv2⟩,hx2⟩;obtain⟨A2,n2,c2,rfl,hn2,hc21,hc22⟩:=NumsR.form2 hv2)|fail)
   obtain rfl:n2=L.length:=by rw[hn2.out,HLL.out]
   have HX2:=zh (show Ext w w2 from by first|exact hx1.trans' hx2|exact hx2);have HNU:=zh (show NumsR H.F w2 (.slice A2 L.length c2) L from by have h:=hv2;rw[HLL.out] at h;exact h);have HSK2:=zh (HSK.out.ext HX2.out);have HR2:=zh (HTT.out.keep _ _ _ HR.out (jab.of_ext HX2.out));have HSE:=zh HSD.out.symm;have HR0:=zh (show rank st+(jaf H.E (told H.E n (jaj left i0)) false p S.W L false).1.length≤N from by have h:=HRM.out;rw[HTO.out,HSE.out] at h;exact h);clear hv2 hx2 HCHO HSET HSD
   go_loopw [9,40] (fun h i wr=>∃ (k:Nat) (held:Bool) (sk:σ) (Q:Sea),k≤L.length∧i=.int .i64 k∧h=.bool held∧Hid (Seek H Q wr∧Same S Q∧R sk wr∧jab (fun b=>b=H.sb∨H.M b) w2 wr ∧
    feed step (jaf H.E (told H.E n (jaj left i0)) false p S.W L false).1 st=feed step (jaf H.E (told H.E n (jaj left i0)) false p S.W (L.drop k) held).1 sk ∧
    (jaf H.E (told H.E n (jaj left i0)) false p S.W L false).2=(jaf H.E (told H.E n (jaj left i0)) false p S.W (L.drop k) held).2∧rank sk+(jaf H.E (told H.E n (jaj left i0)) false p S.W (L.drop k) held).1.length≤N)) (fun _ i _=>L.length-(intOf i).toNat)
   case atStart=>exact⟨0,false,st,S,Nat.zero_le _,rfl,rfl,zh ⟨HSK2.out,Same.refl S,HR2.out,jab.refl _ _,rfl,rfl,HR0.out⟩⟩
   case round =>
    obtain⟨k,held,sk,Q,hk,rfl,rfl,hrl⟩:=hrel;have hk0:(0:Int)≤(k:Int):=by omega
    by_cases hlt:k<L.length
    · have hk1 : (k:Int)<(L.length:Int):=by omega
      have HL0:=zh hlt;obtain⟨hs1,hs2,hs3,hs4,hs5,hs6⟩:=hrl.out;have hFM:∀ b,H.F b→¬ (b=H.sb∨H.M b):=fun b hb h=>h.elim (fun e=>HH.out.nF (e▸hb)) (HH.out.FM b hb)
      obtain⟨hci,hpi,hbi⟩:=HNE.out (fun e=>by rw[e] at hlt;cases hlt);obtain⟨lb,lo,j,rfl,hlb,hj,hjc⟩:=NumsR.at_ (HNU.out.impL (fun _ h _=>h) (fun b hb hlt'=>hs4.block b hlt' (hFM b hb)) hs4.size) hlt;obtain⟨a,ha⟩:=HAL.out j (List.mem_of_getElem? hj);have hjl:j<H.E.facts.length:=(List.getElem?_eq_some_iff.1 ha).1;have hil:i0<H.E.parts.length:=(List.getElem?_eq_some_iff.1 hpi).1;obtain⟨PA,pc,hq0,hpc1,hpc2⟩:=jaa.form hs1.q0;obtain⟨pb,po,p',pv,rfl,hpb,hpp,hpn,hps,hp0,hp1⟩:=PatsR.at_ (hq0▸hs1.q0) hil;obtain rfl:p=p':=Option.some.inj (hpi.symm.trans hpp);obtain⟨FA,fc,hfv,hfc1,hfc2⟩:=jaa.form hs1.st.fa;obtain⟨fb,fo,a',av,rfl,hfb,hfa,hfn,hft,hf0,hf1⟩:=jac.at_ (hfv▸hs1.st.fa) hjl;obtain rfl:a=a':=Option.some.inj (ha.symm.trans hfa);obtain⟨RA,rc,hrv,hrc1,hrc2⟩:=jaa.form hs1.st.ro;obtain⟨rb,ro,rj,rfl,hrb,hrr,hr0⟩:=NumsR.at_ (hrv▸hs1.st.ro) (show j<H.E.rounds.length by rw[HH.out.rounds];exact hjl);have hrg:H.E.rounds.getD j 0=rj:=by rw[List.getD_eq_getElem?_getD,hrr];rfl
      have hrl2:j<H.E.rounds.length:=by rw[HH.out.rounds];exact hjl
      have t0:wr.cell? ⟨H.sb,0,none⟩=some (.pointer (some ⟨H.stb,0,none⟩)):=by rw[hs1.sea.st,hs1.at_]
      have t1:wr.cell? ⟨H.sb,1,none⟩=some (.slice (some ⟨pb,po,none⟩) H.E.parts.length pc):=by rw[hs1.sea.q0,hq0]
      have t42:wr.cell? ⟨H.sb,42,none⟩=some (.int .i64 (S.cnt:Int)):=by rw[hs1.sea.cnt,hs2.cnt]
      have t17:wr.cell? ⟨H.sb,17,none⟩=some (.int .i64 (H.E.ahead:Int)):=by rw[hs1.sea.ahead,hs1.ahead]
      have t16:wr.cell? ⟨H.sb,16,none⟩=some (.bool H.E.inOrder):=by rw[hs1.sea.inOrd,hs1.inOrd]
      have u0:wr.cell? ⟨H.stb,0,none⟩=some (.slice (some ⟨fb,fo,none⟩) H.E.facts.length fc):=by rw[hs1.st.blk.cell 0,hfv];rfl
      have u1:wr.cell? ⟨H.stb,1,none⟩=some (.slice (some ⟨rb,ro,none⟩) H.E.rounds.length rc):=by rw[hs1.st.blk.cell 1,hrv];rfl
      have HS1:=zh hs1;have HS2:=zh hs2;have HS3:=zh hs3;have HS4:=zh hs4;have HS5:=zh hs5;have HS6:=zh hs6;have HPS:=zh hps;have HFT:=zh hft;have HJ:=zh hj;have HA:=zh ha;have HBI:=zh hbi;have HPI:=zh hpi;have hpsz:=hpn;clear hs1 hs2 hs3 hs4 hs5 hs6 hrl hps hft hj ha hfa hpp hbi hpi hrr hq0 hfv hrv hFM;rw[hci];clear hci
      go_upto_region 11 with fail
      go_cut [64] (fun c wx=>c=.bool (H.E.skip j)∧Ext wr wx)
      case first =>
       rcases Bool.eq_false_or_eq_true H.E.inOrder with hio|hio
       · rw [hio] at t16
         by_cases hge:H.E.ahead≤rj
         · have hge1:((H.E.ahead:Int)≤(rj:Int)):=by omega
           have HSK3:=zh (show H.E.skip j=true from by unfold SE.skip;rw[hio,hrg,decide_eq_true hge];rfl);clear hio hge
           go_big_quiet (fail)
           go_wp2
           go_meet
           exact⟨by rw[HSK3.out],Ext.drewN' wr _⟩
         have hge1:¬ ((H.E.ahead:Int)≤(rj:Int)):=by omega
         have HSK3:=zh (show H.E.skip j=false from by unfold SE.skip;rw[hrg,decide_eq_false hge,Bool.and_false]);clear hio hge
         go_big_quiet (fail)
         go_wp2
         go_meet
         exact⟨by rw[HSK3.out],Ext.drewN' wr _⟩
       rw[hio] at t16;have HSK3:=zh (show H.E.skip j=false from by unfold SE.skip;rw[hio,Bool.false_and]);clear hio
       go_big_quiet (fail)
       go_wp2
       go_meet
       exact⟨by rw[HSK3.out],Ext.drewN' wr _⟩
      case rest =>
       obtain⟨rfl,hxc⟩:=hcut;have q0:=(hxc.cells.1 H.sb 0 HS1.out.sea.lt).trans t0;have q1:=(hxc.cells.1 H.sb 1 HS1.out.sea.lt).trans t1;have q42:=(hxc.cells.1 H.sb 42 HS1.out.sea.lt).trans t42;have v0:=(hxc.cells.1 H.stb 0 HS1.out.st.blk.lt).trans u0;have b0:=(hxc.cells.1 pb (po+i0*2) hpb).trans hp0;have b1:=(hxc.cells.1 pb (po+i0*2+1) hpb).trans hp1;have f0:=(hxc.cells.1 fb (fo+j*2) hfb).trans hf0;have f1:=(hxc.cells.1 fb (fo+j*2+1) hfb).trans hf1;have HC1:=zh (HS1.out.ext hxc);have HC3:=zh (HTT.out.keep _ _ _ HS3.out (jab.of_ext hxc));have HC4:=zh (HS4.out.trans' (jab.of_ext hxc));have HCP:=zh (HPS.out.ext hxc);have HCF:=zh (HFT.out.ext hxc);have sl2:=HC1.out.sea.lt;clear t0 t1 t42 t16 t17 u0 u1 hp0 hp1 hf0 hf1 hr0 hjc HS1 HS3 HS4 HPS HFT hxc;rcases Bool.eq_false_or_eq_true (H.E.skip j) with hsk3|hsk3
       · have HLS:=zh (jq8 (E:=H.E) (rec_:=told H.E n (jaj left i0)) (sd:=false) (p:=p) (W:=S.W) (held:=held) HJ.out hsk3)
         rw[hsk3];clear hsk3;go_wp2;go_roundw
         case rel =>
          have HQ:Hid (_∧_∧_∧_∧_∧_):=zh ⟨HC1.out,HS2.out,HC3.out,HC4.out,HLS.out▸HS5.out,HLS.out▸HS6.out⟩
          first
           | exact⟨k+1,held,sk,Q,by omega,by go_num,rfl,HQ⟩
           | ((repeat apply Exists.intro);exact⟨⟨k+1,held,sk,Q,by omega,by go_num,rfl,HQ⟩,rfl⟩)
         case measure=>simp[intOf];omega
       rw[hsk3];have HK4:=zh hsk3;obtain⟨wq,hwq⟩:∃ x,x=wc:=⟨_,rfl⟩
       subst hwq;clear hsk3;have hi4:i0<4:=Nat.lt_of_lt_of_le hil HH.out.few;have HMT:=zh (fun (W:World) (hW:Ext wq W)=>jq0 p a pv av Q H.sb W (HC1.out.sea.ext hW) (HCP.out.ext hW) (HCF.out.ext hW) HH.out.nP HH.out.nF (HH.out.parts p (List.mem_of_getElem? HPI.out)).1 HC1.out.bok);go_wp2_with fail
       go_still_tail 21,(by kernel_rfl)
       change wpList _ _ _ _ _ wq.drew;clear q0 q1 v0 b0 b1 f0 f1
       go_upto_if 91 with (go_at_call 298;refine (HMT.out _ (Ext.refl _).drew).mono ?_;rintro e w4 ⟨rfl,⟨Q4,hq4,hqW,hqm⟩,hin4⟩;rw[HS2.out.W] at hqW hqm ⊢)
       have hcb:Q.cnt≤Q.bd.length:=by rw[HC1.out.sea.lB];exact HC1.out.cnt
       have HIN4:=zh (show jab (fun b=>b=H.sb) wq w4 from (jab.of_ext (Ext.refl _).drew).trans' hin4);have HQ4:=zh hq4;have HQW:=zh hqW;have HQM:=zh hqm;have HFI:=zh (fun (Q5:Sea) (h5:Same Q4 Q5)=>jup h5 (by have:=jl6 HQM.out hcb HQ4.out.lB;rwa [HS2.out.cnt] at this))
       have HBK:=zh (fun (Q5:Sea) (h5:Same Q4 Q5)=>HS2.out.trans (show Same Q (Q5.back S.cnt) from by
        have:=jq6 (S:=Q) (by rw[HS2.out.W];exact HQM.out) (by rw[HS2.out.W];exact HQW.out) h5 (fun s hs=>by rw[HC1.out.sea.lW];exact (HH.out.parts p (List.mem_of_getElem? HPI.out)).1 s hs) hcb
        rwa [HS2.out.cnt] at this))
       have HSK4:=zh (show Seek H Q4 w4 from HC1.out.move HH.out (HIN4.out.sub (fun _ h _=>.inl h)) HQ4.out HQM.out.same HQM.out.ok (HFI.out Q4 (Same.refl _)).2.1);have HR4:=zh (HTT.out.keep _ _ _ HC3.out HIN4.out);clear hq4 hqW hqm hin4 HMT
       go_cut [9,13,14] (fun h m f wx=>∃ (h2 more:Bool) (s2:σ) (Q2:Sea),h=.bool h2∧m=.bool more∧Hid (SeaAt wx H.sb Q2∧Same S (Q2.back S.cnt)∧(S.cnt≤Q2.cnt∧Q2.cnt≤12∧∀ i,i<Q2.cnt→Q2.bd.getD i 0<12)∧R s2 wx∧jab (fun b=>b=H.sb∨H.M b) w2 wx ∧
        (more=false→feed step (jaf H.E (told H.E n (jaj left i0)) false p S.W L false).1 st=(s2,false))∧(more=true→(h2 && false)=true→feed step (jaf H.E (told H.E n (jaj left i0)) false p S.W L false).1 st=(s2,true)∧(jaf H.E (told H.E n (jaj left i0)) false p S.W L false).2=h2)∧(more=true→(h2 && false)=false→feed step (jaf H.E (told H.E n (jaj left i0)) false p S.W L false).1 st=feed step (jaf H.E (told H.E n (jaj left i0)) false p S.W (L.drop (k+1)) h2).1 s2∧(jaf H.E (told H.E n (jaj left i0)) false p S.W L false).2=(jaf H.E (told H.E n (jaj left i0)) false p S.W (L.drop (k+1)) h2).2∧rank s2+(jaf H.E (told H.E n (jaj left i0)) false p S.W (L.drop (k+1)) h2).1.length≤N)))
       case first =>
        rcases Bool.eq_false_or_eq_true (jak p a S.W).2 with hm|hm
        · have HIT:=zh (jun (E:=H.E) (rec_:=told H.E n (jaj left i0)) (sd:=false) (p:=p) (W:=S.W) (held:=held) (tell:=step) (sk:=sk) HJ.out HK4.out HA.out hm)
          have HRO:=zh (juo (E:=H.E) (rec_:=told H.E n (jaj left i0)) (sd:=false) (p:=p) (W:=S.W) (held:=held) (tell:=step) (sk:=sk) HTT.out.up HJ.out HK4.out HA.out hm HS6.out.2)
          have HIHC:=zh (HIH.out (jaj left i0) Q4 sk w4 HSK4.out (by rw[HQM.out.same];show Q.tell=_;rw[HS2.out.eq];exact HTL.out) HR4.out (by rw[HQW.out];exact HH.out.keep S.W p j a HG.out (List.mem_of_getElem? HPI.out) HA.out hm) (jnt hl hi4)
           (by have h1:=jf8 hil HBI.out;have h2:=HN.out;omega) (by rw[HQW.out];exact HRO.out.1))
          rw[HQW.out] at HIHC;rw[hm];clear hm;cases held
          · go_wp2_with ((go_at_call 253;rw[jer hl hi4];refine HIHC.out.mono ?_;rintro e w5 ⟨⟨v5,rfl,⟨h5,rfl,hv5⟩⟩,hr5,⟨Q5,hq5,hs5⟩,hi5⟩))
            go_meet
            exact ⟨h5,_,_,Q5,rfl,rfl,zh ⟨hq5,HBK.out Q5 hs5,HFI.out Q5 hs5,hr5,(HC4.out.trans' (HIN4.out.sub (fun _ h _=>.inl h))).trans' hi5,fun h=>HS5.out.trans (HIT.out.1 h),
             fun h1 h2=>by have e:=hv5 h1;rw[e] at h2 ⊢;exact⟨HS5.out.trans (HIT.out.2.1 h1 h2).1,HS6.out.1.trans (HIT.out.2.1 h1 h2).2⟩,fun h1 h2=>by have e:=hv5 h1;rw[e] at h2 ⊢;exact⟨HS5.out.trans (HIT.out.2.2 h1 h2).1,HS6.out.1.trans (HIT.out.2.2 h1 h2).2,HRO.out.2 h2⟩⟩⟩
          go_wp2_with ((go_at_call 253;rw[jer hl hi4];refine HIHC.out.mono ?_;rintro e w5 ⟨⟨v5,rfl,⟨h5,rfl,hv5⟩⟩,hr5,⟨Q5,hq5,hs5⟩,hi5⟩))
          go_meet
          exact ⟨true,_,_,Q5,rfl,rfl,zh ⟨hq5,HBK.out Q5 hs5,HFI.out Q5 hs5,hr5,(HC4.out.trans' (HIN4.out.sub (fun _ h _=>.inl h))).trans' hi5,fun h=>HS5.out.trans (HIT.out.1 h),
           fun h1 h2=>⟨HS5.out.trans (HIT.out.2.1 h1 h2).1,HS6.out.1.trans (HIT.out.2.1 h1 h2).2⟩,fun h1 h2=>⟨HS5.out.trans (HIT.out.2.2 h1 h2).1,HS6.out.1.trans (HIT.out.2.2 h1 h2).2,HRO.out.2 h2⟩⟩⟩
        have HMI:=zh (jrb (E:=H.E) (rec_:=told H.E n (jaj left i0)) (sd:=false) (p:=p) (W:=S.W) (held:=held) (tell:=step) (sk:=sk) HJ.out HK4.out HA.out hm);have HRO:=zh (jra (E:=H.E) (rec_:=told H.E n (jaj left i0)) (sd:=false) (p:=p) (W:=S.W) (held:=held) (rank:=rank) (sk:=sk) HJ.out HK4.out HA.out hm HS6.out.2);rw[hm];clear hm;go_wp2
        go_meet
        exact ⟨held,true,sk,Q4,rfl,rfl,zh ⟨HQ4.out,HBK.out Q4 (Same.refl _),HFI.out Q4 (Same.refl _),HR4.out,HC4.out.trans' (HIN4.out.sub (fun _ h _=>.inl h)),fun h=>Bool.noConfusion h,
         fun _ h=>⟨HS5.out.trans (HMI.out.1 h).1,HS6.out.1.trans (HMI.out.1 h).2⟩,fun _ h=>⟨HS5.out.trans (HMI.out.2 h).1,HS6.out.1.trans (HMI.out.2 h).2,HRO.out h⟩⟩⟩
       case rest =>
        obtain⟨h2,more,s2,Q2,rfl,rfl,hrel2⟩:=hcut;have HUN:=zh (juk Q2 H.sb S.cnt wc hrel2.out.1 hrel2.out.2.2.1.1 hrel2.out.2.2.1.2.1 hrel2.out.2.2.1.2.2)
        have HEX:=zh (show ∀ w6,SeaAt w6 H.sb (Q2.back S.cnt)→jab (fun b=>b=H.sb) wc w6→R s2 w6∧Same S (Q2.back S.cnt)∧jab (fun b=>b=H.sb∨H.M b) w2 w6∧Seek H (Q2.back S.cnt) w6 from fun w6 h6 hi6=>by
         have hii:jab (fun b=>b=H.sb∨H.M b) w2 w6:=hrel2.out.2.2.2.2.1.trans' (hi6.sub (fun _ h _=>.inl h));exact⟨HTT.out.keep _ _ _ hrel2.out.2.2.2.1 hi6,hrel2.out.2.1,hii,HSK2.out.same HH.out hii h6 hrel2.out.2.1⟩)
        have HXE:=zh hrel2.out.2.2.2.2.2;clear hrel2;cases more
        · have HF:=zh (show feed step (told H.E (n+1) left S.W).1 st=(s2,false) from by rw[HTO.out,HSE.out];exact HXE.out.1 rfl)
          go_wp2_with ((go_at_call 299;refine HUN.out.mono ?_;rintro e w6 ⟨rfl,hq6,hi6⟩))
          go_ret2;obtain⟨x1,x2,x3,_⟩:=HEX.out w6 hq6 hi6;rw[HF.out];exact⟨⟨_,rfl,⟨h2,rfl,fun h=>by cases h⟩⟩,x1,⟨_,hq6,x2⟩,(jab.of_ext HX2.out).trans' x3⟩
        cases h2
        · have HG0:=zh (HXE.out.2.2 rfl rfl)
          clear HXE;go_wp2_with ((go_at_call 299;refine HUN.out.mono ?_;rintro e w6 ⟨rfl,hq6,hi6⟩))
          go_roundw
          case rel =>
           obtain⟨x1,x2,x3,x4⟩:=HEX.out w6 hq6 hi6;have HQ:Hid (_∧_∧_∧_∧_∧_):=zh ⟨x4,x2,x1,x3,HG0.out.1,HG0.out.2⟩
           first
            | exact⟨k+1,_,s2,_,by omega,by go_num,rfl,HQ⟩
            | ((repeat apply Exists.intro);exact⟨⟨k+1,_,s2,_,by omega,by go_num,rfl,HQ⟩,rfl⟩)
          case measure=>simp[intOf];omega
        have HG0:=zh (HXE.out.2.2 rfl rfl);clear HXE;go_wp2_with ((go_at_call 299;refine HUN.out.mono ?_;rintro e w6 ⟨rfl,hq6,hi6⟩))
        go_roundw
        case rel =>
         obtain⟨x1,x2,x3,x4⟩:=HEX.out w6 hq6 hi6;have HQ:Hid (_∧_∧_∧_∧_∧_):=zh ⟨x4,x2,x1,x3,HG0.out.1,HG0.out.2⟩
         first
          | exact⟨k+1,_,s2,_,by omega,by go_num,rfl,HQ⟩
          | ((repeat apply Exists.intro);exact⟨⟨k+1,_,s2,_,by omega,by go_num,rfl,HQ⟩,rfl⟩)
        case measure=>simp[intOf];omega
    have hk1:¬ (k:Int)<(L.length:Int):=by omega
    obtain⟨hs1,hs2,hs3,hs4,hs5,hs6⟩:=hrl.out;have e0:L.drop k=[]:=List.drop_eq_nil_of_le (by omega);rw[e0] at hs5 hs6;have HF:=zh (show feed step (told H.E (n+1) left S.W).1 st=(sk,true) from by rw[HTO.out,HSE.out,hs5];rfl);have HY:=zh (show (told H.E (n+1) left S.W).2=held from by rw[HTO.out,HSE.out,hs6.1];rfl);have HS1:=zh hs1;have HS2:=zh hs2;have HS3:=zh hs3;have HS4:=zh hs4;clear hs1 hs2 hs3 hs4 hs5 hs6 e0 hrl;go_wp2;go_ret2;rw[HF.out];exact⟨⟨_,rfl,⟨held,rfl,fun _=>HY.out.symm⟩⟩,HS3.out,⟨Q,HS1.out.sea,HS2.out⟩,(jab.of_ext HX2.out).trans' HS4.out⟩
theorem j0c:∀ (n:Fin 5),wrap64 (wrap64 (2 ^ n.val)-1)=((2 ^ n.val-1:Nat):Int)∧wrap64 (2 ^ n.val)-1=((2 ^ n.val-1:Nat):Int)∧2 ^ n.val-1<16:=by decide +kernel
theorem jwf (n:Nat):jh4 n (2 ^ n-1)<n+1:=by
 unfold jh4;have:=List.countP_le_length (p:=(2 ^ n-1).testBit) (l:=List.range n);rw[List.length_range] at this;omega
theorem j03 {σ:Type} (H:Hunt) (hH:H.Fit) {g:Nat} {caps:Array Value} {R:σ→World→Prop} {step:σ→Words→σ × Bool} {rank:σ→Nat} {N:Nat} (hT:jxw H g caps R step rank N) (S:Sea) (st:σ) (w:World) (hs:Seek H S w) (ht:S.tell=.func (.func g) #[] caps) (hr:R st w) (hG:H.G S.W) (hN:rank st+(told H.E (H.E.parts.length+1) (2 ^ H.E.parts.length-1) S.W).1.length≤N) :
  Calls Tryz.prog 186 #[.pointer (some ⟨H.sb,0,none⟩)] w fun e w'=>e=.returned (.tuple #[])∧R (feed step (told H.E (H.E.parts.length+1) (2 ^ H.E.parts.length-1) S.W).1 st).1 w'∧jab (fun b=>b=H.sb∨H.M b) w w':=by
 obtain⟨f1,f2,f3⟩:=j0c ⟨H.E.parts.length,by have:=hH.few;omega⟩;simp only at f1 f2 f3;obtain⟨A,c,hq0,hc1,hc2⟩:=jaa.form hs.q0;have t1:=hs.sea.q0;rw[hq0] at t1;have few:=hH.few;have hl64:H.E.parts.length<64:=by omega
 have HRU:=zh (fun (W:World) (hW:Ext w W)=>j02 H hH hT (H.E.parts.length+1) (2 ^ H.E.parts.length-1) S st W (hs.ext hW) ht (hT.keep _ _ _ hr (jab.of_ext hW)) hG f3 (jwf _) hN);have HF1:=zh f1;have HF2:=zh f2;clear hs hH hT hr hG ht hN f1 f2 f3 hq0
 go_enter Tryz.func186,Tryz.ntmps186;go_wp2_with (first|(go_at_call 253;(first|rw[HF1.out]|rw[HF2.out]);refine (HRU.out _ (Ext.refl _)).mono ?_;rintro e w1 ⟨⟨v,rfl,hv⟩,hr1,_,hi1⟩)|fail)
 trace_state
 go_end0
 exact⟨rfl,hr1,hi1⟩
end Go.Proofs.YthdojieomhighaaGreatDoor
