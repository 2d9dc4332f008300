/- Own texts, joined. -/
import Derived.Test.YthdojieomhighaaGreatDoorCas13
import Derived.Deep.RegionHeld3
import Derived.Test.YthdojieomhighaaGreatDoorCas07
import Derived.Test.YthdojieomhighaaGreatDoorCas11
import Derived.Test.YthdojieomhighaaGreatDoorCas02
import Derived.StillTailTactics
set_option linter.unusedSimpArgs false
set_option linter.unusedVariables false
set_option maxHeartbeats 8000000
set_option maxRecDepth 100000
namespace Go.Proofs.YthdojieomhighaaGreatDoor
open Go.RowKit
theorem jqx {α β:Type} (f:α→List β) (l:List α) (k:Nat):((l.take k).flatMap f).length≤(l.flatMap f).length:=by
 conv=>rhs;rw[← List.take_append_drop k l,List.flatMap_append,List.length_append]
 exact Nat.le_add_right _ _
theorem jqy (a:GA) (l:List GA) (b:LB) (k:Nat):(jbs a (l.take k) b).length≤(jbs a l b).length:=by
 unfold jbs
 conv=>rhs;rw[← List.take_append_drop k l,List.filterMap_append,List.length_append]
 exact Nat.le_add_right _ _
theorem jzt {a f:GA} {xs:List GA} {out:List LB} {bd:LB} {q r:Nat} (hq:out[q]? = some bd) (hr:xs[r]? = some f) (hm:(jcy a f bd).2=true) :
  ((out.take q).flatMap (jbs a xs)++jbs a (xs.take r) bd).length+1≤(out.flatMap (jbs a xs)).length:=by
 have h1:=jqx (jbs a xs) out (q+1);rw[jqw _ hq,List.length_append] at h1;have h2:=jqy a xs bd (r+1);rw[jhk a hr,hm,List.length_append] at h2;simp only[if_true,List.length_cons,List.length_nil] at h2;rw[List.length_append];omega
structure Boxed (N M:Nat) (wr wf:World) (bx:Nat) (x y:Value) (b:LB):Prop where
 blk:Blk wf bx 322 #[x,y]
 ext:Ext wr wf
 ns:StrsR (fun i=>(N≤i∧i<M)∨wr.heap.size≤i) wf x b.ns
 vs:StrsR (fun i=>(N≤i∧i<M)∨wr.heap.size≤i) wf y b.vs
 ok:b.ok
theorem jxs {N M L:Nat} {wr w5:World} {x y:Value} {b:LB} (hx:Ext wr w5) (hL:L=wr.heap.size) (h1:StrsR (fun i=>(N≤i∧i<M)∧i<L∨L≤i) w5 x b.ns) (h2:StrsR (fun i=>(N≤i∧i<M)∧i<L∨L≤i) w5 y b.vs) (h3:b.ok) :
  Boxed N M wr (w5.alloc (.cells #[x,y] 322)) w5.heap.size x y b :=
 ⟨Blk.new _ _ _,hx.alloc _,(h1.sub (fun i hi=>hi.elim (fun h=>.inl h.1) (fun h=>.inr (hL▸h)))).ext ((Ext.refl _).alloc _),(h2.sub (fun i hi=>hi.elim (fun h=>.inl h.1) (fun h=>.inr (hL▸h)))).ext ((Ext.refl _).alloc _),h3⟩
theorem jxt {N M L:Nat} {wr w5:World} {x y z0 z1:Value} {b:LB} (hb:Blk w5 wr.heap.size 322 #[z0,z1]) (hx:Ext wr w5) (hL:L=wr.heap.size+1) (hM:M≤wr.heap.size) (h1:StrsR (fun i=>(N≤i∧i<M)∧i<L∨L≤i) w5 x b.ns) (h2:StrsR (fun i=>(N≤i∧i<M)∧i<L∨L≤i) w5 y b.vs) (h3:b.ok) :
  Boxed N M wr ((w5.setCell ⟨wr.heap.size,0,none⟩ x).setCell ⟨wr.heap.size,1,none⟩ y) wr.heap.size x y b:=by
 have hA:Agree (fun i=>(N≤i∧i<M)∧i<L∨L≤i) w5 ((w5.setCell ⟨wr.heap.size,0,none⟩ x).setCell ⟨wr.heap.size,1,none⟩ y) :=
  ((Agree.refl _ _).setCell (fun h=>by rcases h with h|h<;>simp only at h<;>omega) x).setCell (fun h=>by rcases h with h|h<;>simp only at h<;>omega) y
 refine⟨by simpa using (hb.set_ 0 x).set_ 1 y,(hx.setNew (Nat.le_refl _) x).setNew (Nat.le_refl _) y,h1.impL (fun i hi _=>hi.elim (fun h=>.inl h.1) (fun h=>.inr (by omega))) hA (by go_size),h2.impL (fun i hi _=>hi.elim (fun h=>.inl h.1) (fun h=>.inr (by omega))) hA (by go_size),h3⟩
theorem jxu (xs : List GA) (ps:List GP) (v u:Value) (w:World) {S T:Nat→Prop} (hv:jac S w v xs) (hu:jao T w u ps) (hps:∀ p∈ps,p.atom.args.length≤1000) (hpl:ps.length≤4) (hxl:xs.length≤900) :
  Calls Tryz.prog 269 #[v,u] w fun e w'=>(∃ v',e=.returned v'∧jei (From w.heap.size) w' v' (allN xs ps))∧Ext w w':=by
 obtain⟨A,c,rfl,hc1,hc2⟩:=jaa.form hv;obtain⟨B,d,rfl,hd1,hd2⟩:=jaa.form hu;obtain⟨i0,hi0,hz0,hz1,hz2,hz3⟩:∃ i0,Tryz.prog.info? 322=some i0∧i0.zero=some (.agg #[.slice none 0 0,.slice none 0 0])∧i0.size=2∧(Value.agg #[.slice none 0 0,.slice none 0 0]).cells.size=2∧i0.bytes=48:=⟨_,rfl,rfl,rfl,rfl,rfl⟩
 have HV:=zh hv;have HU:=zh hu;have HPS:=zh hps;clear hv hu hps
 go_enter Tryz.func269,Tryz.ntmps269;go_wp2;go_loopw [5,6] (fun o i wr=>∃ k:Nat,k≤ps.length∧i=.int .i64 k∧Hid (OwnK kBind w.heap.size 322 (From w.heap.size) wr o ((ps.take k).foldl (jbi xs) [⟨[],[]⟩]))∧Ext w wr) (fun _ i _=>ps.length-(intOf i).toNat)
 case atStart=>exact⟨0,Nat.zero_le _,rfl,zh ⟨[.slice none 0 0,.slice none 0 0],fun _=>False,⟨rfl,.inr ⟨w.heap.size,1,#[.slice none 0 0,.slice none 0 0],rfl,Nat.le_refl _,Blk.new w _ _,Nat.le_refl _,by unfold maxLen;omega,rfl,rfl⟩⟩,RowsE.one rfl ⟨_,_,rfl,ListK.nil (k:=kStr) 0 (Nat.zero_le _) none,ListK.nil (k:=kStr) 0 (Nat.zero_le _) none,rfl⟩,fun _ h=>h.elim,fun _ _ h=>h⟩,(Ext.refl _).alloc _⟩
 case round =>
  obtain⟨k,hk,rfl,ho,hx⟩:=hrel;have hk0:(0:Int)≤(k:Int):=by omega
  obtain⟨A0,n0,c0,rfl,hn0,ha0,hb0⟩:=ho.out.form2;by_cases hlt:k<ps.length
  · have hk1 : (k : Int)<(ps.length:Int):=by omega
    obtain⟨bp,op,p,vp,rfl,hbp,hpk,hpn,hpt,hp0,hp1,hp2⟩:=jao.at_ HU.out hlt;obtain⟨G,cg,rfl,hcg1,hcg2⟩:=jaa.form hpt;have r0:=(hx.cells.1 bp (op+k*3) hbp).trans hp0;have r1:=(hx.cells.1 bp (op+k*3+1) hbp).trans hp1;have r2:=(hx.cells.1 bp (op+k*3+2) hbp).trans hp2;have HPT:=zh hpt;have HPL:=zh (HPS.out p (List.mem_of_getElem? hpk));have HPK:=zh hpk;clear hp0 hp1 hp2 hpk hpt;cases hno:p.no
    · rw [hno] at r0
      have HN:=zh (show (ps.take (k+1)).foldl (jbi xs) [⟨[],[]⟩]=((ps.take k).foldl (jbi xs) [⟨[],[]⟩]).flatMap (jbs p.atom xs) from by rw[jnq _ _ HPK.out];unfold jbi;simp[hno]);have HMO:=zh (show (((ps.take (k+1)).foldl (jbi xs) [⟨[],[]⟩]).length)≤1000000000000 from jkl xs _ hxl (by rw[List.length_take];omega));have HNS:=zh (show ∀ b∈(ps.take k).foldl (jbi xs) [⟨[],[]⟩],b.ns.length≤4000 from fun b hb=>Nat.le_trans (jnr xs (m:=1000) _ _ 0 (fun b hb=>by simp at hb;subst hb;simp) (fun q hq=>HPS.out q (List.mem_of_mem_take hq)) b hb) (by rw[List.length_take];omega));obtain⟨out,hout⟩:∃ out,out=(ps.take k).foldl (jbi xs) [⟨[],[]⟩]:=⟨_,rfl⟩
      rw[← hout] at ho hn0 HN HNS;have HB:=zh (show jei (fun b=>w.heap.size≤b∧b<wr.heap.size) wr (.slice A0 n0 c0) out from by rw[hn0.out] at *;exact ListK.low (k:=kBind) (ho.out.list (S':=From w.heap.size) (fun _ h=>h) (fun _ h=>h)));have HO0:=zh hout;clear hout hno;obtain rfl:=hn0.out;obtain⟨N0,hN0⟩:∃ N0,N0=wr.heap.size:=⟨_,rfl⟩
      have hN1:w.heap.size≤N0:=by rw[hN0];exact hx.size
      rw[← hN0] at HB;have HN0:=zh hN0;clear hN0
      rename World=>w0
      go_wp2;go_loopw [7,8] (fun o j wq=>∃ q:Nat,q≤out.length∧j=.int .i64 q∧Hid (OwnK kBind N0 322 (From w.heap.size) wq o ((out.take q).flatMap (jbs p.atom xs)))∧Ext w0 wq) (fun _ j _=>out.length-(intOf j).toNat)
      case atStart=>exact⟨0,Nat.zero_le _,rfl,zh (OwnK.empty rfl (Nat.le_of_eq HN0.out)),(Ext.refl _).alloc _⟩
      case round =>
       obtain⟨q,hq,rfl,hoq,hxq⟩:=hrel;obtain⟨A1,n1,c1,rfl,hn1,ha1,hb1⟩:=hoq.out.form2;have hq0:(0:Int)≤(q:Int):=by omega
       by_cases hlq:q<out.length
       · have hlq1 : (q:Int)<(out.length:Int):=by omega
         obtain⟨bb,off,bd,x,y,rfl,hbb,hbk,hxs,hys,hok,hc0,hc1⟩:=jei.at_ HB.out hlq;obtain⟨X,cx,rfl,hcx1,hcx2⟩:=jaa.form hxs;obtain⟨Y,cy,rfl,hcy1,hcy2⟩:=jaa.form hys;have HXS:=zh hxs;have HYS:=zh hys;have HOK:=zh hok;have HBK:=zh hbk;have HC0:=zh hc0;have HC1:=zh hc1;have HNB:=zh (HNS.out bd (List.mem_of_getElem? hbk));clear hxs hys hok hbk hc0 hc1;go_wp2;go_loopw [7,9] (fun o j wz=>∃ r:Nat,r≤xs.length∧j=.int .i64 r∧Hid (OwnK kBind N0 322 (From w.heap.size) wz o ((out.take q).flatMap (jbs p.atom xs)++jbs p.atom (xs.take r) bd))∧Ext w0 wz) (fun _ j _=>xs.length-(intOf j).toNat)
         case atStart=>exact⟨0,Nat.zero_le _,rfl,zh (by simpa [jbs] using hoq.out),hxq⟩
         case round =>
          obtain⟨r,hr,rfl,hor,hxr⟩:=hrel;obtain⟨A2,n2,c2,rfl,hn2,ha2,hb2⟩:=hor.out.form2;have hr0:(0:Int)≤(r:Int):=by omega
          by_cases hlr:r<xs.length
          · have hlr1 : (r:Int)<(xs.length:Int):=by omega
            obtain⟨ba,oa,f,vf,rfl,hba,hfk,hfn,hft,hf0,hf1⟩:=jac.at_ HV.out hlr;obtain⟨F,cf,rfl,hcf1,hcf2⟩:=jaa.form hft;have hxo:=hxr;have hxw:=Ext.trans' hx hxo;have p1:=(hxo.cells.1 bp (op+k*3+1) (Nat.lt_of_lt_of_le hbp hx.size)).trans r1;have p2:=(hxo.cells.1 bp (op+k*3+2) (Nat.lt_of_lt_of_le hbp hx.size)).trans r2;have s0:=(hxo.cells.1 bb (off+q*2) hbb).trans HC0.out;have s1:=(hxo.cells.1 bb (off+q*2+1) hbb).trans HC1.out;have t0:=(hxw.cells.1 ba (oa+r*2) hba).trans hf0;have t1:=(hxw.cells.1 ba (oa+r*2+1) hba).trans hf1;have HMA:=zh (fun (W:World) (hW:Ext wr W)=>jsz p.atom f bd _ _ _ _ W (HPT.out.ext (hxw.trans' hW)) (hft.ext (hxw.trans' hW)) (HXS.out.ext (hxo.trans' hW)) (HYS.out.ext (hxo.trans' hW)) HOK.out (by have:=HNB.out;have:=HPL.out;omega))
            have HSW:=zh (fun (W:World) (hW:Ext wr W)=>(show W.cell? ⟨bp,op+k*3+1,none⟩=some (.string p.atom.n)∧W.cell? ⟨bp,op+k*3+2,none⟩=some (.slice G p.atom.args.length cg)∧W.cell? ⟨bb,off+q*2,none⟩=some (.slice X bd.ns.length cx)∧W.cell? ⟨bb,off+q*2+1,none⟩=some (.slice Y bd.vs.length cy)∧W.cell? ⟨ba,oa+r*2,none⟩=some (.string f.n)∧W.cell? ⟨ba,oa+r*2+1,none⟩=some (.slice F f.args.length cf) from
             ⟨(hW.cells.1 bp _ (Nat.lt_of_lt_of_le hbp hxw.size)).trans p1,(hW.cells.1 bp _ (Nat.lt_of_lt_of_le hbp hxw.size)).trans p2,(hW.cells.1 bb _ (Nat.lt_of_lt_of_le hbb hxo.size)).trans s0,(hW.cells.1 bb _ (Nat.lt_of_lt_of_le hbb hxo.size)).trans s1,(hW.cells.1 ba _ (Nat.lt_of_lt_of_le hba hxw.size)).trans t0,(hW.cells.1 ba _ (Nat.lt_of_lt_of_le hba hxw.size)).trans t1⟩))
            have HFT:=zh hft;have HFK:=zh hfk;clear hft hfk hf0 hf1;go_wp2_with fail
            go_region_held3 (fun w'=>w'.cell? ⟨bp,op+k*3+1,none⟩=some (.string p.atom.n)∧w'.cell? ⟨bp,op+k*3+2,none⟩=some (.slice G p.atom.args.length cg)∧w'.cell? ⟨bb,off+q*2,none⟩=some (.slice X bd.ns.length cx)∧w'.cell? ⟨bb,off+q*2+1,none⟩=some (.slice Y bd.vs.length cy)∧w'.cell? ⟨ba,oa+r*2,none⟩=some (.string f.n)∧w'.cell? ⟨ba,oa+r*2+1,none⟩=some (.slice F f.args.length cf))
             (first|exact HSW.out _ (Ext.refl wr).drew|exact HSW.out _ ((Ext.refl wr).drew.alloc _)|exact HSW.out _ HX5.out|exact HSW.out _ (HX5.out.alloc _)|exact HSW.out _ ((HX5.out.setNew (Nat.le_refl _) _).setNew (Nat.le_refl _) _))
             ((go_at_call 304;refine (HMA.out _ (by first|exact (Ext.refl wr).drew|exact (Ext.refl wr).drew.alloc _)).mono ?_;rintro e w5 ⟨⟨v5,u5,rfl,hv5,hu5,hok5⟩,hx5⟩
               have HX5:=zh (show Ext wr w5 from (by first|exact (Ext.refl wr).drew.trans' hx5|exact ((Ext.refl wr).drew.alloc _).trans' hx5));obtain⟨X5,e5,rfl,hx51,hx52⟩:=jaa.form hv5;obtain⟨Y5,g5,rfl,hy51,hy52⟩:=jaa.form hu5;have HV5:=zh hv5;have HU5:=zh hu5;clear hv5 hu5
               try (have hbx:=(Blk.new wr 322 #[.slice none 0 0,.slice none 0 0]).drew.ext hx5
                    have j0:=hbx.cell 0;have j1:=hbx.cell 1;have j2:=hbx.frozen 0;have j3:=hbx.frozen 1;have hl52:=hbx.lt;simp at j0 j1)))
            all_goals
             first
             | have HBO:=zh (jxs HX5.out (L:=wr.drew.heap.size) rfl HV5.out HU5.out hok5)
             | have HBO:=zh (jxt hbx HX5.out (by simp) (by rw[HN0.out];exact hxo.size) HV5.out HU5.out hok5)
             have u0:=HBO.out.blk.cell 0;have u1:=HBO.out.blk.cell 1;have hul:=HBO.out.blk.lt;cases hm:(jcy p.atom f bd).2
             · have HMT:=zh (show jbs p.atom (xs.take (r+1)) bd=jbs p.atom (xs.take r) bd from by rw[jhk p.atom HFK.out,hm];simp)
               clear hm;go_wp2;go_roundw
               case rel=>exact⟨r+1,by omega,by go_num,zh (by rw[HMT.out];exact hor.out.ext HBO.out.ext),hxr.trans' HBO.out.ext⟩
               case measure=>simp[intOf];omega
             have HMT:=zh (show jbs p.atom (xs.take (r+1)) bd=jbs p.atom (xs.take r) bd++[(jcy p.atom f bd).1] from by rw[jhk p.atom HFK.out,hm];simp);have hlen:((out.take q).flatMap (jbs p.atom xs)++jbs p.atom (xs.take r) bd).length+1≤1000000000000:=Nat.le_trans (jzt HBK.out HFK.out hm) (by rw[← HN.out];exact HMO.out);have HNB0:N0≤wr.heap.size:=by rw[HN0.out];exact hxo.size
             clear hm;have HP1:=zh (show ∀ o,OwnK kBind N0 322 (From w.heap.size) (World.alloc _ o) (.slice A2 n2 c2) ((out.take q).flatMap (jbs p.atom xs)++jbs p.atom (xs.take r) bd) from fun o=>(hor.out.ext HBO.out.ext).alloc o);have HP2:=zh (fun (g:Nat) (hg:g=_)=>jas.one (k:=kBind) (x:=(jcy p.atom f bd).1) (S:=fun i=>(w.heap.size≤i∧i<N0)∨wr.heap.size≤i) (Blk.at_new (t:=322) hg) ⟨_,_,rfl,HBO.out.ns.ext ((Ext.refl _).alloc _),HBO.out.vs.ext ((Ext.refl _).alloc _),HBO.out.ok⟩);have HP3:=zh (show ∀ g,(Value.slice A2 n2 c2).ownBlock=some g→¬ ((w.heap.size≤g∧g<N0)∨wr.heap.size≤g) from fun g hg hT=>by have:=hor.out.at_ g hg;rcases hT with h|h<;>omega);have HP4:=zh (show ∀ b,((w.heap.size≤b∧b<N0)∨wr.heap.size≤b)→From w.heap.size b from fun b hb=>hb.elim (fun h=>h.1) (fun h=>Nat.le_trans hxw.size h));have HP5:=zh (Nat.le_trans HNB0 HBO.out.ext.size);go_wp2_with (at_builtin;go_loud (refine jcn (k:=kBind) (S:=From w.heap.size) (T:=fun i=>(w.heap.size≤i∧i<N0)∨wr.heap.size≤i) (base:=N0) rfl (.tmp 56) (.tmp 58) 318 (by rfl) i0 _ 48 Tryz.underlying318 hi0 hz0 hz1 hz3 hz2 (by rfl) (HP1.out _) _ 1 1 (by rfl) (HP2.out _ (by simp)) (fun b hb _=>HP4.out b hb) HP3.out (by unfold maxLen;omega) (by omega) (Nat.le_trans HP5.out (by go_size)) ?_;intro v1 w3 hap))
             go_roundw
             case rel=>exact⟨r+1,by omega,by go_num,zh (by rw[HMT.out,← List.append_assoc];exact hap.own),hap.toExt (hxr.trans' (HBO.out.ext.alloc _)) (Nat.le_of_eq HN0.out.symm)⟩
             case measure=>simp[intOf];omega
          have HE:=zh (show xs.take r=xs from List.take_of_length_le (by omega));have HQ:=zh (jqw (jbs p.atom xs) HBK.out);go_wp2;go_roundw
          case rel=>exact⟨q+1,by omega,by go_num,zh (by rw[HQ.out];have h:=hor.out;rw[HE.out] at h;exact h),hxr⟩
          case measure=>simp[intOf];omega
       have HE:=zh (show out.take q=out from List.take_of_length_le (by omega));have hol:=hoq.out;rw[HE.out,← HN.out] at hol;go_wp2;go_roundw
       case rel=>exact⟨k+1,by omega,by go_num,zh (hol.sub hN1 (fun _ h=>h)),hx.trans' hxq⟩
       case measure=>simp[intOf];omega
    rw[hno] at r0;have HN:=zh (show (ps.take (k+1)).foldl (jbi xs) [⟨[],[]⟩]=(ps.take k).foldl (jbi xs) [⟨[],[]⟩] from by rw[jnq _ _ HPK.out];unfold jbi;simp[hno]);clear hno;go_wp2;go_roundw
    case rel=>exact⟨k+1,by omega,by go_num,zh (by rw[HN.out];exact ho.out),hx⟩
    case measure=>simp[intOf];omega
  have HE:=zh (show ps.take k=ps from List.take_of_length_le (by omega));have hol:=ho.out;rw[HE.out] at hol;have HL:=zh (hol.list (S':=From w.heap.size) (fun _ h=>h) (fun _ h=>h));have HMO:=zh (jkl xs ps hxl hpl);rw[HE.out] at hn0;obtain rfl:=hn0.out;clear hol;go_wp2_with (go_at_call 305;refine (jox xs ps _ _ _ _ _ (HV.out.ext hx) (HU.out.ext hx) HL.out (fun p hp=>Nat.le_trans (HPS.out p hp) (by omega)) HMO.out).mono ?_;rintro e w1 ⟨⟨v1,rfl,ho1⟩,hx1⟩)
  go_ret;exact⟨⟨_,rfl,ho1.list (S':=From w.heap.size) (fun _ h=>h.1) (fun g hg=>Nat.le_trans hx.size hg)⟩,hx.trans' hx1⟩
theorem jkm {m:Nat}:∀ (ps:List GP) (o:List ByteArray),(∀ p∈ps,p.atom.args.length≤m)→(ps.foldl (fun o p=>ja9 o p.atom) o).length≤o.length+ps.length*m
 | [],o,_=>by simp
 | p :: ps,o,h=>by
   have h1:=jkm ps (ja9 o p.atom) (fun q hq=>h q (List.mem_cons_of_mem _ hq));have h2:=jej o p.atom;have h3:=h p List.mem_cons_self;have h4:(ps.length+1)*m=ps.length*m+m:=by rw[Nat.add_mul,Nat.one_mul]
   rw[List.foldl_cons,List.length_cons,h4];omega
theorem jvy {m:Nat} {ps:List GP} (h:∀ p∈ps,p.atom.args.length≤m):(varsN ps).length≤ps.length*m:=by
 have:=jkm ps [] h;simpa [varsN] using this
theorem jab.beyond {S:Nat→Prop} {a b c:World} {n:Nat} (h:jab S a b) (k:Below n b c) (hn:a.heap.size≤n):jab S a c :=
 ⟨k.os.trans h.os,k.tape.trans h.tape,k.output.trans h.output,Nat.le_trans h.size k.size,fun i hi hS=>(k.block i (Nat.lt_of_lt_of_le hi hn)).trans (h.block i hi hS)⟩
theorem jab.cell {S:Nat→Prop} {a b:World} (h:jab S a b) {g o:Nat} {u:Value} (hg:g<a.heap.size) (hS:¬ S g) (hc:a.cell? ⟨g,o,none⟩=some u):b.cell? ⟨g,o,none⟩=some u :=
 (World.cell?_of_block (w:=a) (a:=⟨g,o,none⟩) (h.block g hg hS)).trans hc
def termP (W:Words) (s:GS):GT:=⟨false,jau W s⟩
theorem jqz (p:GPat) (pv:Value) (S:Sea) (sb:Nat) (w:World) {P:Nat→Prop} (hs:SeaAt w sb S) (hp:jbc P w pv p.slots) (hok:∀ s∈p.slots,jb3 12 s) (hn:p.slots.length≤1000) :
  Calls Tryz.prog 274 #[.pointer (some ⟨sb,18,none⟩),.agg #[.string p.n,pv]] w fun e w'=>(∃ v',e=.returned (.agg #[.string p.n,v'])∧jae (From w.heap.size) w' v' (factP S.W p).args)∧Ext w w':=by
 obtain⟨A,c,rfl,hc1,hc2⟩:=jaa.form hp;obtain⟨i0,hi0,hz0,hz1,hz2⟩:=info_parts jgb;obtain⟨W0,hW0⟩:∃ W0,W0=((w.alloc (.cells #[.string p.n,.slice A p.slots.length c] 305)).alloc (.cells #[.string ⟨#[]⟩,.slice none 0 0] 43)).alloc (.cells #[.string p.n,.slice none 0 0] 43):=⟨_,rfl⟩
 have HB0:=zh (show Blk W0 w.heap.size 305 #[.string p.n,.slice A p.slots.length c] from by rw[hW0];exact ((Blk.new _ _ _).alloc _).alloc _);have HB1:=zh (show Blk W0 (w.heap.size+1) 43 #[.string ⟨#[]⟩,.slice none 0 0] from by rw[hW0];exact (Blk.at_new (by simp)).alloc _);have HB2:=zh (show Blk W0 (w.heap.size+1+1) 43 #[.string p.n,.slice none 0 0] from by rw[hW0];exact Blk.at_new (by simp));have HE0:=zh (show Ext w W0 from by rw[hW0];exact (((Ext.refl _).alloc _).alloc _).alloc _);have hz:W0.heap.size=w.heap.size+1+1+1:=by rw[hW0];simp
 have HW0:=zh hW0;have HZ:=zh hz;have HS:=zh (hs.ext HE0.out);have HP:=zh hp;have HOK:=zh hok;have HAP0:=zh (show (factP S.W p).args=p.slots.map (termP S.W) from rfl);have hsl:=hs.lt;clear hs hp hok hW0 hz
 go_enter Tryz.func274,Tryz.ntmps274;go_wp2_with fail
 rw[← HW0.out];go_loopw [14] (fun i wr=>∃ (k:Nat) (q:Value),k≤p.slots.length∧i=.int .i64 k∧Hid (Blk wr (w.heap.size+1+1) 43 #[.string p.n,q])∧Hid (OwnK kTerm (w.heap.size+1+1+1) 60 None wr q ((p.slots.take k).map (termP S.W)))∧Hid (jab (fun b=>b=w.heap.size+1+1) W0 wr)) (fun i _=>p.slots.length-(intOf i).toNat)
 case atStart=>exact⟨0,_,Nat.zero_le _,rfl,HB2,zh OwnK.nil,zh (jab.refl _ _)⟩
 case round =>
  obtain⟨k,q,hk,rfl,hob,hown,hin⟩:=hrel;have hk0:(0:Int)≤(k:Int):=by omega
  obtain⟨OA,on,oc,rfl,hon,ho1,ho2⟩:=hown.out.form2;have hsz:=hin.out.size;rw[HZ.out] at hsz;have o0:=hob.out.cell 0;have o1:=hob.out.cell 1;have of1:=hob.out.frozen 1;have hl1:=hob.out.lt;by_cases hlt:k<p.slots.length
  · have hk1 : (k:Int)<(p.slots.length:Int):=by omega
    obtain⟨bs,os,sl,rfl,hbs,hsk,hss,hs0,hs1⟩:=jbc.at_ HP.out hlt;obtain⟨z,hzz⟩:∃ z,z=jau S.W sl:=⟨_,rfl⟩
    have HT:=zh (show (p.slots.take (k+1)).map (termP S.W)=(p.slots.take k).map (termP S.W)++[⟨false,z⟩] from by rw[hzz,List.take_add_one,hsk,List.map_append];rfl);have HLK:=zh (show ((p.slots.take k).map (termP S.W)).length=k from by rw[List.length_map,List.length_take];omega);have hinw:=(jab.of_ext (S:=fun b=>b=w.heap.size+1+1) HE0.out).trans' hin.out;have c0:=hinw.cell hbs (fun e=>by omega) hs0;have c1:=hinw.cell hbs (fun e=>by omega) hs1;have hbsw:bs<wr.heap.size:=by omega
    have HSW:=zh (hin.out.sub (T:=fun b=>b=w.heap.size+1+1) (fun _ h _=>h));have hse:=HS.out.inside hin.out (fun e=>by omega);have hzs:z.size≤maxLen:=by rw[hzz];exact jki hse hss
    have HWO:=zh (fun (W:World) (hW:Ext wr W)=>show Calls Tryz.prog 307 #[.pointer (some ⟨sb,18,none⟩),.agg #[.int .i64 sl.num,.string sl.w]] W fun e w'=>e=.returned (.string z)∧Ext W w' from by
     rw[hzz];exact jjh sl S sb W (hse.ext hW) (HOK.out sl (List.mem_of_getElem? hsk)))
    have HX:=zh (Blk.new wr 361 #[.int .i64 sl.num,.string sl.w]);clear hsk hzz hs0 hs1 hinw hse;go_wp2_with fail
    refine wp_region_noPanic ?_;refine wp_region_held_drew (S:=(fun w'=>w'.cell? ⟨wr.heap.size,0,none⟩=some (.int .i64 sl.num)∧w'.cell? ⟨wr.heap.size,1,none⟩=some (.string sl.w))) (by kernel_rfl) ?_ (fun hHeld=>?_)
    · (try dsimp only);(exact⟨HX.out.drew.cell 0,HX.out.drew.cell 1⟩)
    refine tk 0 (v:=?_) rfl ?_ ?_;rotate_left;((intro w hSw;(try dsimp only at hSw);go_simp)<;>with_reducible rfl);(try simp only[Act.put,stz])
    refine tk 2 (v:=?_) rfl ?_ ?_;rotate_left;((intro w hSw;(try dsimp only at hSw);go_simp)<;>with_reducible rfl);(try simp only[Act.put,stz])
    refine tk 3 (v:=?_) rfl ?_ ?_;rotate_left;((intro w hSw;(try dsimp only at hSw);go_simp)<;>with_reducible rfl);(try simp only[Act.put,stz])
    refine wpAnyH_ready (rs:=[1,4]) (by kernel_rfl) (by simp) ?_;refine AllReadyH.cons (o:=_) rfl (fun K hK=>?_) ?_
    · go_simp
      refine hK.out _ _ ?_ (fun hNew=>?_)
      · (try dsimp only);(exact⟨HX.out.drew.cell 0,HX.out.drew.cell 1⟩)
      clear hK K hHeld;have hHeld:=hNew;clear hNew;try simp only[Act.put,stz]
      refine wpAnyH_ready (rs:=[4]) (by kernel_rfl) (by simp) ?_;refine AllReadyH.cons (o:=_) rfl (fun K hK=>?_) ?_
      · go_simp
        go_at_call 307;refine (HWO.out _ (((Ext.refl wr).alloc _).drew)).mono ?_;rintro e w4 ⟨rfl,hx4⟩
        have HX4:=zh (show Ext wr w4 from (((Ext.refl wr).alloc _).drew).trans' hx4);have HB4:=zh (HX.out.drew.ext hx4);have hob4:=hob.out.ext HX4.out;have y0:=hob4.cell 0;have y1:=hob4.cell 1;have yl:=hob4.lt;clear hx4 hob4;refine hK.out _ _ ?_ (fun hNew=>?_)
        · (try dsimp only);(exact⟨HB4.out.cell 0,HB4.out.cell 1⟩)
        clear hK K hHeld;have hHeld:=hNew;clear hNew;try simp only[Act.put,stz]
        refine tk 5 (v:=?_) rfl ?_ ?_;rotate_left;((intro w hSw;(try dsimp only at hSw);go_simp)<;>with_reducible rfl);(try simp only[Act.put,stz])
        refine wpAnyH_ready (rs:=[6]) (by kernel_rfl) (by simp) ?_;refine AllReadyH.cons (o:=_) rfl (fun K hK=>?_) ?_
        · go_simp
          refine hK.out _ _ ?_ (fun hNew=>?_)
          · (try dsimp only);(exact⟨(HB4.out.alloc _).cell 0,(HB4.out.alloc _).cell 1⟩)
          clear hK K hHeld;have hHeld:=hNew;clear hNew;try simp only[Act.put,stz]
          refine wpAnyH_ready (rs:=[7]) (by kernel_rfl) (by simp) ?_;refine AllReadyH.cons (o:=_) rfl (fun K hK=>?_) ?_
          · refine jb2 (o:=⟨some 25,_,_,_,_,_⟩) (k:=kTerm) (S:=None) (T:=None) (base:=w.heap.size+1+1+1) (xs:=(p.slots.take k).map (termP S.W)) (ys:=[⟨false,z⟩]) (by rfl) (.tmp 19) (.tmp 24) 41 (by rfl) i0 _ 24 Tryz.underlying41 hi0 hz0 hz1 hz2 (by rfl) (by rfl) ((hown.out.ext HX4.out).alloc _) _ 1 1 (by rfl) (jas.one (k:=kTerm) (x:=⟨false,z⟩) (l:=[.bool false,.string z]) (Blk.new _ _ _) ⟨rfl,hzs⟩) (fun _ h=>h.elim) (maxOf (by rw[HLK.out];simp;omega)) (by rw[HLK.out];omega) (by have:=HX4.out.size;go_size) ?_
            intro v2 w6 hap;obtain⟨B2,n2,d2,rfl,hn2,hd21,hd22⟩:=hap.own.form2;have HAP:=zh hap;have HX6:=zh ((hin.out.trans' (jab.of_ext (HX4.out.alloc _))).beyond hap.below (by rw[HZ.out];exact Nat.le_refl _));have HB6:=zh (hap.blk2 (HB4.out.alloc _) (fun e=>by have:=(hown.out.at_ _ e).2;omega));have hob2:=((hob.out.ext HX4.out).alloc _).below hap.below (by omega);have z0:=hob2.cell 0;have z1:=hob2.cell 1;have zf:=hob2.frozen 1;have zl:=hob2.lt;have HOB:=zh hob2;clear hap hob2;refine hK.out _ _ ?_ (fun hNew=>?_)
            · (try dsimp only);(exact⟨HB6.out.cell 0,HB6.out.cell 1⟩)
            clear hK K hHeld;have hHeld:=hNew;clear hNew;try simp only[Act.put,stz]
            refine tk 8 (v:=?_) rfl ?_ ?_;rotate_left;((intro w hSw;(try dsimp only at hSw);go_simp)<;>with_reducible rfl);(try simp only[Act.put,stz])
            refine wpAnyH_ready (rs:=[9]) (by kernel_rfl) (by simp) ?_;refine AllReadyH.cons (o:=_) rfl (fun K hK=>?_) ?_
            · go_simp
              refine hK.out _ _ ?_ (fun hNew=>?_)
              · (try dsimp only);(exact⟨(HB6.out.far (p:=⟨w.heap.size+1+1,1,none⟩) (Nat.ne_of_gt hl1) _).cell 0,(HB6.out.far (p:=⟨w.heap.size+1+1,1,none⟩) (Nat.ne_of_gt hl1) _).cell 1⟩)
              clear hK K hHeld;have hHeld:=hNew;clear hNew;try simp only[Act.put,stz]
              refine wpAnyH_done (by kernel_rfl) ?_ _;refine NoPanic.normal ?_;go_wp2;go_roundw
              case rel =>
               refine⟨k+1,_,by omega,by go_num,zh (by simpa using HOB.out.set_ 1 (.slice B2 n2 d2)),zh (by rw[HT.out];exact HAP.out.own.set (p:=⟨_,1,none⟩) (Nat.lt_succ_self _) (fun h=>h) _),zh ?_⟩;exact HX6.out.trans' (jab.set _ ⟨w.heap.size+1+1,1,none⟩ _ rfl)
              case measure=>simp[intOf];omega
            exact AllReadyH.nil
          exact AllReadyH.nil
        exact AllReadyH.nil
      exact AllReadyH.nil
    refine AllReadyH.cons (o:=_) rfl (fun K hK=>?_) ?_
    · go_simp
      go_at_call 307;refine (HWO.out _ (((Ext.refl wr).alloc _).drew)).mono ?_;rintro e w4 ⟨rfl,hx4⟩
      have HX4:=zh (show Ext wr w4 from (((Ext.refl wr).alloc _).drew).trans' hx4);have HB4:=zh (HX.out.drew.ext hx4);have hob4:=hob.out.ext HX4.out;have y0:=hob4.cell 0;have y1:=hob4.cell 1;have yl:=hob4.lt;clear hx4 hob4;refine hK.out _ _ ?_ (fun hNew=>?_)
      · (try dsimp only);(exact⟨HB4.out.cell 0,HB4.out.cell 1⟩)
      clear hK K hHeld;have hHeld:=hNew;clear hNew;try simp only[Act.put,stz]
      refine tk 5 (v:=?_) rfl ?_ ?_;rotate_left;((intro w hSw;(try dsimp only at hSw);go_simp)<;>with_reducible rfl);(try simp only[Act.put,stz])
      refine wpAnyH_ready (rs:=[1,6]) (by kernel_rfl) (by simp) ?_;refine AllReadyH.cons (o:=_) rfl (fun K hK=>?_) ?_
      · go_simp
        refine hK.out _ _ ?_ (fun hNew=>?_)
        · (try dsimp only);(exact⟨HB4.out.cell 0,HB4.out.cell 1⟩)
        clear hK K hHeld;have hHeld:=hNew;clear hNew;try simp only[Act.put,stz]
        refine wpAnyH_ready (rs:=[6]) (by kernel_rfl) (by simp) ?_;refine AllReadyH.cons (o:=_) rfl (fun K hK=>?_) ?_
        · go_simp
          refine hK.out _ _ ?_ (fun hNew=>?_)
          · (try dsimp only);(exact⟨(HB4.out.alloc _).cell 0,(HB4.out.alloc _).cell 1⟩)
          clear hK K hHeld;have hHeld:=hNew;clear hNew;try simp only[Act.put,stz]
          refine wpAnyH_ready (rs:=[7]) (by kernel_rfl) (by simp) ?_;refine AllReadyH.cons (o:=_) rfl (fun K hK=>?_) ?_
          · refine jb2 (o:=⟨some 25,_,_,_,_,_⟩) (k:=kTerm) (S:=None) (T:=None) (base:=w.heap.size+1+1+1) (xs:=(p.slots.take k).map (termP S.W)) (ys:=[⟨false,z⟩]) (by rfl) (.tmp 19) (.tmp 24) 41 (by rfl) i0 _ 24 Tryz.underlying41 hi0 hz0 hz1 hz2 (by rfl) (by rfl) ((hown.out.ext HX4.out).alloc _) _ 1 1 (by rfl) (jas.one (k:=kTerm) (x:=⟨false,z⟩) (l:=[.bool false,.string z]) (Blk.new _ _ _) ⟨rfl,hzs⟩) (fun _ h=>h.elim) (maxOf (by rw[HLK.out];simp;omega)) (by rw[HLK.out];omega) (by have:=HX4.out.size;go_size) ?_
            intro v2 w6 hap;obtain⟨B2,n2,d2,rfl,hn2,hd21,hd22⟩:=hap.own.form2;have HAP:=zh hap;have HX6:=zh ((hin.out.trans' (jab.of_ext (HX4.out.alloc _))).beyond hap.below (by rw[HZ.out];exact Nat.le_refl _));have HB6:=zh (hap.blk2 (HB4.out.alloc _) (fun e=>by have:=(hown.out.at_ _ e).2;omega));have hob2:=((hob.out.ext HX4.out).alloc _).below hap.below (by omega);have z0:=hob2.cell 0;have z1:=hob2.cell 1;have zf:=hob2.frozen 1;have zl:=hob2.lt;have HOB:=zh hob2;clear hap hob2;refine hK.out _ _ ?_ (fun hNew=>?_)
            · (try dsimp only);(exact⟨HB6.out.cell 0,HB6.out.cell 1⟩)
            clear hK K hHeld;have hHeld:=hNew;clear hNew;try simp only[Act.put,stz]
            refine tk 8 (v:=?_) rfl ?_ ?_;rotate_left;((intro w hSw;(try dsimp only at hSw);go_simp)<;>with_reducible rfl);(try simp only[Act.put,stz])
            refine wpAnyH_ready (rs:=[9]) (by kernel_rfl) (by simp) ?_;refine AllReadyH.cons (o:=_) rfl (fun K hK=>?_) ?_
            · go_simp
              refine hK.out _ _ ?_ (fun hNew=>?_)
              · (try dsimp only);(exact⟨(HB6.out.far (p:=⟨w.heap.size+1+1,1,none⟩) (Nat.ne_of_gt hl1) _).cell 0,(HB6.out.far (p:=⟨w.heap.size+1+1,1,none⟩) (Nat.ne_of_gt hl1) _).cell 1⟩)
              clear hK K hHeld;have hHeld:=hNew;clear hNew;try simp only[Act.put,stz]
              refine wpAnyH_done (by kernel_rfl) ?_ _;refine NoPanic.normal ?_;go_wp2;go_roundw
              case rel =>
               refine⟨k+1,_,by omega,by go_num,zh (by simpa using HOB.out.set_ 1 (.slice B2 n2 d2)),zh (by rw[HT.out];exact HAP.out.own.set (p:=⟨_,1,none⟩) (Nat.lt_succ_self _) (fun h=>h) _),zh ?_⟩;exact HX6.out.trans' (jab.set _ ⟨w.heap.size+1+1,1,none⟩ _ rfl)
              case measure=>simp[intOf];omega
            exact AllReadyH.nil
          exact AllReadyH.nil
        exact AllReadyH.nil
      refine AllReadyH.cons (o:=_) rfl (fun K hK=>?_) ?_
      · go_simp
        refine hK.out _ _ ?_ (fun hNew=>?_)
        · (try dsimp only);(exact⟨(HB4.out.alloc _).cell 0,(HB4.out.alloc _).cell 1⟩)
        clear hK K hHeld;have hHeld:=hNew;clear hNew;try simp only[Act.put,stz]
        refine wpAnyH_ready (rs:=[1]) (by kernel_rfl) (by simp) ?_;refine AllReadyH.cons (o:=_) rfl (fun K hK=>?_) ?_
        · go_simp
          refine hK.out _ _ ?_ (fun hNew=>?_)
          · (try dsimp only);(exact⟨(HB4.out.alloc _).cell 0,(HB4.out.alloc _).cell 1⟩)
          clear hK K hHeld;have hHeld:=hNew;clear hNew;try simp only[Act.put,stz]
          refine wpAnyH_ready (rs:=[7]) (by kernel_rfl) (by simp) ?_;refine AllReadyH.cons (o:=_) rfl (fun K hK=>?_) ?_
          · refine jb2 (o:=⟨some 25,_,_,_,_,_⟩) (k:=kTerm) (S:=None) (T:=None) (base:=w.heap.size+1+1+1) (xs:=(p.slots.take k).map (termP S.W)) (ys:=[⟨false,z⟩]) (by rfl) (.tmp 19) (.tmp 24) 41 (by rfl) i0 _ 24 Tryz.underlying41 hi0 hz0 hz1 hz2 (by rfl) (by rfl) ((hown.out.ext HX4.out).alloc _) _ 1 1 (by rfl) (jas.one (k:=kTerm) (x:=⟨false,z⟩) (l:=[.bool false,.string z]) (Blk.new _ _ _) ⟨rfl,hzs⟩) (fun _ h=>h.elim) (maxOf (by rw[HLK.out];simp;omega)) (by rw[HLK.out];omega) (by have:=HX4.out.size;go_size) ?_
            intro v2 w6 hap;obtain⟨B2,n2,d2,rfl,hn2,hd21,hd22⟩:=hap.own.form2;have HAP:=zh hap;have HX6:=zh ((hin.out.trans' (jab.of_ext (HX4.out.alloc _))).beyond hap.below (by rw[HZ.out];exact Nat.le_refl _));have HB6:=zh (hap.blk2 (HB4.out.alloc _) (fun e=>by have:=(hown.out.at_ _ e).2;omega));have hob2:=((hob.out.ext HX4.out).alloc _).below hap.below (by omega);have z0:=hob2.cell 0;have z1:=hob2.cell 1;have zf:=hob2.frozen 1;have zl:=hob2.lt;have HOB:=zh hob2;clear hap hob2;refine hK.out _ _ ?_ (fun hNew=>?_)
            · (try dsimp only);(exact⟨HB6.out.cell 0,HB6.out.cell 1⟩)
            clear hK K hHeld;have hHeld:=hNew;clear hNew;try simp only[Act.put,stz]
            refine tk 8 (v:=?_) rfl ?_ ?_;rotate_left;((intro w hSw;(try dsimp only at hSw);go_simp)<;>with_reducible rfl);(try simp only[Act.put,stz])
            refine wpAnyH_ready (rs:=[9]) (by kernel_rfl) (by simp) ?_;refine AllReadyH.cons (o:=_) rfl (fun K hK=>?_) ?_
            · go_simp
              refine hK.out _ _ ?_ (fun hNew=>?_)
              · (try dsimp only);(exact⟨(HB6.out.far (p:=⟨w.heap.size+1+1,1,none⟩) (Nat.ne_of_gt hl1) _).cell 0,(HB6.out.far (p:=⟨w.heap.size+1+1,1,none⟩) (Nat.ne_of_gt hl1) _).cell 1⟩)
              clear hK K hHeld;have hHeld:=hNew;clear hNew;try simp only[Act.put,stz]
              refine wpAnyH_done (by kernel_rfl) ?_ _;refine NoPanic.normal ?_;go_wp2;go_roundw
              case rel =>
               refine⟨k+1,_,by omega,by go_num,zh (by simpa using HOB.out.set_ 1 (.slice B2 n2 d2)),zh (by rw[HT.out];exact HAP.out.own.set (p:=⟨_,1,none⟩) (Nat.lt_succ_self _) (fun h=>h) _),zh ?_⟩;exact HX6.out.trans' (jab.set _ ⟨w.heap.size+1+1,1,none⟩ _ rfl)
              case measure=>simp[intOf];omega
            exact AllReadyH.nil
          exact AllReadyH.nil
        exact AllReadyH.nil
      exact AllReadyH.nil
    exact AllReadyH.nil
  have HE:=zh (show (p.slots.take k).map (termP S.W)=(factP S.W p).args from by rw[List.take_of_length_le (by omega),HAP0.out]);have hb1:=hin.out.blk HB1.out (fun e=>by omega);have r0:=hb1.cell 0;have r1:=hb1.cell 1;have rf0:=hb1.frozen 0;have rf1:=hb1.frozen 1;have hl0:=hb1.lt;go_wp2;refine bodyPost_ret (v:=.agg #[.string p.n,.slice OA on oc]) (by simp[results,Tryz.results274,go_sem,r0,r1]) rfl ⟨⟨_,rfl,?_⟩,?_⟩
  · have h1:=hown.out.list (S':=From (w.heap.size+1+1+1)) (fun _ h=>h.elim) (fun _ h=>h)
    rw[HE.out] at h1;exact jae.imp h1 (jdi (by omega)) (((Agree.refl _ _).setCell (jeu (by show w.heap.size+1<_;omega)) _).setCell (jeu (by show w.heap.size+1<_;omega)) _) (by go_size)
  exact Ext.setNew (a:=w) (Ext.setNew (hin.out.toExt HE0.out (fun i hi=>by omega)) (by show _≤w.heap.size+1;omega) _) (by show _≤w.heap.size+1;omega) _
theorem jii {s:ByteArray} (h:isNo s=true):s.toList.isEmpty=true∧(s.toList == [])=true:=by
 have:=jt9.1 h;subst this;have h1:=jt4 (s:=jcq) rfl;rw[h1];exact⟨rfl,rfl⟩
theorem jgw {s:ByteArray} (h:isNo s=false):s.toList.isEmpty=false∧(s.toList == [])=false:=by
 have h0:¬ s.size=0:=fun e=>by unfold isNo at h;rw[decide_eq_true e] at h;cases h
 have h1:=jw2 h0;exact⟨h1,by cases hl:s.toList with|nil=>rw[hl] at h1;cases h1|cons=>rfl⟩
theorem jq0 (p:GPat) (a:GA) (pv tv:Value) (S:Sea) (sb:Nat) (w:World) {P T:Nat→Prop} (hs:SeaAt w sb S) (hp:jbc P w pv p.slots) (ht:jae T w tv a.args) (hP:¬ P sb) (hT:¬ T sb) (hok:∀ s∈p.slots,jb3 12 s) (hb:Bok S.W (S.bd.take S.cnt)) :
  Calls Tryz.prog 298 #[.pointer (some ⟨sb,18,none⟩),.agg #[.string p.n,pv],.agg #[.string a.n,tv]] w fun e w'=>e=.returned (.bool (jak p a S.W).2)∧(∃ Q,SeaAt w' sb Q∧Q.W=(jak p a S.W).1∧jey S Q (jeg p a S.W))∧jab (fun b=>b=sb) w w':=by
 obtain⟨A,c,rfl,hc1,hc2⟩:=jaa.form hp;obtain⟨B,d,rfl,hd1,hd2⟩:=jaa.form ht;have hsl:=hs.lt;obtain⟨W0,hW0⟩:∃ W0,W0=(w.alloc (.cells #[.string p.n,.slice A p.slots.length c] 305)).alloc (.cells #[.string a.n,.slice B a.args.length d] 43):=⟨_,rfl⟩
 have hB0:Blk W0 w.heap.size 305 #[.string p.n,.slice A p.slots.length c]:=by rw[hW0];exact (Blk.new _ _ _).alloc _
 have hB1:Blk W0 (w.heap.size+1) 43 #[.string a.n,.slice B a.args.length d]:=by rw[hW0];exact Blk.at_new (by simp)
 have HE0:=zh (show Ext w W0 from by rw[hW0];exact ((Ext.refl _).alloc _).alloc _);have HW0:=zh hW0;have p0:=hB0.cell 0;have p1:=hB0.cell 1;have a0:=hB1.cell 0;have a1:=hB1.cell 1;have pl:=hB0.lt;have al:=hB1.lt;have HB0:=zh hB0;have HB1:=zh hB1;have HS:=zh (hs.ext HE0.out);have HP:=zh (hp.ext HE0.out);have HT:=zh (ht.ext HE0.out);have HOK:=zh hok;have HMR:=zh (jey.refl hb);clear hs hp ht hok hb hB0 hB1;by_cases hnn:p.n=a.n
 · have hq1 : (p.n.toList == a.n.toList)=true:=by rw[hnn];exact beq_self_eq_true _
   have hq2:(a.n.toList == a.n.toList)=true:=beq_self_eq_true _;by_cases hll:p.slots.length=a.args.length
   · have HM := zh (show jak p a S.W=jb9 p.slots a.args S.W from by unfold jak;rw[if_pos ⟨hnn,hll⟩])
     have HTR:=zh (show jeg p a S.W=jdf p.slots a.args S.W from by unfold jeg;rw[if_pos ⟨hnn,hll⟩]);have hli:((p.slots.length:Int) == (a.args.length:Int))=true:=by simp[hll]
     have hli0:((p.slots.length:Int) != (a.args.length:Int))=false:=by simp[hll]
     have HLL:=zh hll;clear hnn hll
     go_enter Tryz.func298,Tryz.ntmps298;go_wp2_with fail
     rw[← HW0.out];try simp only[hli0]
     go_loopw [28] (fun i wr=>∃ (k:Nat) (Q:Sea) (l:List Nat),k≤p.slots.length∧i=.int .i64 k∧Hid (jb9 p.slots a.args S.W=jb9 (p.slots.drop k) (a.args.drop k) Q.W)∧Hid (jdf p.slots a.args S.W=l++jdf (p.slots.drop k) (a.args.drop k) Q.W)∧Hid (jey S Q l)∧Hid (SeaAt wr sb Q)∧Hid (jab (fun b=>b=sb) W0 wr)) (fun i _=>p.slots.length-(intOf i).toNat)
     case atStart=>exact⟨0,S,[],Nat.zero_le _,rfl,zh rfl,zh rfl,HMR,HS,zh (jab.refl _ _)⟩
     case round =>
      obtain⟨k,Q,l,hk,rfl,hmw,htw,hmd,hse,hin⟩:=hrel;have hk0:(0:Int)≤(k:Int):=by omega
      have hb0:=hin.out.blk HB0.out (fun e=>by omega);have hb1:=hin.out.blk HB1.out (fun e=>by omega);have u0:=hb0.cell 1;have u1:=hb1.cell 1;have ul:=hb0.lt;have ul1:=hb1.lt;have HBA:=zh hb1;have hfin:∀ W,jab (fun b=>b=sb) W0 W→jab (fun b=>b=sb) w W:=fun W hW=>(jab.of_ext HE0.out).trans' hW
      have HFI:=zh hfin;clear hb0 hb1 hfin;by_cases hlt:k<p.slots.length
      · have hk1 : (k:Int)<(p.slots.length:Int):=by omega
        have hk2:(k:Int)<(a.args.length:Int):=by have:=HLL.out;omega
        have hkt:k<a.args.length:=by have:=HLL.out;omega
        obtain⟨bs,os,sl,rfl,hbs,hsk,hss,hs0,hs1⟩:=jbc.at_ (jbc.impL (S':=P) HP.out (fun _ h _=>h) (fun b hb hlt=>hin.out.block b hlt (fun e=>hP (e▸hb))) hin.out.size) hlt;obtain⟨bt,ot,t,rfl,hbt,htk,hts,ht0,ht1⟩:=jae.at_ (jae.impL (S':=T) HT.out (fun _ h _=>h) (fun b hb hlt=>hin.out.block b hlt (fun e=>hT (e▸hb))) hin.out.size) hkt;have HMS:=zh (hmw.out.trans (jst hsk htk));have HTS:=zh (htw.out.trans (congrArg (l++ ·) (jsu hsk htk)));have HSO:=zh (HOK.out sl (List.mem_of_getElem? hsk));have hsl1:=hse.out.lt;clear hsk htk hmw htw;cases htv:t.v
        · rw [htv] at ht0 HMS HTS
          cases hno:isNo t.n
          · rw [hno] at HMS HTS
            obtain⟨hn1,hn2⟩:=jgw hno;obtain⟨z,hz⟩:∃ z,z=jau Q.W sl:=⟨_,rfl⟩
            rw[← hz] at HMS HTS
            have HWO:=zh (fun (W:World) (hW:Ext wr W)=>show Calls Tryz.prog 307 #[.pointer (some ⟨sb,18,none⟩),.agg #[.int .i64 sl.num,.string sl.w]] W fun e w'=>e=.returned (.string z)∧Ext W w' from by
             rw[hz];exact jjh sl Q sb W (hse.out.ext hW) HSO.out)
            have HZ:=zh hz;have HNO:=zh hno;have HX:=zh (Blk.new wr 361 #[.int .i64 sl.num,.string sl.w]);clear hz hno htv;cases hzn:isNo z
            · rw [hzn] at HMS HTS
              obtain⟨hz1,hz2⟩:=jgw hzn;by_cases hzt:z=t.n
              · have hq3:(z.toList == t.n.toList)=true:=by rw[hzt];exact beq_self_eq_true _
                have hq4:(t.n.toList == t.n.toList)=true:=beq_self_eq_true _;have HM1:=zh (show jb9 p.slots a.args S.W=jb9 (p.slots.drop (k+1)) (a.args.drop (k+1)) Q.W from by rw[HMS.out];simp[hzt]);have HT1:=zh (show jdf p.slots a.args S.W=l++jdf (p.slots.drop (k+1)) (a.args.drop (k+1)) Q.W from by rw[HTS.out];simp[hzt]);clear hzn hzt;go_wp2_with (go_at_call 307;refine (HWO.out _ ((Ext.refl _).alloc _)).mono ?_;rintro e w1 ⟨rfl,hx1⟩;have HX1:=zh (show Ext wr w1 from ((Ext.refl _).alloc _).trans' hx1))
                go_roundw
                case rel=>exact⟨k+1,Q,l,by omega,by go_num,HM1,HT1,hmd,zh (hse.out.ext HX1.out),zh (hin.out.trans' (jab.of_ext HX1.out))⟩
                case measure=>simp[intOf];omega
              have hq3:(z.toList == t.n.toList)=false:=jdg hzt;have HM1:=zh (show jak p a S.W=(Q.W,false) from by rw[HM.out,HMS.out];simp[hzt]);have HT1:=zh (show jeg p a S.W=l from by rw[HTR.out,HTS.out];simp[hzt]);clear hzn hzt;go_wp2_with (go_at_call 307;refine (HWO.out _ ((Ext.refl _).alloc _)).mono ?_;rintro e w1 ⟨rfl,hx1⟩;have HX1:=zh (show Ext wr w1 from ((Ext.refl _).alloc _).trans' hx1))
              go_ret;rw[HM1.out,HT1.out];exact⟨rfl,⟨Q,hse.out.ext HX1.out,rfl,hmd.out⟩,HFI.out _ (hin.out.trans' (jab.of_ext HX1.out))⟩
            rw[hzn] at HMS HTS;obtain⟨hz1,hz2⟩:=jii hzn
            obtain ⟨v,hv⟩:∃ v,sl.v=some v:=by
             cases hv:sl.v with
             | some v=>exact⟨v,rfl⟩
             | none =>
               have h1:=HSO.out;unfold jb3 at h1;rw[hv] at h1;have h2:=HZ.out;unfold jau at h2;rw[hv] at h2;simp only at h1 h2;rw[h2,h1] at hzn;cases hzn
            have hv12:v<12:=by have h1:=HSO.out;unfold jb3 at h1;rw[hv] at h1;exact h1
            have hnum:sl.num=(v:Int):=by unfold GS.num;rw[hv]
            have hwz:isNo (Q.W.at_ v)=true:=by have h2:=HZ.out;unfold jau at h2;rw[hv] at h2;simp only at h2;rw[← h2];exact hzn
            obtain⟨hcl,hmd2⟩:=hmd.out.step hse.out.lW hse.out.lB hv12 hwz HNO.out;have HM1:=zh (show jb9 p.slots a.args S.W=jb9 (p.slots.drop (k+1)) (a.args.drop (k+1)) (Q.W.set v t.n) from by rw[HMS.out];simp[bindW,hv]);have HT1:=zh (show jdf p.slots a.args S.W=(l++[v])++jdf (p.slots.drop (k+1)) (a.args.drop (k+1)) (Q.W.set v t.n) from by rw[HTS.out];simp[bindW,hv]);have HMD:=zh hmd2;have HSM:=zh hts;rw[hnum] at hs0 HWO HX;have hv0:(0:Int)≤(v:Int):=by omega
            have hv1:(v:Int)<12:=by omega
            have hc0':(0:Int)≤(Q.cnt:Int):=by omega
            have hc1':(Q.cnt:Int)<12:=by omega
            clear hzn hv hwz hmd2 hnum;go_wp2_with (go_at_call 307;refine (HWO.out _ ((Ext.refl _).alloc _)).mono ?_;rintro e w1 ⟨rfl,hx1⟩)
            have hs2:=hse.out.ext (((Ext.refl wr).alloc _).trans' hx1);have hi2:=hin.out.trans' (jab.of_ext (S:=fun b=>b=sb) (((Ext.refl wr).alloc _).trans' hx1));have hbx:=HX.out.ext hx1;have x0:=hbx.cell 0;have xl:=hbx.lt;have y0:=hs2.word hv12;have yf:=hs2.frozen (18+v);have yl:=hs2.lt;have HS2:=zh hs2;have HI2:=zh hi2;have HBX:=zh hbx;clear hs0 hs1 ht0 ht1 u0 u1 hs2 hi2 hbx
            go_still_tail 7,(by kernel_rfl)
            change wpList _ _ _ _ _ w1.drew;go_wp2;have hs3:=(HS2.out.setW hv12 HSM.out).ext (Ext.refl _).drew;have hi3:=HI2.out.trans' ((jab.set (S:=fun b=>b=sb) w1 ⟨sb,18+v,none⟩ (.string t.n) rfl).trans' (jab.of_ext (Ext.refl _).drew));have hb3:=(HBX.out.far (p:=⟨sb,18+v,none⟩) (by show wr.heap.size≠sb;omega) (.string t.n)).drew
            generalize (w1.setCell ⟨sb,18+v,none⟩ (.string t.n)).drew=w2 at hs3 hi3 hb3 ⊢
            have x3:=hb3.cell 0;have xl3:=hb3.lt;have z0:=hs3.cnt;have z1:=hs3.bound hcl;have zf:=hs3.frozen (30+Q.cnt);have zf2:=hs3.frozen 42;have zl:=hs3.lt;simp only at z0;have HS3:=zh hs3;have HI3:=zh hi3;clear x0 y0 yf hs3 hi3 hb3
            go_still_tail 10,(by kernel_rfl)
            change wpList _ _ _ _ _ w2.drew;go_wp2;go_roundw
            case rel =>
             refine⟨k+1,{ Q with W:=Q.W.set v t.n,bd:=Q.bd.set Q.cnt v,cnt:=Q.cnt+1 },l++[v],by omega,by go_num,HM1,HT1,HMD,zh ?_,zh ?_⟩
             · exact ((HS3.out.ext (Ext.refl w2).drew).setB hcl v).setC (Q.cnt+1)
             exact HI3.out.trans' ((jab.of_ext (Ext.refl w2).drew).trans' ((jab.set (S:=fun b=>b=sb) _ ⟨sb,30+Q.cnt,none⟩ _ rfl).trans' (jab.set (S:=fun b=>b=sb) _ ⟨sb,42,none⟩ _ rfl)))
            case measure=>simp[intOf];omega
          rw[hno] at HMS HTS;obtain⟨hn1,hn2⟩:=jii hno;have HM1:=zh (show jak p a S.W=(Q.W,false) from by rw[HM.out,HMS.out];rfl);have HT1:=zh (show jeg p a S.W=l from by rw[HTR.out,HTS.out];simp);clear hno htv;go_wp2;go_ret;rw[HM1.out,HT1.out];exact⟨rfl,⟨Q,hse.out.ext ((Ext.refl _).alloc _),rfl,hmd.out⟩,HFI.out _ (hin.out.trans' (jab.of_ext ((Ext.refl _).alloc _)))⟩
        rw[htv] at ht0 HMS HTS;have HM1:=zh (show jak p a S.W=(Q.W,false) from by rw[HM.out,HMS.out];rfl);have HT1:=zh (show jeg p a S.W=l from by rw[HTR.out,HTS.out];simp);clear htv;go_wp2;go_ret;rw[HM1.out,HT1.out];exact⟨rfl,⟨Q,hse.out.ext ((Ext.refl _).alloc _),rfl,hmd.out⟩,HFI.out _ (hin.out.trans' (jab.of_ext ((Ext.refl _).alloc _)))⟩
      have HE:=zh (jvt (ts:=a.args) (W:=Q.W) (show p.slots.length≤k by omega));have HM1:=zh (show jak p a S.W=(Q.W,true) from by rw[HM.out,hmw.out,HE.out.1]);have HT1:=zh (show jeg p a S.W=l from by rw[HTR.out,htw.out,HE.out.2,List.append_nil]);go_wp2;go_ret;rw[HM1.out,HT1.out];exact⟨rfl,⟨Q,hse.out,rfl,hmd.out⟩,HFI.out _ hin.out⟩
   have HM:=zh (show jak p a S.W=(S.W,false) from by unfold jak;rw[if_neg (fun h=>hll h.2)]);have HTR:=zh (show jeg p a S.W=[] from by unfold jeg;rw[if_neg (fun h=>hll h.2)]);have hli:((p.slots.length:Int) == (a.args.length:Int))=false:=by simp;omega
   have hli2:((p.slots.length:Int) != (a.args.length:Int))=true:=by simp;omega
   clear hnn hll
   go_enter Tryz.func298,Tryz.ntmps298;go_wp2_with fail
   rw[← HW0.out];go_ret;rw[HM.out,HTR.out];exact⟨rfl,⟨S,HS.out,rfl,HMR.out⟩,jab.of_ext HE0.out⟩
 have hq1:(p.n.toList == a.n.toList)=false:=jdg hnn;have HM:=zh (show jak p a S.W=(S.W,false) from by unfold jak;rw[if_neg (fun h=>hnn h.1)]);have HTR:=zh (show jeg p a S.W=[] from by unfold jeg;rw[if_neg (fun h=>hnn h.1)]);clear hnn
 go_enter Tryz.func298,Tryz.ntmps298;go_wp2_with fail
 rw[← HW0.out];go_ret;rw[HM.out,HTR.out];exact⟨rfl,⟨S,HS.out,rfl,HMR.out⟩,jab.of_ext HE0.out⟩
end Go.Proofs.YthdojieomhighaaGreatDoor
