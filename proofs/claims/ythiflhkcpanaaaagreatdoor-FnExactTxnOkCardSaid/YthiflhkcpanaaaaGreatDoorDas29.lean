/- Own texts, joined. -/
import Derived.Test.YthiflhkcpanaaaaGreatDoorDas28
set_option linter.unusedSimpArgs false
set_option linter.unusedVariables false
namespace Go.Proofs.YthiflhkcpanaaaaGreatDoor
open Go.RowKit
theorem StrsR.form2 {S:Nat->Prop} {w:World} {v:Value} {xs:List ByteArray} (h:StrsR S w v xs):∃ A n c,v=.slice A n c/\J1 (n=xs.length)/\n<=c/\c<=9223372036854775807:=by
 obtain⟨A,c,rfl,h1,h2⟩:=jaa.form h;exact⟨A,_,c,rfl,zh rfl,h1,h2⟩
theorem jdj (w:World) (o:Obj):((w.alloc o).drew).heap.size=w.heap.size+1:=by
 show (w.alloc o).heap.size=_;simp
theorem ja9.low' {n:Nat} {w:World} {v:Value} {xs:List GS} (h:ja9 (From n) w v xs):ja9 (fun b=>n<=b/\b<w.heap.size) w v xs:=ListK.low (k:=kSlot) h
theorem jxq {vs:List ByteArray} {ps:List GP} {k:Nat} {p:GP} (h:ps[k]? = some p):jcf vs (ps.take (k+1))=jcf vs (ps.take k)++(if p.no=true then [] else [patOf vs p.atom]):=by
 unfold jcf;rw[List.take_add_one,h,List.filter_append,List.map_append];cases hp:p.no<;>simp[hp]
theorem jz9 {vs:List ByteArray} {ps:List GP} {k:Nat} {p:GP} (h:ps[k]? = some p):jci vs (ps.take (k+1))=jci vs (ps.take k)++(if p.no=true then [patOf vs p.atom] else []):=by
 unfold jci;rw[List.take_add_one,h,List.filter_append,List.map_append];cases hp:p.no<;>simp[hp]
set_option maxRecDepth 100000 in
set_option maxHeartbeats 4000000 in
theorem jur (ps:List GP) (u:Value) (w:World) {S:Nat->Prop} (hu:jao S w u ps) (hps:∀ p∈ps,p.atom.args.length<=1000) (hpl:ps.length<=4) :
  Calls Tryz.prog 219 #[u] w fun e w'=>(∃ v0 v1 v2,e=.returned (.agg #[v0,v1,v2])/\PatsR (From w.heap.size) w' v0 (jcf (varsN ps) ps)/\PatsR (From w.heap.size) w' v1 (jci (varsN ps) ps)/\StrsR (From w.heap.size) w' v2 (varsN ps))/\Ext w w':=by
 obtain⟨B,d,rfl,hd1,hd2⟩:=jaa.form hu;have HU:=zh hu;have HPS:=zh hps;have HBV:=zh (fun (W:World) (hW:Ext w W)=>jsx ps _ W (hu.ext hW) hps hpl);clear hu hps
 go_in;go_wp2_with (first|(go_at_call 258;refine (HBV.o _ ((Ext.refl w).alloc _)).mono ?_;rintro e w1 ⟨⟨v1,rfl,hv1⟩,hx1⟩;obtain⟨A1,n1,c1,rfl,hn1,hc11,hc12⟩:=StrsR.form2 hv1)|fail)
 have HX1:=zh (show Ext w w1 from ((Ext.refl w).alloc _).t hx1);have HRB:=zh (show Blk w1 w.heap.size 246 #[.slice none 0 0,.slice none 0 0,.slice none 0 0] from (Blk.new _ _ _).ext hx1);have hs1:w.heap.size<w1.heap.size:=HRB.o.lt;have HV:=zh hv1;clear hv1 hx1;obtain⟨i0,hi0⟩:∃ i,Tryz.prog.info? 297=some i:=⟨_,by rfl⟩
 have hz0:i0.zero=some (.agg #[.string ⟨#[]⟩,.slice none 0 0]):=by have:=hi0;revert this;intro h;cases h;rfl
 have hz1:i0.size=2:=by have:=hi0;revert this;intro h;cases h;rfl
 have hz2:i0.bytes=40:=by have:=hi0;revert this;intro h;cases h;rfl
 go_loopw [11] (fun i wr=>∃ (k:Nat) (vp vn:Value) (Sp Sn:Nat->Prop),k<=ps.length/\i=.int .i64 k/\J1 (Blk wr w1.heap.size 246 #[vp,vn,.slice A1 n1 c1]/\TwoK (w1.heap.size+1) 297 Sp Sn wr vp (jcf (varsN ps) (ps.take k)) vn (jci (varsN ps) (ps.take k))/\(∀ b,Sp b->w1.heap.size+1<=b)/\(∀ b,Sn b->w1.heap.size+1<=b)/\Ext w1 wr)) (fun i _=>ps.length-(intOf i).toNat)
 case atStart=>exact⟨0,_,_,_,_,Nat.zero_le _,rfl,zh ⟨Blk.new _ _ _,TwoK.nil,fun _ h=>h.elim,fun _ h=>h.elim,(Ext.refl _).alloc _⟩⟩
 case round =>
  obtain⟨k,vp,vn,Sp,Sn,hk,rfl,hrl⟩:=hrel;obtain⟨hqb,htw,hsp,hsn,hx⟩:=hrl.o;have hk0:(0:Int)<=(k:Int):=by omega
  by_cases hlt:k<ps.length
  . have hk1 : (k : Int)<(ps.length:Int):=by omega
    obtain⟨bp,op,p,vp',rfl,hbp,hpk,hpn,hpt,hp0,hp1,hp2⟩:=jao.at_ (HU.o.ext (HX1.o.t hx)) hlt;obtain⟨G,cg,rfl,hcg1,hcg2⟩:=jaa.form hpt;have HPT:=zh hpt;have HPA:=zh (jxq (vs:=varsN ps) hpk);have HNO:=zh (jz9 (vs:=varsN ps) hpk);obtain⟨P0,pn,pc,rfl,hpn',hpc1,hpc2⟩:=htw.p.form2;obtain⟨N0,nn,nc,rfl,hnn',hnc1,hnc2⟩:=htw.n.form2;have q0:=hqb.cell 0;have q1:=hqb.cell 1;have q2:=hqb.cell 2;have ql:=hqb.lt;have HQB:=zh hqb;have HTW:=zh htw;have HX:=zh hx;have hmem:=List.mem_of_getElem? hpk;have hvv:∀ t∈p.atom.args,t.v=true->t.n∈varsN ps:=fun t ht htv=>jfh.2 ⟨p,hmem,jdz.2 ⟨t,ht,htv,rfl⟩⟩
    have hvl:(varsN ps).length<=4294967296:=by
     have:=jw3 (m:=1000) (ps:=ps) HPS.o;omega
    have HPC:=zh (fun (x0 x1:Value) (W:World) (hW:Ext wr W)=>jm4 p.atom (varsN ps) x0 x1 _ _ W ((HV.o.ext hx).ext hW) (hpt.ext hW) (jgq ps) hvv (HPS.o p hmem) hvl);have HSN:=zh hsp;have HSM:=zh hsn;clear hpt hpk hqb htw hx hrl hvv hvl hsp hsn;rcases Bool.eq_false_or_eq_true p.no with hno|hno
    . have HNB := zh hno
      rw[hno] at hp0;clear hno;go_wp2_with fail
      have HTP:=zh (show TwoK (w1.heap.size+1) 297 Sn Sp wr (.slice N0 nn nc) (jci (varsN ps) (ps.take k)) (.slice P0 pn pc) (jcf (varsN ps) (ps.take k)) from HTW.o.swap)
      have HLN:=zh (show (jci (varsN ps) (ps.take k)).length<=4 from by
       unfold jci;have h1:=List.length_filter_le (fun p:GP=>p.no) (ps.take k);rw[List.length_take] at h1;rw[List.length_map];omega)
      have HB:=zh (Blk.new wr 137 #[.bool true,.string p.atom.n,.slice G p.atom.args.length cg]);refine wp_region_noPanic ?_;refine wp_region_held_drew (S:=(fun w'=>w'.cell? ⟨wr.heap.size,1,none⟩=some (.string p.atom.n)/\w'.cell? ⟨wr.heap.size,2,none⟩=some (.slice G p.atom.args.length cg))) (by kernel_rfl) ?_ (fun hHeld=>?_)
      . (try dsimp only);(first|exact⟨HB.o.drew.cell 1,HB.o.drew.cell 2⟩|exact⟨HB4.o.cell 1,HB4.o.cell 2⟩|exact⟨(HB4.o.alloc _).cell 1,(HB4.o.alloc _).cell 2⟩|exact⟨HB6.o.cell 1,HB6.o.cell 2⟩|exact⟨(HB6.o.far (p:=⟨w1.heap.size,1,none⟩) (Nat.ne_of_gt ql) _).cell 1,(HB6.o.far (p:=⟨w1.heap.size,1,none⟩) (Nat.ne_of_gt ql) _).cell 2⟩)
      refine tq 0 rfl ?_;(try simp only[Act.put,stz])
      refine tq 3 rfl ?_;(try simp only[Act.put,stz])
      refine tq 4 rfl ?_;(try simp only[Act.put,stz])
      apply twice
      . intro ky2
        refine wpAnyH_ready (rs:=[1,2]) (by kernel_rfl) (by simp) ?_;refine AllReadyH.cons (o:=_) rfl (fun K hK=>?_) ?_
        . go_simp
          refine hK.out _ _ ?_ (fun hNew=>?_)
          . (try dsimp only);(first|exact⟨HB.o.drew.cell 1,HB.o.drew.cell 2⟩|exact⟨HB4.o.cell 1,HB4.o.cell 2⟩|exact⟨(HB4.o.alloc _).cell 1,(HB4.o.alloc _).cell 2⟩|exact⟨HB6.o.cell 1,HB6.o.cell 2⟩|exact⟨(HB6.o.far (p:=⟨w1.heap.size,1,none⟩) (Nat.ne_of_gt ql) _).cell 1,(HB6.o.far (p:=⟨w1.heap.size,1,none⟩) (Nat.ne_of_gt ql) _).cell 2⟩)
          clear hK K;have hHeld:=hNew;clear hNew;try simp only[Act.put,stz]
          refine rd1 2 rfl (fun K hK=>?_)
          . go_simp
            refine hK.out _ _ ?_ (fun hNew=>?_)
            . (try dsimp only);(first|exact⟨HB.o.drew.cell 1,HB.o.drew.cell 2⟩|exact⟨HB4.o.cell 1,HB4.o.cell 2⟩|exact⟨(HB4.o.alloc _).cell 1,(HB4.o.alloc _).cell 2⟩|exact⟨HB6.o.cell 1,HB6.o.cell 2⟩|exact⟨(HB6.o.far (p:=⟨w1.heap.size,1,none⟩) (Nat.ne_of_gt ql) _).cell 1,(HB6.o.far (p:=⟨w1.heap.size,1,none⟩) (Nat.ne_of_gt ql) _).cell 2⟩)
            clear hK K;have hHeld:=hNew;clear hNew;try simp only[Act.put,stz]
            revert hHeld;exact ky2
        refine AllReadyH.cons (o:=_) rfl (fun K hK=>?_) ?_
        . go_simp
          refine hK.out _ _ ?_ (fun hNew=>?_)
          . (try dsimp only);(first|exact⟨HB.o.drew.cell 1,HB.o.drew.cell 2⟩|exact⟨HB4.o.cell 1,HB4.o.cell 2⟩|exact⟨(HB4.o.alloc _).cell 1,(HB4.o.alloc _).cell 2⟩|exact⟨HB6.o.cell 1,HB6.o.cell 2⟩|exact⟨(HB6.o.far (p:=⟨w1.heap.size,1,none⟩) (Nat.ne_of_gt ql) _).cell 1,(HB6.o.far (p:=⟨w1.heap.size,1,none⟩) (Nat.ne_of_gt ql) _).cell 2⟩)
          clear hK K;have hHeld:=hNew;clear hNew;try simp only[Act.put,stz]
          refine wpAnyH_ready (rs:=[1,5]) (by kernel_rfl) (by simp) ?_;refine AllReadyH.cons (o:=_) rfl (fun K hK=>?_) ?_
          . go_simp
            refine hK.out _ _ ?_ (fun hNew=>?_)
            . (try dsimp only);(first|exact⟨HB.o.drew.cell 1,HB.o.drew.cell 2⟩|exact⟨HB4.o.cell 1,HB4.o.cell 2⟩|exact⟨(HB4.o.alloc _).cell 1,(HB4.o.alloc _).cell 2⟩|exact⟨HB6.o.cell 1,HB6.o.cell 2⟩|exact⟨(HB6.o.far (p:=⟨w1.heap.size,1,none⟩) (Nat.ne_of_gt ql) _).cell 1,(HB6.o.far (p:=⟨w1.heap.size,1,none⟩) (Nat.ne_of_gt ql) _).cell 2⟩)
            clear hK K;have hHeld:=hNew;clear hNew;try simp only[Act.put,stz]
            revert hHeld;exact ky2
          refine AllReadyH.cons (o:=_) rfl (fun K hK=>?_) ?_
          . go_simp
            go_at_call 259;refine (HPC.o _ _ _ (((Ext.refl wr).alloc _).drew)).mono ?_;rintro e w4 ⟨⟨v4,rfl,hv4⟩,hx4⟩
            have HX4:=zh (show Ext wr w4 from (((Ext.refl wr).alloc _).drew).t hx4);have HB4:=zh (HB.o.drew.ext hx4);have HV4:=zh (show ja9 (fun b=>wr.heap.size<b/\b<w4.heap.size) w4 v4 (patOf (varsN ps) p.atom).slots from (ja9.low' hv4).impL (fun b hb _=>⟨Nat.lt_of_lt_of_le (Nat.lt_succ_self _) (Nat.le_trans (Nat.le_of_eq (jdj wr _).symm) hb.1),hb.2⟩) (.refl _ _) (Nat.le_refl _));have HQ4:=zh (HQB.o.ext HX4.o);have y0:=HQ4.o.cell 0;have y1:=HQ4.o.cell 1;have y2:=HQ4.o.cell 2;have yl:=HQ4.o.lt;clear hx4 hv4;refine hK.out _ _ ?_ (fun hNew=>?_)
            . (try dsimp only);(first|exact⟨HB.o.drew.cell 1,HB.o.drew.cell 2⟩|exact⟨HB4.o.cell 1,HB4.o.cell 2⟩|exact⟨(HB4.o.alloc _).cell 1,(HB4.o.alloc _).cell 2⟩|exact⟨HB6.o.cell 1,HB6.o.cell 2⟩|exact⟨(HB6.o.far (p:=⟨w1.heap.size,1,none⟩) (Nat.ne_of_gt ql) _).cell 1,(HB6.o.far (p:=⟨w1.heap.size,1,none⟩) (Nat.ne_of_gt ql) _).cell 2⟩)
            clear hK K;have hHeld:=hNew;clear hNew;try simp only[Act.put,stz]
            apply twice
            . intro ky4
              refine wpAnyH_ready (rs:=[1,6]) (by kernel_rfl) (by simp) ?_;refine AllReadyH.cons (o:=_) rfl (fun K hK=>?_) ?_
              . go_simp
                refine hK.out _ _ ?_ (fun hNew=>?_)
                . (try dsimp only);(first|exact⟨HB.o.drew.cell 1,HB.o.drew.cell 2⟩|exact⟨HB4.o.cell 1,HB4.o.cell 2⟩|exact⟨(HB4.o.alloc _).cell 1,(HB4.o.alloc _).cell 2⟩|exact⟨HB6.o.cell 1,HB6.o.cell 2⟩|exact⟨(HB6.o.far (p:=⟨w1.heap.size,1,none⟩) (Nat.ne_of_gt ql) _).cell 1,(HB6.o.far (p:=⟨w1.heap.size,1,none⟩) (Nat.ne_of_gt ql) _).cell 2⟩)
                clear hK K;have hHeld:=hNew;clear hNew;try simp only[Act.put,stz]
                refine rd1 6 rfl (fun K hK=>?_)
                . go_simp
                  refine hK.out _ _ ?_ (fun hNew=>?_)
                  . (try dsimp only);(first|exact⟨HB.o.drew.cell 1,HB.o.drew.cell 2⟩|exact⟨HB4.o.cell 1,HB4.o.cell 2⟩|exact⟨(HB4.o.alloc _).cell 1,(HB4.o.alloc _).cell 2⟩|exact⟨HB6.o.cell 1,HB6.o.cell 2⟩|exact⟨(HB6.o.far (p:=⟨w1.heap.size,1,none⟩) (Nat.ne_of_gt ql) _).cell 1,(HB6.o.far (p:=⟨w1.heap.size,1,none⟩) (Nat.ne_of_gt ql) _).cell 2⟩)
                  clear hK K;have hHeld:=hNew;clear hNew;try simp only[Act.put,stz]
                  revert hHeld;exact ky4
              refine AllReadyH.cons (o:=_) rfl (fun K hK=>?_) ?_
              . go_simp
                refine hK.out _ _ ?_ (fun hNew=>?_)
                . (try dsimp only);(first|exact⟨HB.o.drew.cell 1,HB.o.drew.cell 2⟩|exact⟨HB4.o.cell 1,HB4.o.cell 2⟩|exact⟨(HB4.o.alloc _).cell 1,(HB4.o.alloc _).cell 2⟩|exact⟨HB6.o.cell 1,HB6.o.cell 2⟩|exact⟨(HB6.o.far (p:=⟨w1.heap.size,1,none⟩) (Nat.ne_of_gt ql) _).cell 1,(HB6.o.far (p:=⟨w1.heap.size,1,none⟩) (Nat.ne_of_gt ql) _).cell 2⟩)
                clear hK K;have hHeld:=hNew;clear hNew;try simp only[Act.put,stz]
                refine rd1 1 rfl (fun K hK=>?_)
                . go_simp
                  refine hK.out _ _ ?_ (fun hNew=>?_)
                  . (try dsimp only);(first|exact⟨HB.o.drew.cell 1,HB.o.drew.cell 2⟩|exact⟨HB4.o.cell 1,HB4.o.cell 2⟩|exact⟨(HB4.o.alloc _).cell 1,(HB4.o.alloc _).cell 2⟩|exact⟨HB6.o.cell 1,HB6.o.cell 2⟩|exact⟨(HB6.o.far (p:=⟨w1.heap.size,1,none⟩) (Nat.ne_of_gt ql) _).cell 1,(HB6.o.far (p:=⟨w1.heap.size,1,none⟩) (Nat.ne_of_gt ql) _).cell 2⟩)
                  clear hK K;have hHeld:=hNew;clear hNew;try simp only[Act.put,stz]
                  revert hHeld;exact ky4
              exact AllReadyH.nil
            clear hHeld;intro hHeld;refine rd1 7 rfl (fun K hK=>?_)
            . refine jde (o:=⟨some 24,_,_,_,_,_⟩) (k:=kPat) (S:=fun b=>Sn b∨(wr.heap.size<b/\b<w4.heap.size)) (T:=fun b=>wr.heap.size<b/\b<w4.heap.size) (base:=w1.heap.size+1) (xs:=jci (varsN ps) (ps.take k)) (ys:=[patOf (varsN ps) p.atom]) (by rfl) (.tmp 18) (.tmp 23) 244 (by rfl) i0 _ 40 Tryz.underlying244 hi0 hz0 hz1 hz2 (by rfl) (by rfl) (((HTP.o.p.ext HX4.o).alloc _).sub (Nat.le_refl _) (fun _ h=>.inl h)) _ 1 1 (by rfl) (jar.one (k:=kPat) (x:=patOf (varsN ps) p.atom) (l:=[.string p.atom.n,v4]) (Blk.new _ _ _) ⟨v4,rfl,hpn,HV4.o.ext ((Ext.refl _).alloc _)⟩) (fun b hb _=>.inr hb) (fun g hg hb=>by have:=(HTP.o.p.at_ g hg).2;omega) (maxOf (by have:=HLN.o;omega)) (by have:=HLN.o;omega) (by have:=HX4.o.size;go_size) ?_
              intro v6 w6 hap;obtain⟨A6,n6,c6,rfl,hn6,h61,h62⟩:=hap.own.form2;have HAP:=zh hap;have HQ6:=zh ((HQ4.o.alloc _).below hap.below (Nat.lt_succ_self _));have HB6:=zh (hap.blk2 (HB4.o.alloc _) (fun e=>by have:=(HTP.o.p.at_ _ e).2;omega));have z0:=HQ6.o.cell 1;have zf:=HQ6.o.frozen 1;have zl:=HQ6.o.lt;clear hap;refine hK.out _ _ ?_ (fun hNew=>?_)
              . (try dsimp only);(first|exact⟨HB.o.drew.cell 1,HB.o.drew.cell 2⟩|exact⟨HB4.o.cell 1,HB4.o.cell 2⟩|exact⟨(HB4.o.alloc _).cell 1,(HB4.o.alloc _).cell 2⟩|exact⟨HB6.o.cell 1,HB6.o.cell 2⟩|exact⟨(HB6.o.far (p:=⟨w1.heap.size,1,none⟩) (Nat.ne_of_gt ql) _).cell 1,(HB6.o.far (p:=⟨w1.heap.size,1,none⟩) (Nat.ne_of_gt ql) _).cell 2⟩)
              clear hK K;have hHeld:=hNew;clear hNew;try simp only[Act.put,stz]
              refine tq 8 rfl ?_;(try simp only[Act.put,stz])
              refine rd1 9 rfl (fun K hK=>?_)
              . go_simp
                refine hK.out _ _ ?_ (fun hNew=>?_)
                . (try dsimp only);(first|exact⟨HB.o.drew.cell 1,HB.o.drew.cell 2⟩|exact⟨HB4.o.cell 1,HB4.o.cell 2⟩|exact⟨(HB4.o.alloc _).cell 1,(HB4.o.alloc _).cell 2⟩|exact⟨HB6.o.cell 1,HB6.o.cell 2⟩|exact⟨(HB6.o.far (p:=⟨w1.heap.size,1,none⟩) (Nat.ne_of_gt ql) _).cell 1,(HB6.o.far (p:=⟨w1.heap.size,1,none⟩) (Nat.ne_of_gt ql) _).cell 2⟩)
                clear hK K;have hHeld:=hNew;clear hNew;try simp only[Act.put,stz]
                refine dn ?_;go_wp2;have HT6:=zh (((HTP.o.ext HX4.o).ext ((Ext.refl _).alloc _)).app HAP.o (fun b hb=>⟨Nat.lt_of_lt_of_le hb.2 (by simp),fun e=>by have:=(HTP.o.p.at_ _ e).2;omega,fun e=>by have:=(HTP.o.n.at_ _ e).2;omega⟩));go_roundw
                case rel =>
                 have hset:TwoK (w1.heap.size+1) 297 _ _ (w6.setCell ⟨w1.heap.size,1,none⟩ (.slice A6 n6 c6)) _ _ _ _:=HT6.o.set (a:=⟨w1.heap.size,1,none⟩) (Nat.lt_succ_self _) (fun h=>h.elim (fun h=>absurd (HSM.o _ h) (Nat.not_succ_le_self _)) (fun h=>absurd h.1 (Nat.lt_asymm ql))) (fun h=>absurd (HSN.o _ h) (Nat.not_succ_le_self _)) _;have hblk:=HQ6.o.set_ 1 (.slice A6 n6 c6);have hsp2:∀ b,Sn b∨(wr.heap.size<b/\b<w4.heap.size)->w1.heap.size+1<=b:=fun b hb=>hb.elim (HSM.o b) (fun h=>by omega)
                 have hxx:Ext w1 (w6.setCell ⟨w1.heap.size,1,none⟩ (.slice A6 n6 c6)):=Ext.setNew (a:=w1) (HAP.o.toExt ((HX.o.t HX4.o).alloc _) (Nat.le_succ _)) (Nat.le_refl _) _;exact⟨k+1,_,_,_,_,by omega,by go_num,zh ⟨by simpa using hblk,by rw[HPA.o,HNO.o,if_pos HNB.o,if_pos HNB.o,List.append_nil];exact hset.swap,HSN.o,hsp2,hxx⟩⟩
                case measure=>simp[intOf];omega
          exact AllReadyH.nil
        exact AllReadyH.nil
      clear hHeld;intro hHeld;refine rd1 5 rfl (fun K hK=>?_)
      . go_simp
        go_at_call 259;refine (HPC.o _ _ _ (((Ext.refl wr).alloc _).drew)).mono ?_;rintro e w4 ⟨⟨v4,rfl,hv4⟩,hx4⟩
        have HX4:=zh (show Ext wr w4 from (((Ext.refl wr).alloc _).drew).t hx4);have HB4:=zh (HB.o.drew.ext hx4);have HV4:=zh (show ja9 (fun b=>wr.heap.size<b/\b<w4.heap.size) w4 v4 (patOf (varsN ps) p.atom).slots from (ja9.low' hv4).impL (fun b hb _=>⟨Nat.lt_of_lt_of_le (Nat.lt_succ_self _) (Nat.le_trans (Nat.le_of_eq (jdj wr _).symm) hb.1),hb.2⟩) (.refl _ _) (Nat.le_refl _));have HQ4:=zh (HQB.o.ext HX4.o);have y0:=HQ4.o.cell 0;have y1:=HQ4.o.cell 1;have y2:=HQ4.o.cell 2;have yl:=HQ4.o.lt;clear hx4 hv4;refine hK.out _ _ ?_ (fun hNew=>?_)
        . (try dsimp only);(first|exact⟨HB.o.drew.cell 1,HB.o.drew.cell 2⟩|exact⟨HB4.o.cell 1,HB4.o.cell 2⟩|exact⟨(HB4.o.alloc _).cell 1,(HB4.o.alloc _).cell 2⟩|exact⟨HB6.o.cell 1,HB6.o.cell 2⟩|exact⟨(HB6.o.far (p:=⟨w1.heap.size,1,none⟩) (Nat.ne_of_gt ql) _).cell 1,(HB6.o.far (p:=⟨w1.heap.size,1,none⟩) (Nat.ne_of_gt ql) _).cell 2⟩)
        clear hK K hHeld;have hHeld:=hNew;clear hNew;try simp only[Act.put,stz]
        refine rd1 6 rfl (fun K hK=>?_)
        . go_simp
          refine hK.out _ _ ?_ (fun hNew=>?_)
          . (try dsimp only);(first|exact⟨HB.o.drew.cell 1,HB.o.drew.cell 2⟩|exact⟨HB4.o.cell 1,HB4.o.cell 2⟩|exact⟨(HB4.o.alloc _).cell 1,(HB4.o.alloc _).cell 2⟩|exact⟨HB6.o.cell 1,HB6.o.cell 2⟩|exact⟨(HB6.o.far (p:=⟨w1.heap.size,1,none⟩) (Nat.ne_of_gt ql) _).cell 1,(HB6.o.far (p:=⟨w1.heap.size,1,none⟩) (Nat.ne_of_gt ql) _).cell 2⟩)
          clear hK K hHeld;have hHeld:=hNew;clear hNew;try simp only[Act.put,stz]
          refine rd1 7 rfl (fun K hK=>?_)
          . refine jde (o:=⟨some 24,_,_,_,_,_⟩) (k:=kPat) (S:=fun b=>Sn b∨(wr.heap.size<b/\b<w4.heap.size)) (T:=fun b=>wr.heap.size<b/\b<w4.heap.size) (base:=w1.heap.size+1) (xs:=jci (varsN ps) (ps.take k)) (ys:=[patOf (varsN ps) p.atom]) (by rfl) (.tmp 18) (.tmp 23) 244 (by rfl) i0 _ 40 Tryz.underlying244 hi0 hz0 hz1 hz2 (by rfl) (by rfl) (((HTP.o.p.ext HX4.o).alloc _).sub (Nat.le_refl _) (fun _ h=>.inl h)) _ 1 1 (by rfl) (jar.one (k:=kPat) (x:=patOf (varsN ps) p.atom) (l:=[.string p.atom.n,v4]) (Blk.new _ _ _) ⟨v4,rfl,hpn,HV4.o.ext ((Ext.refl _).alloc _)⟩) (fun b hb _=>.inr hb) (fun g hg hb=>by have:=(HTP.o.p.at_ g hg).2;omega) (maxOf (by have:=HLN.o;omega)) (by have:=HLN.o;omega) (by have:=HX4.o.size;go_size) ?_
            intro v6 w6 hap;obtain⟨A6,n6,c6,rfl,hn6,h61,h62⟩:=hap.own.form2;have HAP:=zh hap;have HQ6:=zh ((HQ4.o.alloc _).below hap.below (Nat.lt_succ_self _));have HB6:=zh (hap.blk2 (HB4.o.alloc _) (fun e=>by have:=(HTP.o.p.at_ _ e).2;omega));have z0:=HQ6.o.cell 1;have zf:=HQ6.o.frozen 1;have zl:=HQ6.o.lt;clear hap;refine hK.out _ _ ?_ (fun hNew=>?_)
            . (try dsimp only);(first|exact⟨HB.o.drew.cell 1,HB.o.drew.cell 2⟩|exact⟨HB4.o.cell 1,HB4.o.cell 2⟩|exact⟨(HB4.o.alloc _).cell 1,(HB4.o.alloc _).cell 2⟩|exact⟨HB6.o.cell 1,HB6.o.cell 2⟩|exact⟨(HB6.o.far (p:=⟨w1.heap.size,1,none⟩) (Nat.ne_of_gt ql) _).cell 1,(HB6.o.far (p:=⟨w1.heap.size,1,none⟩) (Nat.ne_of_gt ql) _).cell 2⟩)
            clear hK K hHeld;have hHeld:=hNew;clear hNew;try simp only[Act.put,stz]
            refine tq 8 rfl ?_;(try simp only[Act.put,stz])
            refine rd1 9 rfl (fun K hK=>?_)
            . go_simp
              refine hK.out _ _ ?_ (fun hNew=>?_)
              . (try dsimp only);(first|exact⟨HB.o.drew.cell 1,HB.o.drew.cell 2⟩|exact⟨HB4.o.cell 1,HB4.o.cell 2⟩|exact⟨(HB4.o.alloc _).cell 1,(HB4.o.alloc _).cell 2⟩|exact⟨HB6.o.cell 1,HB6.o.cell 2⟩|exact⟨(HB6.o.far (p:=⟨w1.heap.size,1,none⟩) (Nat.ne_of_gt ql) _).cell 1,(HB6.o.far (p:=⟨w1.heap.size,1,none⟩) (Nat.ne_of_gt ql) _).cell 2⟩)
              clear hK K hHeld;have hHeld:=hNew;clear hNew;try simp only[Act.put,stz]
              refine dn ?_;go_wp2;have HT6:=zh (((HTP.o.ext HX4.o).ext ((Ext.refl _).alloc _)).app HAP.o (fun b hb=>⟨Nat.lt_of_lt_of_le hb.2 (by simp),fun e=>by have:=(HTP.o.p.at_ _ e).2;omega,fun e=>by have:=(HTP.o.n.at_ _ e).2;omega⟩));go_roundw
              case rel =>
               have hset:TwoK (w1.heap.size+1) 297 _ _ (w6.setCell ⟨w1.heap.size,1,none⟩ (.slice A6 n6 c6)) _ _ _ _:=HT6.o.set (a:=⟨w1.heap.size,1,none⟩) (Nat.lt_succ_self _) (fun h=>h.elim (fun h=>absurd (HSM.o _ h) (Nat.not_succ_le_self _)) (fun h=>absurd h.1 (Nat.lt_asymm ql))) (fun h=>absurd (HSN.o _ h) (Nat.not_succ_le_self _)) _;have hblk:=HQ6.o.set_ 1 (.slice A6 n6 c6);have hsp2:∀ b,Sn b∨(wr.heap.size<b/\b<w4.heap.size)->w1.heap.size+1<=b:=fun b hb=>hb.elim (HSM.o b) (fun h=>by omega)
               have hxx:Ext w1 (w6.setCell ⟨w1.heap.size,1,none⟩ (.slice A6 n6 c6)):=Ext.setNew (a:=w1) (HAP.o.toExt ((HX.o.t HX4.o).alloc _) (Nat.le_succ _)) (Nat.le_refl _) _;exact⟨k+1,_,_,_,_,by omega,by go_num,zh ⟨by simpa using hblk,by rw[HPA.o,HNO.o,if_pos HNB.o,if_pos HNB.o,List.append_nil];exact hset.swap,HSN.o,hsp2,hxx⟩⟩
              case measure=>simp[intOf];omega
    have HNB:=zh hno;rw[hno] at hp0;clear hno;go_wp2_with fail
    have HTP:=zh (show TwoK (w1.heap.size+1) 297 Sp Sn wr (.slice P0 pn pc) (jcf (varsN ps) (ps.take k)) (.slice N0 nn nc) (jci (varsN ps) (ps.take k)) from HTW.o)
    have HLN:=zh (show (jcf (varsN ps) (ps.take k)).length<=4 from by
     unfold jcf;have h1:=List.length_filter_le (fun p:GP=> !p.no) (ps.take k);rw[List.length_take] at h1;rw[List.length_map];omega)
    have HB:=zh (Blk.new wr 137 #[.bool false,.string p.atom.n,.slice G p.atom.args.length cg]);refine wp_region_noPanic ?_;refine wp_region_held_drew (S:=(fun w'=>w'.cell? ⟨wr.heap.size,1,none⟩=some (.string p.atom.n)/\w'.cell? ⟨wr.heap.size,2,none⟩=some (.slice G p.atom.args.length cg))) (by kernel_rfl) ?_ (fun hHeld=>?_)
    . (try dsimp only);(first|exact⟨HB.o.drew.cell 1,HB.o.drew.cell 2⟩|exact⟨HB4.o.cell 1,HB4.o.cell 2⟩|exact⟨(HB4.o.alloc _).cell 1,(HB4.o.alloc _).cell 2⟩|exact⟨HB6.o.cell 1,HB6.o.cell 2⟩|exact⟨(HB6.o.far (p:=⟨w1.heap.size,0,none⟩) (Nat.ne_of_gt ql) _).cell 1,(HB6.o.far (p:=⟨w1.heap.size,0,none⟩) (Nat.ne_of_gt ql) _).cell 2⟩)
    refine tq 0 rfl ?_;(try simp only[Act.put,stz])
    refine tq 3 rfl ?_;(try simp only[Act.put,stz])
    refine tq 4 rfl ?_;(try simp only[Act.put,stz])
    apply twice
    . intro ky1
      refine wpAnyH_ready (rs:=[1,2]) (by kernel_rfl) (by simp) ?_;refine AllReadyH.cons (o:=_) rfl (fun K hK=>?_) ?_
      . go_simp
        refine hK.out _ _ ?_ (fun hNew=>?_)
        . (try dsimp only);(first|exact⟨HB.o.drew.cell 1,HB.o.drew.cell 2⟩|exact⟨HB4.o.cell 1,HB4.o.cell 2⟩|exact⟨(HB4.o.alloc _).cell 1,(HB4.o.alloc _).cell 2⟩|exact⟨HB6.o.cell 1,HB6.o.cell 2⟩|exact⟨(HB6.o.far (p:=⟨w1.heap.size,0,none⟩) (Nat.ne_of_gt ql) _).cell 1,(HB6.o.far (p:=⟨w1.heap.size,0,none⟩) (Nat.ne_of_gt ql) _).cell 2⟩)
        clear hK K;have hHeld:=hNew;clear hNew;try simp only[Act.put,stz]
        refine rd1 2 rfl (fun K hK=>?_)
        . go_simp
          refine hK.out _ _ ?_ (fun hNew=>?_)
          . (try dsimp only);(first|exact⟨HB.o.drew.cell 1,HB.o.drew.cell 2⟩|exact⟨HB4.o.cell 1,HB4.o.cell 2⟩|exact⟨(HB4.o.alloc _).cell 1,(HB4.o.alloc _).cell 2⟩|exact⟨HB6.o.cell 1,HB6.o.cell 2⟩|exact⟨(HB6.o.far (p:=⟨w1.heap.size,0,none⟩) (Nat.ne_of_gt ql) _).cell 1,(HB6.o.far (p:=⟨w1.heap.size,0,none⟩) (Nat.ne_of_gt ql) _).cell 2⟩)
          clear hK K;have hHeld:=hNew;clear hNew;try simp only[Act.put,stz]
          revert hHeld;exact ky1
      refine AllReadyH.cons (o:=_) rfl (fun K hK=>?_) ?_
      . go_simp
        refine hK.out _ _ ?_ (fun hNew=>?_)
        . (try dsimp only);(first|exact⟨HB.o.drew.cell 1,HB.o.drew.cell 2⟩|exact⟨HB4.o.cell 1,HB4.o.cell 2⟩|exact⟨(HB4.o.alloc _).cell 1,(HB4.o.alloc _).cell 2⟩|exact⟨HB6.o.cell 1,HB6.o.cell 2⟩|exact⟨(HB6.o.far (p:=⟨w1.heap.size,0,none⟩) (Nat.ne_of_gt ql) _).cell 1,(HB6.o.far (p:=⟨w1.heap.size,0,none⟩) (Nat.ne_of_gt ql) _).cell 2⟩)
        clear hK K;have hHeld:=hNew;clear hNew;try simp only[Act.put,stz]
        refine wpAnyH_ready (rs:=[1,5]) (by kernel_rfl) (by simp) ?_;refine AllReadyH.cons (o:=_) rfl (fun K hK=>?_) ?_
        . go_simp
          refine hK.out _ _ ?_ (fun hNew=>?_)
          . (try dsimp only);(first|exact⟨HB.o.drew.cell 1,HB.o.drew.cell 2⟩|exact⟨HB4.o.cell 1,HB4.o.cell 2⟩|exact⟨(HB4.o.alloc _).cell 1,(HB4.o.alloc _).cell 2⟩|exact⟨HB6.o.cell 1,HB6.o.cell 2⟩|exact⟨(HB6.o.far (p:=⟨w1.heap.size,0,none⟩) (Nat.ne_of_gt ql) _).cell 1,(HB6.o.far (p:=⟨w1.heap.size,0,none⟩) (Nat.ne_of_gt ql) _).cell 2⟩)
          clear hK K;have hHeld:=hNew;clear hNew;try simp only[Act.put,stz]
          revert hHeld;exact ky1
        refine AllReadyH.cons (o:=_) rfl (fun K hK=>?_) ?_
        . go_simp
          go_at_call 259;refine (HPC.o _ _ _ (((Ext.refl wr).alloc _).drew)).mono ?_;rintro e w4 ⟨⟨v4,rfl,hv4⟩,hx4⟩
          have HX4:=zh (show Ext wr w4 from (((Ext.refl wr).alloc _).drew).t hx4);have HB4:=zh (HB.o.drew.ext hx4);have HV4:=zh (show ja9 (fun b=>wr.heap.size<b/\b<w4.heap.size) w4 v4 (patOf (varsN ps) p.atom).slots from (ja9.low' hv4).impL (fun b hb _=>⟨Nat.lt_of_lt_of_le (Nat.lt_succ_self _) (Nat.le_trans (Nat.le_of_eq (jdj wr _).symm) hb.1),hb.2⟩) (.refl _ _) (Nat.le_refl _));have HQ4:=zh (HQB.o.ext HX4.o);have y0:=HQ4.o.cell 0;have y1:=HQ4.o.cell 1;have y2:=HQ4.o.cell 2;have yl:=HQ4.o.lt;clear hx4 hv4;refine hK.out _ _ ?_ (fun hNew=>?_)
          . (try dsimp only);(first|exact⟨HB.o.drew.cell 1,HB.o.drew.cell 2⟩|exact⟨HB4.o.cell 1,HB4.o.cell 2⟩|exact⟨(HB4.o.alloc _).cell 1,(HB4.o.alloc _).cell 2⟩|exact⟨HB6.o.cell 1,HB6.o.cell 2⟩|exact⟨(HB6.o.far (p:=⟨w1.heap.size,0,none⟩) (Nat.ne_of_gt ql) _).cell 1,(HB6.o.far (p:=⟨w1.heap.size,0,none⟩) (Nat.ne_of_gt ql) _).cell 2⟩)
          clear hK K;have hHeld:=hNew;clear hNew;try simp only[Act.put,stz]
          apply twice
          . intro ky3
            refine wpAnyH_ready (rs:=[1,6]) (by kernel_rfl) (by simp) ?_;refine AllReadyH.cons (o:=_) rfl (fun K hK=>?_) ?_
            . go_simp
              refine hK.out _ _ ?_ (fun hNew=>?_)
              . (try dsimp only);(first|exact⟨HB.o.drew.cell 1,HB.o.drew.cell 2⟩|exact⟨HB4.o.cell 1,HB4.o.cell 2⟩|exact⟨(HB4.o.alloc _).cell 1,(HB4.o.alloc _).cell 2⟩|exact⟨HB6.o.cell 1,HB6.o.cell 2⟩|exact⟨(HB6.o.far (p:=⟨w1.heap.size,0,none⟩) (Nat.ne_of_gt ql) _).cell 1,(HB6.o.far (p:=⟨w1.heap.size,0,none⟩) (Nat.ne_of_gt ql) _).cell 2⟩)
              clear hK K;have hHeld:=hNew;clear hNew;try simp only[Act.put,stz]
              refine rd1 6 rfl (fun K hK=>?_)
              . go_simp
                refine hK.out _ _ ?_ (fun hNew=>?_)
                . (try dsimp only);(first|exact⟨HB.o.drew.cell 1,HB.o.drew.cell 2⟩|exact⟨HB4.o.cell 1,HB4.o.cell 2⟩|exact⟨(HB4.o.alloc _).cell 1,(HB4.o.alloc _).cell 2⟩|exact⟨HB6.o.cell 1,HB6.o.cell 2⟩|exact⟨(HB6.o.far (p:=⟨w1.heap.size,0,none⟩) (Nat.ne_of_gt ql) _).cell 1,(HB6.o.far (p:=⟨w1.heap.size,0,none⟩) (Nat.ne_of_gt ql) _).cell 2⟩)
                clear hK K;have hHeld:=hNew;clear hNew;try simp only[Act.put,stz]
                revert hHeld;exact ky3
            refine AllReadyH.cons (o:=_) rfl (fun K hK=>?_) ?_
            . go_simp
              refine hK.out _ _ ?_ (fun hNew=>?_)
              . (try dsimp only);(first|exact⟨HB.o.drew.cell 1,HB.o.drew.cell 2⟩|exact⟨HB4.o.cell 1,HB4.o.cell 2⟩|exact⟨(HB4.o.alloc _).cell 1,(HB4.o.alloc _).cell 2⟩|exact⟨HB6.o.cell 1,HB6.o.cell 2⟩|exact⟨(HB6.o.far (p:=⟨w1.heap.size,0,none⟩) (Nat.ne_of_gt ql) _).cell 1,(HB6.o.far (p:=⟨w1.heap.size,0,none⟩) (Nat.ne_of_gt ql) _).cell 2⟩)
              clear hK K;have hHeld:=hNew;clear hNew;try simp only[Act.put,stz]
              refine rd1 1 rfl (fun K hK=>?_)
              . go_simp
                refine hK.out _ _ ?_ (fun hNew=>?_)
                . (try dsimp only);(first|exact⟨HB.o.drew.cell 1,HB.o.drew.cell 2⟩|exact⟨HB4.o.cell 1,HB4.o.cell 2⟩|exact⟨(HB4.o.alloc _).cell 1,(HB4.o.alloc _).cell 2⟩|exact⟨HB6.o.cell 1,HB6.o.cell 2⟩|exact⟨(HB6.o.far (p:=⟨w1.heap.size,0,none⟩) (Nat.ne_of_gt ql) _).cell 1,(HB6.o.far (p:=⟨w1.heap.size,0,none⟩) (Nat.ne_of_gt ql) _).cell 2⟩)
                clear hK K;have hHeld:=hNew;clear hNew;try simp only[Act.put,stz]
                revert hHeld;exact ky3
            exact AllReadyH.nil
          clear hHeld;intro hHeld;refine rd1 7 rfl (fun K hK=>?_)
          . refine jde (o:=⟨some 33,_,_,_,_,_⟩) (k:=kPat) (S:=fun b=>Sp b∨(wr.heap.size<b/\b<w4.heap.size)) (T:=fun b=>wr.heap.size<b/\b<w4.heap.size) (base:=w1.heap.size+1) (xs:=jcf (varsN ps) (ps.take k)) (ys:=[patOf (varsN ps) p.atom]) (by rfl) (.tmp 27) (.tmp 32) 244 (by rfl) i0 _ 40 Tryz.underlying244 hi0 hz0 hz1 hz2 (by rfl) (by rfl) (((HTP.o.p.ext HX4.o).alloc _).sub (Nat.le_refl _) (fun _ h=>.inl h)) _ 1 1 (by rfl) (jar.one (k:=kPat) (x:=patOf (varsN ps) p.atom) (l:=[.string p.atom.n,v4]) (Blk.new _ _ _) ⟨v4,rfl,hpn,HV4.o.ext ((Ext.refl _).alloc _)⟩) (fun b hb _=>.inr hb) (fun g hg hb=>by have:=(HTP.o.p.at_ g hg).2;omega) (maxOf (by have:=HLN.o;omega)) (by have:=HLN.o;omega) (by have:=HX4.o.size;go_size) ?_
            intro v6 w6 hap;obtain⟨A6,n6,c6,rfl,hn6,h61,h62⟩:=hap.own.form2;have HAP:=zh hap;have HQ6:=zh ((HQ4.o.alloc _).below hap.below (Nat.lt_succ_self _));have HB6:=zh (hap.blk2 (HB4.o.alloc _) (fun e=>by have:=(HTP.o.p.at_ _ e).2;omega));have z0:=HQ6.o.cell 0;have zf:=HQ6.o.frozen 0;have zl:=HQ6.o.lt;clear hap;refine hK.out _ _ ?_ (fun hNew=>?_)
            . (try dsimp only);(first|exact⟨HB.o.drew.cell 1,HB.o.drew.cell 2⟩|exact⟨HB4.o.cell 1,HB4.o.cell 2⟩|exact⟨(HB4.o.alloc _).cell 1,(HB4.o.alloc _).cell 2⟩|exact⟨HB6.o.cell 1,HB6.o.cell 2⟩|exact⟨(HB6.o.far (p:=⟨w1.heap.size,0,none⟩) (Nat.ne_of_gt ql) _).cell 1,(HB6.o.far (p:=⟨w1.heap.size,0,none⟩) (Nat.ne_of_gt ql) _).cell 2⟩)
            clear hK K;have hHeld:=hNew;clear hNew;try simp only[Act.put,stz]
            refine tq 8 rfl ?_;(try simp only[Act.put,stz])
            refine rd1 9 rfl (fun K hK=>?_)
            . go_simp
              refine hK.out _ _ ?_ (fun hNew=>?_)
              . (try dsimp only);(first|exact⟨HB.o.drew.cell 1,HB.o.drew.cell 2⟩|exact⟨HB4.o.cell 1,HB4.o.cell 2⟩|exact⟨(HB4.o.alloc _).cell 1,(HB4.o.alloc _).cell 2⟩|exact⟨HB6.o.cell 1,HB6.o.cell 2⟩|exact⟨(HB6.o.far (p:=⟨w1.heap.size,0,none⟩) (Nat.ne_of_gt ql) _).cell 1,(HB6.o.far (p:=⟨w1.heap.size,0,none⟩) (Nat.ne_of_gt ql) _).cell 2⟩)
              clear hK K;have hHeld:=hNew;clear hNew;try simp only[Act.put,stz]
              refine dn ?_;go_wp2;have HT6:=zh (((HTP.o.ext HX4.o).ext ((Ext.refl _).alloc _)).app HAP.o (fun b hb=>⟨Nat.lt_of_lt_of_le hb.2 (by simp),fun e=>by have:=(HTP.o.p.at_ _ e).2;omega,fun e=>by have:=(HTP.o.n.at_ _ e).2;omega⟩));go_roundw
              case rel =>
               have hset:TwoK (w1.heap.size+1) 297 _ _ (w6.setCell ⟨w1.heap.size,0,none⟩ (.slice A6 n6 c6)) _ _ _ _:=HT6.o.set (a:=⟨w1.heap.size,0,none⟩) (Nat.lt_succ_self _) (fun h=>h.elim (fun h=>absurd (HSN.o _ h) (Nat.not_succ_le_self _)) (fun h=>absurd h.1 (Nat.lt_asymm ql))) (fun h=>absurd (HSM.o _ h) (Nat.not_succ_le_self _)) _;have hblk:=HQ6.o.set_ 0 (.slice A6 n6 c6);have hsp2:∀ b,Sp b∨(wr.heap.size<b/\b<w4.heap.size)->w1.heap.size+1<=b:=fun b hb=>hb.elim (HSN.o b) (fun h=>by omega)
               have hxx:Ext w1 (w6.setCell ⟨w1.heap.size,0,none⟩ (.slice A6 n6 c6)):=Ext.setNew (a:=w1) (HAP.o.toExt ((HX.o.t HX4.o).alloc _) (Nat.le_succ _)) (Nat.le_refl _) _;exact⟨k+1,_,_,_,_,by omega,by go_num,zh ⟨by simpa using hblk,by rw[HPA.o,HNO.o,if_neg (by rw[HNB.o];decide),if_neg (by rw[HNB.o];decide),List.append_nil];exact hset,hsp2,HSM.o,hxx⟩⟩
              case measure=>simp[intOf];omega
        exact AllReadyH.nil
      exact AllReadyH.nil
    clear hHeld;intro hHeld;refine rd1 5 rfl (fun K hK=>?_)
    . go_simp
      go_at_call 259;refine (HPC.o _ _ _ (((Ext.refl wr).alloc _).drew)).mono ?_;rintro e w4 ⟨⟨v4,rfl,hv4⟩,hx4⟩
      have HX4:=zh (show Ext wr w4 from (((Ext.refl wr).alloc _).drew).t hx4);have HB4:=zh (HB.o.drew.ext hx4);have HV4:=zh (show ja9 (fun b=>wr.heap.size<b/\b<w4.heap.size) w4 v4 (patOf (varsN ps) p.atom).slots from (ja9.low' hv4).impL (fun b hb _=>⟨Nat.lt_of_lt_of_le (Nat.lt_succ_self _) (Nat.le_trans (Nat.le_of_eq (jdj wr _).symm) hb.1),hb.2⟩) (.refl _ _) (Nat.le_refl _));have HQ4:=zh (HQB.o.ext HX4.o);have y0:=HQ4.o.cell 0;have y1:=HQ4.o.cell 1;have y2:=HQ4.o.cell 2;have yl:=HQ4.o.lt;clear hx4 hv4;refine hK.out _ _ ?_ (fun hNew=>?_)
      . (try dsimp only);(first|exact⟨HB.o.drew.cell 1,HB.o.drew.cell 2⟩|exact⟨HB4.o.cell 1,HB4.o.cell 2⟩|exact⟨(HB4.o.alloc _).cell 1,(HB4.o.alloc _).cell 2⟩|exact⟨HB6.o.cell 1,HB6.o.cell 2⟩|exact⟨(HB6.o.far (p:=⟨w1.heap.size,0,none⟩) (Nat.ne_of_gt ql) _).cell 1,(HB6.o.far (p:=⟨w1.heap.size,0,none⟩) (Nat.ne_of_gt ql) _).cell 2⟩)
      clear hK K hHeld;have hHeld:=hNew;clear hNew;try simp only[Act.put,stz]
      refine rd1 6 rfl (fun K hK=>?_)
      . go_simp
        refine hK.out _ _ ?_ (fun hNew=>?_)
        . (try dsimp only);(first|exact⟨HB.o.drew.cell 1,HB.o.drew.cell 2⟩|exact⟨HB4.o.cell 1,HB4.o.cell 2⟩|exact⟨(HB4.o.alloc _).cell 1,(HB4.o.alloc _).cell 2⟩|exact⟨HB6.o.cell 1,HB6.o.cell 2⟩|exact⟨(HB6.o.far (p:=⟨w1.heap.size,0,none⟩) (Nat.ne_of_gt ql) _).cell 1,(HB6.o.far (p:=⟨w1.heap.size,0,none⟩) (Nat.ne_of_gt ql) _).cell 2⟩)
        clear hK K hHeld;have hHeld:=hNew;clear hNew;try simp only[Act.put,stz]
        refine rd1 7 rfl (fun K hK=>?_)
        . refine jde (o:=⟨some 33,_,_,_,_,_⟩) (k:=kPat) (S:=fun b=>Sp b∨(wr.heap.size<b/\b<w4.heap.size)) (T:=fun b=>wr.heap.size<b/\b<w4.heap.size) (base:=w1.heap.size+1) (xs:=jcf (varsN ps) (ps.take k)) (ys:=[patOf (varsN ps) p.atom]) (by rfl) (.tmp 27) (.tmp 32) 244 (by rfl) i0 _ 40 Tryz.underlying244 hi0 hz0 hz1 hz2 (by rfl) (by rfl) (((HTP.o.p.ext HX4.o).alloc _).sub (Nat.le_refl _) (fun _ h=>.inl h)) _ 1 1 (by rfl) (jar.one (k:=kPat) (x:=patOf (varsN ps) p.atom) (l:=[.string p.atom.n,v4]) (Blk.new _ _ _) ⟨v4,rfl,hpn,HV4.o.ext ((Ext.refl _).alloc _)⟩) (fun b hb _=>.inr hb) (fun g hg hb=>by have:=(HTP.o.p.at_ g hg).2;omega) (maxOf (by have:=HLN.o;omega)) (by have:=HLN.o;omega) (by have:=HX4.o.size;go_size) ?_
          intro v6 w6 hap;obtain⟨A6,n6,c6,rfl,hn6,h61,h62⟩:=hap.own.form2;have HAP:=zh hap;have HQ6:=zh ((HQ4.o.alloc _).below hap.below (Nat.lt_succ_self _));have HB6:=zh (hap.blk2 (HB4.o.alloc _) (fun e=>by have:=(HTP.o.p.at_ _ e).2;omega));have z0:=HQ6.o.cell 0;have zf:=HQ6.o.frozen 0;have zl:=HQ6.o.lt;clear hap;refine hK.out _ _ ?_ (fun hNew=>?_)
          . (try dsimp only);(first|exact⟨HB.o.drew.cell 1,HB.o.drew.cell 2⟩|exact⟨HB4.o.cell 1,HB4.o.cell 2⟩|exact⟨(HB4.o.alloc _).cell 1,(HB4.o.alloc _).cell 2⟩|exact⟨HB6.o.cell 1,HB6.o.cell 2⟩|exact⟨(HB6.o.far (p:=⟨w1.heap.size,0,none⟩) (Nat.ne_of_gt ql) _).cell 1,(HB6.o.far (p:=⟨w1.heap.size,0,none⟩) (Nat.ne_of_gt ql) _).cell 2⟩)
          clear hK K hHeld;have hHeld:=hNew;clear hNew;try simp only[Act.put,stz]
          refine tq 8 rfl ?_;(try simp only[Act.put,stz])
          refine rd1 9 rfl (fun K hK=>?_)
          . go_simp
            refine hK.out _ _ ?_ (fun hNew=>?_)
            . (try dsimp only);(first|exact⟨HB.o.drew.cell 1,HB.o.drew.cell 2⟩|exact⟨HB4.o.cell 1,HB4.o.cell 2⟩|exact⟨(HB4.o.alloc _).cell 1,(HB4.o.alloc _).cell 2⟩|exact⟨HB6.o.cell 1,HB6.o.cell 2⟩|exact⟨(HB6.o.far (p:=⟨w1.heap.size,0,none⟩) (Nat.ne_of_gt ql) _).cell 1,(HB6.o.far (p:=⟨w1.heap.size,0,none⟩) (Nat.ne_of_gt ql) _).cell 2⟩)
            clear hK K hHeld;have hHeld:=hNew;clear hNew;try simp only[Act.put,stz]
            refine dn ?_;go_wp2;have HT6:=zh (((HTP.o.ext HX4.o).ext ((Ext.refl _).alloc _)).app HAP.o (fun b hb=>⟨Nat.lt_of_lt_of_le hb.2 (by simp),fun e=>by have:=(HTP.o.p.at_ _ e).2;omega,fun e=>by have:=(HTP.o.n.at_ _ e).2;omega⟩));go_roundw
            case rel =>
             have hset:TwoK (w1.heap.size+1) 297 _ _ (w6.setCell ⟨w1.heap.size,0,none⟩ (.slice A6 n6 c6)) _ _ _ _:=HT6.o.set (a:=⟨w1.heap.size,0,none⟩) (Nat.lt_succ_self _) (fun h=>h.elim (fun h=>absurd (HSN.o _ h) (Nat.not_succ_le_self _)) (fun h=>absurd h.1 (Nat.lt_asymm ql))) (fun h=>absurd (HSM.o _ h) (Nat.not_succ_le_self _)) _;have hblk:=HQ6.o.set_ 0 (.slice A6 n6 c6);have hsp2:∀ b,Sp b∨(wr.heap.size<b/\b<w4.heap.size)->w1.heap.size+1<=b:=fun b hb=>hb.elim (HSN.o b) (fun h=>by omega)
             have hxx:Ext w1 (w6.setCell ⟨w1.heap.size,0,none⟩ (.slice A6 n6 c6)):=Ext.setNew (a:=w1) (HAP.o.toExt ((HX.o.t HX4.o).alloc _) (Nat.le_succ _)) (Nat.le_refl _) _;exact⟨k+1,_,_,_,_,by omega,by go_num,zh ⟨by simpa using hblk,by rw[HPA.o,HNO.o,if_neg (by rw[HNB.o];decide),if_neg (by rw[HNB.o];decide),List.append_nil];exact hset,hsp2,HSM.o,hxx⟩⟩
            case measure=>simp[intOf];omega
  have e0:ps.take k=ps:=List.take_of_length_le (by omega);rw[e0] at htw;have rb:=HRB.o.ext hx;have d0:=rb.cell 0;have d1:=rb.cell 1;have d2:=rb.cell 2;have f0:=rb.frozen 0;have f1:=rb.frozen 1;have f2:=rb.frozen 2;have rl:=rb.lt;have q0:=hqb.cell 0;have q1:=hqb.cell 1;have q2:=hqb.cell 2;have ql:=hqb.lt;obtain⟨P0,pn,pc,rfl,hpn,hp1,hp2⟩:=htw.p.form2;obtain⟨N0,nn,nc,rfl,hnn,hn2,hn3⟩:=htw.n.form2;have HTW:=zh htw;have HSP:=zh hsp;have HSN:=zh hsn;have HX:=zh hx;clear hqb htw hsp hsn hx hrl e0 rb;go_wp2
  have hag:∀ {m:Nat},w.heap.size<m->Agree (From m) wr (((wr.setCell ⟨w.heap.size,0,none⟩ (.slice P0 pn pc)).setCell ⟨w.heap.size,1,none⟩ (.slice N0 nn nc)).setCell ⟨w.heap.size,2,none⟩ (.slice A1 n1 c1)):=fun hm =>
   (((Agree.refl _ _).setCell (je2 hm) _).setCell (je2 hm) _).setCell (je2 hm) _
  have hsw:wr.heap.size<=(((wr.setCell ⟨w.heap.size,0,none⟩ (.slice P0 pn pc)).setCell ⟨w.heap.size,1,none⟩ (.slice N0 nn nc)).setCell ⟨w.heap.size,2,none⟩ (.slice A1 n1 c1)).heap.size:=by simp[World.setCell]
  have hm1:w.heap.size<w1.heap.size+1:=by omega
  refine bodyPost_ret (v:=.agg #[.slice P0 pn pc,.slice N0 nn nc,.slice A1 n1 c1]) (by simp[results,Tryz.results219,go_sem,d0,d1,d2]) rfl ⟨⟨_,_,_,rfl,?_,?_,?_⟩,?_⟩
  . have h1:PatsR (From (w1.heap.size+1)) wr (.slice P0 pn pc) (jcf (varsN ps) ps):=HTW.o.p.list (S':=From (w1.heap.size+1)) HSP.o (fun _ h=>h)
    exact PatsR.impL h1 (fun b hb _=>Nat.le_trans (Nat.le_of_lt hm1) hb) (hag hm1) hsw
  . have h1:PatsR (From (w1.heap.size+1)) wr (.slice N0 nn nc) (jci (varsN ps) ps):=HTW.o.n.list (S':=From (w1.heap.size+1)) HSN.o (fun _ h=>h)
    exact PatsR.impL h1 (fun b hb _=>Nat.le_trans (Nat.le_of_lt hm1) hb) (hag hm1) hsw
  . have h1:StrsR (From (w.heap.size+1)) wr (.slice A1 n1 c1) (varsN ps):=(HV.o.ext HX.o).impL (fun b hb _=>by simpa using hb) (.refl _ _) (Nat.le_refl _)
    exact h1.impL (fun b hb _=>Nat.le_trans (Nat.le_succ _) hb) (hag (Nat.lt_succ_self _)) hsw
  exact Ext.setNew (a:=w) (Ext.setNew (Ext.setNew (HX1.o.t HX.o) (Nat.le_refl _) _) (Nat.le_refl _) _) (Nat.le_refl _) _
end Go.Proofs.YthiflhkcpanaaaaGreatDoor
