/- Own texts, joined. -/
import Derived.Test.YthdojieomhighaaGreatDoorCas23
import Derived.Test.YthdojieomhighaaGreatDoorCas07
import Derived.Deep.RegionHeld3
import Derived.Test.YthdojieomhighaaGreatDoorCas08
set_option linter.unusedSimpArgs false
set_option linter.unusedVariables false
namespace Go.Proofs.YthdojieomhighaaGreatDoor
open Go.RowKit
theorem jyp {vs:List ByteArray} {ts:List GT} {k:Nat} {t:GT} (h:ts[k]? = some t):(ts.take (k+1)).map (ja0 vs)=(ts.take k).map (ja0 vs)++[ja0 vs t]:=by
 rw[List.take_add_one,h,List.map_append];rfl
structure jkp (w0:World) (bx base:Nat) (n:ByteArray) (v:Value) (xs:List GS) (w:World):Prop where
 blk:Blk w bx 305 #[.string n,v]
 own:OwnK kSlot base 361 None w v xs
 ext:Ext w0 w
 lo:w0.heap.size≤bx∧bx<base∧base≤w.heap.size
theorem jkp.next {w0 w:World} {bx base:Nat} {n:ByteArray} {v:Value} {xs:List GS} (h:jkp w0 bx base n v xs w) {w':World} (hx:Ext w w'):jkp w0 bx base n v xs w' :=
 ⟨h.blk.ext hx,h.own.ext hx,h.ext.trans' hx,h.lo.1,h.lo.2.1,Nat.le_trans h.lo.2.2 hx.size⟩
theorem jkp.app {w0 w w':World} {bx base:Nat} {n:ByteArray} {v v':Value} {xs ys:List GS} (h:jkp w0 bx base n v xs w) (ha:Apped kSlot base 361 None w v ys v' w'):jkp w0 bx base n v' ys (w'.setCell ⟨bx,1,none⟩ v'):=by
 have hb:=ha.blk h.blk h.lo.2.1;refine⟨?_,ha.own.set (p:=⟨bx,1,none⟩) h.lo.2.1 (fun h=>h) v',?_,h.lo.1,h.lo.2.1,?_⟩
 · have:=hb.set_ 1 v'
   simpa using this
 · exact ((jab.set (S:=fun b=>b=bx) w' ⟨bx,1,none⟩ v' rfl)).toExt (ha.toExt h.ext (Nat.le_trans h.lo.1 (Nat.le_of_lt h.lo.2.1))) (fun i hi=>by subst hi;exact h.lo.1)
 have:w'.heap.size≤(w'.setCell ⟨bx,1,none⟩ v').heap.size:=by simp[World.setCell]
 exact Nat.le_trans h.lo.2.2 (Nat.le_trans ha.below.size this)
set_option maxRecDepth 100000 in
set_option maxHeartbeats 4000000 in
theorem jmh (a:GA) (vs:List ByteArray) (u0 u1 qv av:Value) (w:World) {V P:Nat→Prop} (hq:StrsR V w qv vs) (ht:jae P w av a.args) (ha:AscS vs) (hv:∀ t∈a.args,t.v=true→t.n∈vs) (hl:a.args.length≤1000) (hvl:vs.length≤4294967296) :
  Calls Tryz.prog 252 #[.agg #[u0,u1,qv],.agg #[.string a.n,av]] w fun e w'=>(∃ v,e=.returned (.agg #[.string a.n,v])∧jbc (From w.heap.size) w' v (patOf vs a).slots)∧Ext w w':=by
 obtain⟨A,c,rfl,hc1,hc2⟩:=jaa.form ht;obtain⟨QA,qc,rfl,hqc1,hqc2⟩:=jaa.form hq;have HQ:=zh hq;have HT:=zh ht;have HA:=zh ha;have HV:=zh hv;clear hq ht ha hv
 go_enter Tryz.func252,Tryz.ntmps252;go_wp2_with fail
 have HB0:=zh (show jkp w (w.heap.size+1+1+1) (w.heap.size+1+1+1+1) a.n (.slice none 0 0) [] ((((w.alloc (.cells #[u0,u1,.slice QA vs.length qc] 224)).alloc (.cells #[.string a.n,.slice A a.args.length c] 43)).alloc (.cells #[.string ⟨#[]⟩,.slice none 0 0] 305)).alloc (.cells #[.string a.n,.slice none 0 0] 305)) from
  ⟨Blk.at_new (by simp),OwnK.nil,((((Ext.refl w).alloc _).alloc _).alloc _).alloc _,by omega,by omega,by simp⟩)
 have HB1:=zh (show Blk ((((w.alloc (.cells #[u0,u1,.slice QA vs.length qc] 224)).alloc (.cells #[.string a.n,.slice A a.args.length c] 43)).alloc (.cells #[.string ⟨#[]⟩,.slice none 0 0] 305)).alloc (.cells #[.string a.n,.slice none 0 0] 305)) w.heap.size 224 #[u0,u1,.slice QA vs.length qc] from (((Blk.new _ _ _).alloc _).alloc _).alloc _);have HB2:=zh (show Blk ((((w.alloc (.cells #[u0,u1,.slice QA vs.length qc] 224)).alloc (.cells #[.string a.n,.slice A a.args.length c] 43)).alloc (.cells #[.string ⟨#[]⟩,.slice none 0 0] 305)).alloc (.cells #[.string a.n,.slice none 0 0] 305)) (w.heap.size+1+1) 305 #[.string ⟨#[]⟩,.slice none 0 0] from (Blk.at_new (by simp)).alloc _);obtain⟨i0,hi0⟩:∃ i,Tryz.prog.info? 361=some i:=⟨_,by rfl⟩
 have hz0:i0.zero=some (.agg #[.int .i64 0,.string ⟨#[]⟩]):=by have:=hi0;revert this;intro h;cases h;rfl
 have hz1:i0.size=2:=by have:=hi0;revert this;intro h;cases h;rfl
 have hz2:i0.bytes=24:=by have:=hi0;revert this;intro h;cases h;rfl
 go_loopw [18] (fun i wr=>∃ (k:Nat) (v:Value),k≤a.args.length∧i=.int .i64 k∧Hid (jkp w (w.heap.size+1+1+1) (w.heap.size+1+1+1+1) a.n v ((a.args.take k).map (ja0 vs)) wr∧Blk wr w.heap.size 224 #[u0,u1,.slice QA vs.length qc]∧Blk wr (w.heap.size+1+1) 305 #[.string ⟨#[]⟩,.slice none 0 0])) (fun i _=>a.args.length-(intOf i).toNat)
 case atStart=>exact⟨0,_,Nat.zero_le _,rfl,zh ⟨HB0.out,HB1.out,HB2.out⟩⟩
 case round =>
  obtain⟨k,v,hk,rfl,hrl⟩:=hrel;obtain⟨hpb,hqb,hrb⟩:=hrl.out;obtain⟨VA,vn,vc,rfl,hvn,hv1,hv2⟩:=hpb.own.form2;have hk0:(0:Int)≤(k:Int):=by omega
  by_cases hlt:k<a.args.length
  · have hk1 : (k:Int)<(a.args.length:Int):=by omega
    obtain⟨bt,ot,t,rfl,hbt,htk,htn,ht0,ht1⟩:=jae.at_ (HT.out.ext hpb.ext) hlt;have HST:=zh (jyp (vs:=vs) htk);have HPB:=zh hpb;have HQB:=zh hqb;have HRB:=zh hrb;have hmem:=List.mem_of_getElem? htk;have HLN:=zh (show ((a.args.take k).map (ja0 vs)).length=k from by rw[List.length_map,List.length_take];omega);clear htk hpb hqb hrb hrl;rcases Bool.eq_false_or_eq_true t.v with hv|hv
    · rw [hv] at ht0
      obtain⟨i,hi⟩:=List.getElem?_of_mem (HV.out t hmem hv);have HSL:=zh (show ja0 vs t=⟨some i,jcq⟩ from by unfold ja0;rw[if_pos hv,jlx HA.out.nodup hi];rfl);have HBS:=zh (fun (W:World) (hW:Ext w W)=>jo9 vs _ t.n i W (HQ.out.ext hW) HA.out hi hvl);clear hmem hv hi;go_wp2_with (first|(go_at_call 219;refine (jel t.n _).2.mono ?_;rintro e w1 ⟨rfl,hx1⟩)|fail)
      have HX1:=zh (show Ext wr w1 from ((Ext.refl wr).alloc _).trans' hx1);have HP1:=zh (HPB.out.next HX1.out);have q2:=(HQB.out.ext HX1.out).cell 2;have ql:=(HQB.out.ext HX1.out).lt;have HBS1:=zh (fun (W:World) (hW:Ext w1 W)=>HBS.out W (HP1.out.ext.trans' hW));refine jar (by kernel_rfl) (by kernel_rfl) ?_;repeat (go_big_quiet_step ((first|(go_at_call 221;exact jpz (jc4 _ _))|(go_at_call 294;exact jpz (HBS1.out _ (Later.ext _))))))
      refine wpQuiet_nil ?_;rintro w3 ⟨⟨_,hx3⟩,rfl⟩;have HP3:=zh (HP1.out.next hx3);have HQ3:=zh (HQB.out.ext (HX1.out.trans' hx3));have HR3:=zh (HRB.out.ext (HX1.out.trans' hx3));have c1:=HP3.out.blk.cell 1;have cl:=HP3.out.blk.lt;have hbw:=HP3.out.lo.2.2;clear q2 ql;go_wp2_with (at_builtin;go_loud (refine jd9 (k:=kSlot) (S:=None) (T:=None) (base:=w.heap.size+1+1+1+1) (xs:=(a.args.take k).map (ja0 vs)) (ys:=[ja0 vs t]) rfl (.tmp 36) (.tmp 39) 303 (by rfl) i0 _ 24 Tryz.underlying303 hi0 hz0 hz1 hz2 (by rfl) (by rfl) (HP3.out.own.alloc _) _ 1 1 (by rfl) (jas.one (k:=kSlot) (x:=ja0 vs t) (l:=[.int .i64 (i:Int),.string ⟨#[]⟩]) (Blk.at_new (by simp)) (by rw[HSL.out];exact⟨rfl,Nat.zero_le _⟩)) (fun _ h=>h.elim) (maxOf (by rw[HLN.out];simp;omega)) (by rw[HLN.out];omega) (by go_size) ?_;intro v6 w6 hap;have HAP:=zh hap;obtain⟨A6,c6,rfl,_,_⟩:=hap.own.form;have e1:=(hap.blk (HP3.out.blk.alloc _) (by omega)).cell 1;have e2:=(hap.blk (HP3.out.blk.alloc _) (by omega)).frozen 1;have e3:=(hap.blk (HP3.out.blk.alloc _) (by omega)).lt;clear hap))
      have h6:=HAP.out;have hlen:((a.args.take k).map (ja0 vs)++[ja0 vs t]).length=k+1:=by rw[List.length_append,HLN.out];rfl
      rw[hlen] at h6;have H6:=zh h6;clear h6 hlen HAP;go_roundw
      case rel =>
       refine⟨k+1,.slice A6 (k+1) c6,by omega,by go_num,zh ⟨?_,?_,?_⟩⟩
       · rw[HST.out];exact (HP3.out.next ((Ext.refl _).alloc _)).app H6.out
       · exact (H6.out.blk (HQ3.out.alloc _) (by omega)).far (by show w.heap.size≠w.heap.size+1+1+1;omega) _
       exact (H6.out.blk (HR3.out.alloc _) (by omega)).far (by show w.heap.size+1+1≠w.heap.size+1+1+1;omega) _
      case measure=>simp[intOf];omega
    rw[hv] at ht0;have HSL:=zh (show ja0 vs t=⟨none,t.n⟩ from by unfold ja0;rw[hv];rfl);clear hmem hv;go_wp2_with (first|(go_at_call 219;refine (jel t.n _).1.mono ?_;rintro e w1 ⟨rfl,hx1⟩)|fail)
    have HX1:=zh (show Ext wr w1 from ((Ext.refl wr).alloc _).trans' hx1);have HP1:=zh (HPB.out.next HX1.out);have HQ1:=zh (HQB.out.ext HX1.out);have HR1:=zh (HRB.out.ext HX1.out);have c1:=HP1.out.blk.cell 1;have cl:=HP1.out.blk.lt;have hbw:=HP1.out.lo.2.2;refine wp_region_noPanic ?_;refine wp_region_held_drew (S:=(fun w'=>True∧True)) (by kernel_rfl) ?_ (fun hHeld=>?_)
    · (try dsimp only);(first|exact⟨trivial,trivial⟩)
    refine tk 0 (v:=?_) rfl ?_ ?_;rotate_left;((intro w hSw;(try dsimp only at hSw);go_simp)<;>with_reducible rfl);(try simp only[Act.put,stz])
    refine tk 2 (v:=?_) rfl ?_ ?_;rotate_left;((intro w hSw;(try dsimp only at hSw);go_simp)<;>with_reducible rfl);(try simp only[Act.put,stz])
    refine wpAnyH_ready (rs:=[1,3]) (by kernel_rfl) (by simp) ?_;refine AllReadyH.cons (o:=_) rfl (fun K hK=>?_) ?_
    · go_simp
      refine hK.out _ _ ?_ (fun hNew=>?_)
      · (try dsimp only);(first|exact⟨trivial,trivial⟩)
      clear hK K hHeld;have hHeld:=hNew;clear hNew;try simp only[Act.put,stz]
      refine wpAnyH_ready (rs:=[3]) (by kernel_rfl) (by simp) ?_;refine AllReadyH.cons (o:=_) rfl (fun K hK=>?_) ?_
      · go_simp
        go_at_call 279;refine (jf4 t.n _).mono ?_;rintro e w4 ⟨rfl,rfl⟩
        refine hK.out _ _ ?_ (fun hNew=>?_)
        · (try dsimp only);(first|exact⟨trivial,trivial⟩)
        clear hK K hHeld;have hHeld:=hNew;clear hNew;try simp only[Act.put,stz]
        refine tk 4 (v:=?_) rfl ?_ ?_;rotate_left;((intro w hSw;(try dsimp only at hSw);go_simp)<;>with_reducible rfl);(try simp only[Act.put,stz])
        refine wpAnyH_ready (rs:=[5]) (by kernel_rfl) (by simp) ?_;refine AllReadyH.cons (o:=_) rfl (fun K hK=>?_) ?_
        · go_simp
          refine hK.out _ _ ?_ (fun hNew=>?_)
          · (try dsimp only);(first|exact⟨trivial,trivial⟩)
          clear hK K hHeld;have hHeld:=hNew;clear hNew;try simp only[Act.put,stz]
          refine wpAnyH_ready (rs:=[6]) (by kernel_rfl) (by simp) ?_;refine AllReadyH.cons (o:=_) rfl (fun K hK=>?_) ?_
          · refine jb2 (o:=⟨some 51,_,_,_,_,_⟩) (k:=kSlot) (S:=None) (T:=None) (base:=w.heap.size+1+1+1+1) (xs:=(a.args.take k).map (ja0 vs)) (ys:=[ja0 vs t]) (by rfl) (.tmp 46) (.tmp 50) 303 (by rfl) i0 _ 24 Tryz.underlying303 hi0 hz0 hz1 hz2 (by rfl) (by rfl) ((HP1.out.own.ext (Ext.refl _).drew).alloc _) _ 1 1 (by rfl) (jas.one (k:=kSlot) (x:=ja0 vs t) (l:=[.int .i64 (-1),.string t.n]) (Blk.new _ _ _) (by rw[HSL.out];exact⟨rfl,htn⟩)) (fun _ h=>h.elim) (maxOf (by rw[HLN.out];simp;omega)) (by rw[HLN.out];omega) (by go_size) ?_
            intro v6 w6 hap;obtain⟨A6,c6,rfl,_,_⟩:=hap.own.form;have e1:=(hap.blk ((HP1.out.blk.ext (Ext.refl _).drew).alloc _) (by omega)).cell 1;have e2:=(hap.blk ((HP1.out.blk.ext (Ext.refl _).drew).alloc _) (by omega)).frozen 1;have e3:=(hap.blk ((HP1.out.blk.ext (Ext.refl _).drew).alloc _) (by omega)).lt;have HAP:=zh hap;clear hap;refine hK.out _ _ ?_ (fun hNew=>?_)
            · (try dsimp only);(first|exact⟨trivial,trivial⟩)
            clear hK K hHeld;have hHeld:=hNew;clear hNew;try simp only[Act.put,stz]
            refine tk 7 (v:=?_) rfl ?_ ?_;rotate_left;((intro w hSw;(try dsimp only at hSw);go_simp)<;>with_reducible rfl);(try simp only[Act.put,stz])
            refine wpAnyH_ready (rs:=[8]) (by kernel_rfl) (by simp) ?_;refine AllReadyH.cons (o:=_) rfl (fun K hK=>?_) ?_
            · go_simp
              refine hK.out _ _ ?_ (fun hNew=>?_)
              · (try dsimp only);(first|exact⟨trivial,trivial⟩)
              clear hK K hHeld;have hHeld:=hNew;clear hNew;try simp only[Act.put,stz]
              refine wpAnyH_done (by kernel_rfl) ?_ _;refine NoPanic.normal ?_;go_wp2;have h6:=HAP.out;have hlen:((a.args.take k).map (ja0 vs)++[ja0 vs t]).length=k+1:=by rw[List.length_append,HLN.out];rfl
              rw[hlen] at h6;have H6:=zh h6;clear h6 hlen HAP;go_roundw
              case rel =>
               refine⟨k+1,.slice A6 (k+1) c6,by omega,by go_num,zh ⟨?_,?_,?_⟩⟩
               · rw[HST.out];exact (HP1.out.next ((Ext.refl _).drew.alloc _)).app H6.out
               · exact (H6.out.blk ((HQ1.out.ext (Ext.refl _).drew).alloc _) (by omega)).far (by show w.heap.size≠w.heap.size+1+1+1;omega) _
               exact (H6.out.blk ((HR1.out.ext (Ext.refl _).drew).alloc _) (by omega)).far (by show w.heap.size+1+1≠w.heap.size+1+1+1;omega) _
              case measure=>simp[intOf];omega
            exact AllReadyH.nil
          exact AllReadyH.nil
        exact AllReadyH.nil
      exact AllReadyH.nil
    refine AllReadyH.cons (o:=_) rfl (fun K hK=>?_) ?_
    · go_simp
      go_at_call 279;refine (jf4 t.n _).mono ?_;rintro e w4 ⟨rfl,rfl⟩
      refine hK.out _ _ ?_ (fun hNew=>?_)
      · (try dsimp only);(first|exact⟨trivial,trivial⟩)
      clear hK K hHeld;have hHeld:=hNew;clear hNew;try simp only[Act.put,stz]
      refine tk 4 (v:=?_) rfl ?_ ?_;rotate_left;((intro w hSw;(try dsimp only at hSw);go_simp)<;>with_reducible rfl);(try simp only[Act.put,stz])
      refine wpAnyH_ready (rs:=[1,5]) (by kernel_rfl) (by simp) ?_;refine AllReadyH.cons (o:=_) rfl (fun K hK=>?_) ?_
      · go_simp
        refine hK.out _ _ ?_ (fun hNew=>?_)
        · (try dsimp only);(first|exact⟨trivial,trivial⟩)
        clear hK K hHeld;have hHeld:=hNew;clear hNew;try simp only[Act.put,stz]
        refine wpAnyH_ready (rs:=[5]) (by kernel_rfl) (by simp) ?_;refine AllReadyH.cons (o:=_) rfl (fun K hK=>?_) ?_
        · go_simp
          refine hK.out _ _ ?_ (fun hNew=>?_)
          · (try dsimp only);(first|exact⟨trivial,trivial⟩)
          clear hK K hHeld;have hHeld:=hNew;clear hNew;try simp only[Act.put,stz]
          refine wpAnyH_ready (rs:=[6]) (by kernel_rfl) (by simp) ?_;refine AllReadyH.cons (o:=_) rfl (fun K hK=>?_) ?_
          · refine jb2 (o:=⟨some 51,_,_,_,_,_⟩) (k:=kSlot) (S:=None) (T:=None) (base:=w.heap.size+1+1+1+1) (xs:=(a.args.take k).map (ja0 vs)) (ys:=[ja0 vs t]) (by rfl) (.tmp 46) (.tmp 50) 303 (by rfl) i0 _ 24 Tryz.underlying303 hi0 hz0 hz1 hz2 (by rfl) (by rfl) ((HP1.out.own.ext (Ext.refl _).drew).alloc _) _ 1 1 (by rfl) (jas.one (k:=kSlot) (x:=ja0 vs t) (l:=[.int .i64 (-1),.string t.n]) (Blk.new _ _ _) (by rw[HSL.out];exact⟨rfl,htn⟩)) (fun _ h=>h.elim) (maxOf (by rw[HLN.out];simp;omega)) (by rw[HLN.out];omega) (by go_size) ?_
            intro v6 w6 hap;obtain⟨A6,c6,rfl,_,_⟩:=hap.own.form;have e1:=(hap.blk ((HP1.out.blk.ext (Ext.refl _).drew).alloc _) (by omega)).cell 1;have e2:=(hap.blk ((HP1.out.blk.ext (Ext.refl _).drew).alloc _) (by omega)).frozen 1;have e3:=(hap.blk ((HP1.out.blk.ext (Ext.refl _).drew).alloc _) (by omega)).lt;have HAP:=zh hap;clear hap;refine hK.out _ _ ?_ (fun hNew=>?_)
            · (try dsimp only);(first|exact⟨trivial,trivial⟩)
            clear hK K hHeld;have hHeld:=hNew;clear hNew;try simp only[Act.put,stz]
            refine tk 7 (v:=?_) rfl ?_ ?_;rotate_left;((intro w hSw;(try dsimp only at hSw);go_simp)<;>with_reducible rfl);(try simp only[Act.put,stz])
            refine wpAnyH_ready (rs:=[8]) (by kernel_rfl) (by simp) ?_;refine AllReadyH.cons (o:=_) rfl (fun K hK=>?_) ?_
            · go_simp
              refine hK.out _ _ ?_ (fun hNew=>?_)
              · (try dsimp only);(first|exact⟨trivial,trivial⟩)
              clear hK K hHeld;have hHeld:=hNew;clear hNew;try simp only[Act.put,stz]
              refine wpAnyH_done (by kernel_rfl) ?_ _;refine NoPanic.normal ?_;go_wp2;have h6:=HAP.out;have hlen:((a.args.take k).map (ja0 vs)++[ja0 vs t]).length=k+1:=by rw[List.length_append,HLN.out];rfl
              rw[hlen] at h6;have H6:=zh h6;clear h6 hlen HAP;go_roundw
              case rel =>
               refine⟨k+1,.slice A6 (k+1) c6,by omega,by go_num,zh ⟨?_,?_,?_⟩⟩
               · rw[HST.out];exact (HP1.out.next ((Ext.refl _).drew.alloc _)).app H6.out
               · exact (H6.out.blk ((HQ1.out.ext (Ext.refl _).drew).alloc _) (by omega)).far (by show w.heap.size≠w.heap.size+1+1+1;omega) _
               exact (H6.out.blk ((HR1.out.ext (Ext.refl _).drew).alloc _) (by omega)).far (by show w.heap.size+1+1≠w.heap.size+1+1+1;omega) _
              case measure=>simp[intOf];omega
            exact AllReadyH.nil
          exact AllReadyH.nil
        exact AllReadyH.nil
      refine AllReadyH.cons (o:=_) rfl (fun K hK=>?_) ?_
      · go_simp
        refine hK.out _ _ ?_ (fun hNew=>?_)
        · (try dsimp only);(first|exact⟨trivial,trivial⟩)
        clear hK K hHeld;have hHeld:=hNew;clear hNew;try simp only[Act.put,stz]
        refine wpAnyH_ready (rs:=[1]) (by kernel_rfl) (by simp) ?_;refine AllReadyH.cons (o:=_) rfl (fun K hK=>?_) ?_
        · go_simp
          refine hK.out _ _ ?_ (fun hNew=>?_)
          · (try dsimp only);(first|exact⟨trivial,trivial⟩)
          clear hK K hHeld;have hHeld:=hNew;clear hNew;try simp only[Act.put,stz]
          refine wpAnyH_ready (rs:=[6]) (by kernel_rfl) (by simp) ?_;refine AllReadyH.cons (o:=_) rfl (fun K hK=>?_) ?_
          · refine jb2 (o:=⟨some 51,_,_,_,_,_⟩) (k:=kSlot) (S:=None) (T:=None) (base:=w.heap.size+1+1+1+1) (xs:=(a.args.take k).map (ja0 vs)) (ys:=[ja0 vs t]) (by rfl) (.tmp 46) (.tmp 50) 303 (by rfl) i0 _ 24 Tryz.underlying303 hi0 hz0 hz1 hz2 (by rfl) (by rfl) ((HP1.out.own.ext (Ext.refl _).drew).alloc _) _ 1 1 (by rfl) (jas.one (k:=kSlot) (x:=ja0 vs t) (l:=[.int .i64 (-1),.string t.n]) (Blk.new _ _ _) (by rw[HSL.out];exact⟨rfl,htn⟩)) (fun _ h=>h.elim) (maxOf (by rw[HLN.out];simp;omega)) (by rw[HLN.out];omega) (by go_size) ?_
            intro v6 w6 hap;obtain⟨A6,c6,rfl,_,_⟩:=hap.own.form;have e1:=(hap.blk ((HP1.out.blk.ext (Ext.refl _).drew).alloc _) (by omega)).cell 1;have e2:=(hap.blk ((HP1.out.blk.ext (Ext.refl _).drew).alloc _) (by omega)).frozen 1;have e3:=(hap.blk ((HP1.out.blk.ext (Ext.refl _).drew).alloc _) (by omega)).lt;have HAP:=zh hap;clear hap;refine hK.out _ _ ?_ (fun hNew=>?_)
            · (try dsimp only);(first|exact⟨trivial,trivial⟩)
            clear hK K hHeld;have hHeld:=hNew;clear hNew;try simp only[Act.put,stz]
            refine tk 7 (v:=?_) rfl ?_ ?_;rotate_left;((intro w hSw;(try dsimp only at hSw);go_simp)<;>with_reducible rfl);(try simp only[Act.put,stz])
            refine wpAnyH_ready (rs:=[8]) (by kernel_rfl) (by simp) ?_;refine AllReadyH.cons (o:=_) rfl (fun K hK=>?_) ?_
            · go_simp
              refine hK.out _ _ ?_ (fun hNew=>?_)
              · (try dsimp only);(first|exact⟨trivial,trivial⟩)
              clear hK K hHeld;have hHeld:=hNew;clear hNew;try simp only[Act.put,stz]
              refine wpAnyH_done (by kernel_rfl) ?_ _;refine NoPanic.normal ?_;go_wp2;have h6:=HAP.out;have hlen:((a.args.take k).map (ja0 vs)++[ja0 vs t]).length=k+1:=by rw[List.length_append,HLN.out];rfl
              rw[hlen] at h6;have H6:=zh h6;clear h6 hlen HAP;go_roundw
              case rel =>
               refine⟨k+1,.slice A6 (k+1) c6,by omega,by go_num,zh ⟨?_,?_,?_⟩⟩
               · rw[HST.out];exact (HP1.out.next ((Ext.refl _).drew.alloc _)).app H6.out
               · exact (H6.out.blk ((HQ1.out.ext (Ext.refl _).drew).alloc _) (by omega)).far (by show w.heap.size≠w.heap.size+1+1+1;omega) _
               exact (H6.out.blk ((HR1.out.ext (Ext.refl _).drew).alloc _) (by omega)).far (by show w.heap.size+1+1≠w.heap.size+1+1+1;omega) _
              case measure=>simp[intOf];omega
            exact AllReadyH.nil
          exact AllReadyH.nil
        exact AllReadyH.nil
      exact AllReadyH.nil
    exact AllReadyH.nil
  have b0:=hrb;have c0:=hpb.blk.cell 0;have c1:=hpb.blk.cell 1;have hbl:=hpb.blk.lt;have d0:=hrb.cell 0;have d1:=hrb.cell 1;have f0:=hrb.frozen 0;have f1:=hrb.frozen 1;have hrl':=hrb.lt;have e0:a.args.take k=a.args:=List.take_of_length_le (by omega);rw[e0] at hpb;have HPB:=zh hpb;have HRB:=zh hrb;clear hpb hrb hqb hrl b0 e0;go_wp2;refine bodyPost_ret (v:=.agg #[.string a.n,.slice VA vn vc]) (by simp[results,Tryz.results252,go_sem,d0,d1]) rfl ⟨⟨_,rfl,?_⟩,?_⟩
  · have h1:jbc (From (w.heap.size+1+1+1+1)) wr (.slice VA vn vc) (a.args.map (ja0 vs)):=HPB.out.own.list (S':=From (w.heap.size+1+1+1+1)) (fun _ h=>h.elim) (fun _ h=>h)
    exact jbc.impL h1 (fun b hb _=>Nat.le_trans (by omega) hb) (((Agree.refl _ _).setCell (jeu (by show w.heap.size+1+1<_;omega)) _).setCell (jeu (by show w.heap.size+1+1<_;omega)) _) (by go_size)
  exact Ext.setNew (a:=w) (Ext.setNew HPB.out.ext (by show _≤w.heap.size+1+1;omega) _) (by show _≤w.heap.size+1+1;omega) _
end Go.Proofs.YthdojieomhighaaGreatDoor
namespace Go.Proofs.YthdojieomhighaaGreatDoor
open Go.RowKit
structure TwoK (base:Nat) (e:TypeId) (Sp Sn:Nat→Prop) (w:World) (vp:Value) (ps:List GPat) (vn:Value) (ns:List GPat):Prop where
 p:OwnK kPat base e Sp w vp ps
 n:OwnK kPat base e Sn w vn ns
 fp:∀ b,Sp b→b<w.heap.size∧vp.ownBlock≠some b∧vn.ownBlock≠some b
 fn:∀ b,Sn b→b<w.heap.size∧vp.ownBlock≠some b∧vn.ownBlock≠some b
 dis:∀ b,vp.ownBlock=some b→vn.ownBlock≠some b
section
variable {base:Nat} {e:TypeId} {Sp Sn T:Nat→Prop} {w w':World} {vp vn v':Value} {ps ns zs:List GPat}
theorem TwoK.nil:TwoK base e (fun _=>False) (fun _=>False) w (.slice none 0 0) [] (.slice none 0 0) []:=⟨OwnK.nil,OwnK.nil,fun _ h=>h.elim,fun _ h=>h.elim,fun b h=>by cases h⟩
theorem TwoK.swap (h:TwoK base e Sp Sn w vp ps vn ns):TwoK base e Sn Sp w vn ns vp ps:=⟨h.n,h.p,fun b hb=>⟨(h.fn b hb).1,(h.fn b hb).2.2,(h.fn b hb).2.1⟩,fun b hb=>⟨(h.fp b hb).1,(h.fp b hb).2.2,(h.fp b hb).2.1⟩,fun b h1 h2=>h.dis b h2 h1⟩
theorem TwoK.ext (h:TwoK base e Sp Sn w vp ps vn ns) (hx:Ext w w'):TwoK base e Sp Sn w' vp ps vn ns :=
 ⟨h.p.ext hx,h.n.ext hx,fun b hb=>⟨Nat.lt_of_lt_of_le (h.fp b hb).1 hx.size,(h.fp b hb).2⟩,fun b hb=>⟨Nat.lt_of_lt_of_le (h.fn b hb).1 hx.size,(h.fn b hb).2⟩,h.dis⟩
theorem TwoK.set (h:TwoK base e Sp Sn w vp ps vn ns) {a:Addr} (ha:a.block<base) (h1:¬ Sp a.block) (h2:¬ Sn a.block) (u:Value):TwoK base e Sp Sn (w.setCell a u) vp ps vn ns:=by
 have hs:w.heap.size≤(w.setCell a u).heap.size:=by simp[World.setCell]
 exact⟨h.p.set ha h1 u,h.n.set ha h2 u,fun b hb=>⟨Nat.lt_of_lt_of_le (h.fp b hb).1 hs,(h.fp b hb).2⟩,fun b hb=>⟨Nat.lt_of_lt_of_le (h.fn b hb).1 hs,(h.fn b hb).2⟩,h.dis⟩
theorem TwoK.app (h:TwoK base e Sp Sn w vp ps vn ns) (ha:Apped kPat base e (fun b=>Sp b∨T b) w vp zs v' w') (hT:∀ b,T b→b<w.heap.size∧vp.ownBlock≠some b∧vn.ownBlock≠some b):TwoK base e (fun b=>Sp b∨T b) Sn w' v' zs vn ns:=by
 have hsz:w.heap.size≤w'.heap.size:=ha.grown.size
 have hv:∀ b,b<w.heap.size→vp.ownBlock≠some b→v'.ownBlock≠some b:=fun b hb hne e=>by
  rcases ha.at_ with h1|h1
  · exact hne (h1▸e)
  rw[h1] at e;cases e;exact absurd hb (Nat.lt_irrefl _)
 refine⟨ha.own,h.n.grown ha.grown (fun g hg e=>h.dis g e hg) (fun b hb e=>(h.fn b hb).2.1 e),fun b hb=>?_,fun b hb=>?_,fun b h1 h2=>?_⟩
 · have hb':b<w.heap.size∧vp.ownBlock≠some b∧vn.ownBlock≠some b:=hb.elim (h.fp b) (hT b)
   exact⟨Nat.lt_of_lt_of_le hb'.1 hsz,hv b hb'.1 hb'.2.1,hb'.2.2⟩
 · have hb':=h.fn b hb
   exact⟨Nat.lt_of_lt_of_le hb'.1 hsz,hv b hb'.1 hb'.2.1,hb'.2.2⟩
 rcases ha.at_ with h3|h3
 · exact h.dis b (h3▸h1) h2
 rw[h3] at h1;cases h1;exact absurd (h.n.at_ _ h2).2 (Nat.lt_irrefl _)
end
end Go.Proofs.YthdojieomhighaaGreatDoor
