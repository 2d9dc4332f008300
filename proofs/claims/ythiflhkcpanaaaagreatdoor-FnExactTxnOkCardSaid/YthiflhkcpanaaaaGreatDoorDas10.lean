/- Own texts, joined. -/
import Derived.Test.YthiflhkcpanaaaaGreatDoorDas09
import Derived.Deep.QuietTactic
set_option linter.unusedSimpArgs false
set_option linter.unusedVariables false
set_option maxHeartbeats 8000000
set_option maxRecDepth 100000
namespace Go.Proofs.YthiflhkcpanaaaaGreatDoor
open Go.RowKit
theorem jrk {α β:Type} (f:α->List β) (l:List α) (k:Nat):((l.take k).flatMap f).length<=(l.flatMap f).length:=by
 conv=>rhs;rw[<- List.take_append_drop k l,List.flatMap_append,List.length_append]
 exact Nat.le_add_right _ _
theorem jrl (a:GA) (l:List GA) (b:LB) (k:Nat):(jbs a (l.take k) b).length<=(jbs a l b).length:=by
 unfold jbs
 conv=>rhs;rw[<- List.take_append_drop k l,List.filterMap_append,List.length_append]
 exact Nat.le_add_right _ _
theorem j0v {a f:GA} {xs:List GA} {out:List LB} {bd:LB} {q r:Nat} (hq:out[q]? = some bd) (hr:xs[r]? = some f) (hm:(jcz a f bd).2=true) :
  ((out.take q).flatMap (jbs a xs)++jbs a (xs.take r) bd).length+1<=(out.flatMap (jbs a xs)).length:=by
 have h1:=jrk (jbs a xs) out (q+1);rw[jrj _ hq,List.length_append] at h1;have h2:=jrl a xs bd (r+1);rw[jhs a hr,hm,List.length_append] at h2;simp only[if_true,List.length_cons,List.length_nil] at h2;rw[List.length_append];omega
structure Boxed (N M:Nat) (wr wf:World) (bx:Nat) (x y:Value) (b:LB):Prop where
 blk:Blk wf bx 204 #[x,y]
 ext:Ext wr wf
 ns:StrsR (fun i=>(N<=i/\i<M)∨wr.heap.size<=i) wf x b.ns
 vs:StrsR (fun i=>(N<=i/\i<M)∨wr.heap.size<=i) wf y b.vs
 ok:b.ok
theorem jyn {N M L:Nat} {wr w5:World} {x y:Value} {b:LB} (hx:Ext wr w5) (hL:L=wr.heap.size) (h1:StrsR (fun i=>(N<=i/\i<M)/\i<L∨L<=i) w5 x b.ns) (h2:StrsR (fun i=>(N<=i/\i<M)/\i<L∨L<=i) w5 y b.vs) (h3:b.ok) :
  Boxed N M wr (w5.alloc (.cells #[x,y] 204)) w5.heap.size x y b :=
 ⟨Blk.new _ _ _,hx.alloc _,(h1.sub (fun i hi=>hi.elim (fun h=>.inl h.1) (fun h=>.inr (hL▸h)))).ext ((Ext.refl _).alloc _),(h2.sub (fun i hi=>hi.elim (fun h=>.inl h.1) (fun h=>.inr (hL▸h)))).ext ((Ext.refl _).alloc _),h3⟩
theorem jyo {N M L:Nat} {wr w5:World} {x y z0 z1:Value} {b:LB} (hb:Blk w5 wr.heap.size 204 #[z0,z1]) (hx:Ext wr w5) (hL:L=wr.heap.size+1) (hM:M<=wr.heap.size) (h1:StrsR (fun i=>(N<=i/\i<M)/\i<L∨L<=i) w5 x b.ns) (h2:StrsR (fun i=>(N<=i/\i<M)/\i<L∨L<=i) w5 y b.vs) (h3:b.ok) :
  Boxed N M wr ((w5.setCell ⟨wr.heap.size,0,none⟩ x).setCell ⟨wr.heap.size,1,none⟩ y) wr.heap.size x y b:=by
 have hA:Agree (fun i=>(N<=i/\i<M)/\i<L∨L<=i) w5 ((w5.setCell ⟨wr.heap.size,0,none⟩ x).setCell ⟨wr.heap.size,1,none⟩ y) :=
  ((Agree.refl _ _).setCell (fun h=>by rcases h with h|h<;>simp only at h<;>omega) x).setCell (fun h=>by rcases h with h|h<;>simp only at h<;>omega) y
 refine⟨by simpa using (hb.set_ 0 x).set_ 1 y,(hx.setNew (Nat.le_refl _) x).setNew (Nat.le_refl _) y,h1.impL (fun i hi _=>hi.elim (fun h=>.inl h.1) (fun h=>.inr (by omega))) hA (by go_size),h2.impL (fun i hi _=>hi.elim (fun h=>.inl h.1) (fun h=>.inr (by omega))) hA (by go_size),h3⟩
theorem jyp (xs : List GA) (ps:List GP) (v u:Value) (w:World) {S T:Nat->Prop} (hv:jab S w v xs) (hu:jao T w u ps) (hps:∀ p∈ps,p.atom.args.length<=1000) (hpl:ps.length<=4) (hxl:xs.length<=900) :
  Calls Tryz.prog 163 #[v,u] w fun e w'=>(∃ v',e=.returned v'/\jeo (From w.heap.size) w' v' (allN xs ps))/\Ext w w':=by
 obtain⟨A,c,rfl,hc1,hc2⟩:=jaa.form hv;obtain⟨B,d,rfl,hd1,hd2⟩:=jaa.form hu;obtain⟨i0,hi0,hz0,hz1,hz2,hz3⟩:∃ i0,Tryz.prog.info? 204=some i0/\i0.zero=some (.agg #[.slice none 0 0,.slice none 0 0])/\i0.size=2/\(Value.agg #[.slice none 0 0,.slice none 0 0]).cells.size=2/\i0.bytes=48:=⟨_,rfl,rfl,rfl,rfl,rfl⟩
 have HV:=zh hv;have HU:=zh hu;have HPS:=zh hps;clear hv hu hps
 go_in;go_wp2;go_loopw [5,6] (fun o i wr=>∃ k:Nat,k<=ps.length/\i=.int .i64 k/\J1 (OwnK kBind w.heap.size 204 (From w.heap.size) wr o ((ps.take k).foldl (jbe xs) [⟨[],[]⟩]))/\Ext w wr) (fun _ i _=>ps.length-(intOf i).toNat)
 case atStart=>exact⟨0,Nat.zero_le _,rfl,zh ⟨[.slice none 0 0,.slice none 0 0],fun _=>False,⟨rfl,.inr ⟨w.heap.size,1,#[.slice none 0 0,.slice none 0 0],rfl,Nat.le_refl _,Blk.new w _ _,Nat.le_refl _,by unfold maxLen;omega,rfl,rfl⟩⟩,RowsE.one rfl ⟨_,_,rfl,ListK.nil (k:=kStr) 0 (Nat.zero_le _) none,ListK.nil (k:=kStr) 0 (Nat.zero_le _) none,rfl⟩,fun _ h=>h.elim,fun _ _ h=>h⟩,(Ext.refl _).alloc _⟩
 case round =>
  obtain⟨k,hk,rfl,ho,hx⟩:=hrel;have hk0:(0:Int)<=(k:Int):=by omega
  obtain⟨A0,n0,c0,rfl,hn0,ha0,hb0⟩:=ho.o.form2;by_cases hlt:k<ps.length
  . have hk1 : (k : Int)<(ps.length:Int):=by omega
    obtain⟨bp,op,p,vp,rfl,hbp,hpk,hpn,hpt,hp0,hp1,hp2⟩:=jao.at_ HU.o hlt;obtain⟨G,cg,rfl,hcg1,hcg2⟩:=jaa.form hpt;have r0:=(hx.cells.1 bp (op+k*3) hbp).trans hp0;have r1:=(hx.cells.1 bp (op+k*3+1) hbp).trans hp1;have r2:=(hx.cells.1 bp (op+k*3+2) hbp).trans hp2;have HPT:=zh hpt;have HPL:=zh (HPS.o p (List.mem_of_getElem? hpk));have HPK:=zh hpk;clear hp0 hp1 hp2 hpk hpt;cases hno:p.no
    . rw [hno] at r0
      have HN:=zh (show (ps.take (k+1)).foldl (jbe xs) [⟨[],[]⟩]=((ps.take k).foldl (jbe xs) [⟨[],[]⟩]).flatMap (jbs p.atom xs) from by rw[joc _ _ HPK.o];unfold jbe;simp[hno]);have HMO:=zh (show (((ps.take (k+1)).foldl (jbe xs) [⟨[],[]⟩]).length)<=1000000000000 from jko xs _ hxl (by rw[List.length_take];omega));have HNS:=zh (show ∀ b∈(ps.take k).foldl (jbe xs) [⟨[],[]⟩],b.ns.length<=4000 from fun b hb=>Nat.le_trans (jod xs (m:=1000) _ _ 0 (fun b hb=>by simp at hb;subst hb;simp) (fun q hq=>HPS.o q (List.mem_of_mem_take hq)) b hb) (by rw[List.length_take];omega));obtain⟨out,hout⟩:=nm ((ps.take k).foldl (jbe xs) [⟨[],[]⟩]);rw[<- hout] at ho hn0 HN HNS;have HB:=zh (show jeo (fun b=>w.heap.size<=b/\b<wr.heap.size) wr (.slice A0 n0 c0) out from by rw[hn0.o] at *;exact ListK.low (k:=kBind) (ho.o.list (S':=From w.heap.size) (fun _ h=>h) (fun _ h=>h)));have HO0:=zh hout;clear hout hno;obtain rfl:=hn0.o;obtain⟨N0,hN0⟩:=nm (wr.heap.size);have hN1:w.heap.size<=N0:=by rw[hN0];exact hx.size
      rw[<- hN0] at HB;have HN0:=zh hN0;clear hN0
      rename World=>w0
      go_wp2;go_loopw [7,8] (fun o j wq=>∃ q:Nat,q<=out.length/\j=.int .i64 q/\J1 (OwnK kBind N0 204 (From w.heap.size) wq o ((out.take q).flatMap (jbs p.atom xs)))/\Ext w0 wq) (fun _ j _=>out.length-(intOf j).toNat)
      case atStart=>exact⟨0,Nat.zero_le _,rfl,zh (OwnK.empty rfl (Nat.le_of_eq HN0.o)),(Ext.refl _).alloc _⟩
      case round =>
       obtain⟨q,hq,rfl,hoq,hxq⟩:=hrel;obtain⟨A1,n1,c1,rfl,hn1,ha1,hb1⟩:=hoq.o.form2;have hq0:(0:Int)<=(q:Int):=by omega
       by_cases hlq:q<out.length
       . have hlq1 : (q:Int)<(out.length:Int):=by omega
         obtain⟨bb,off,bd,x,y,rfl,hbb,hbk,hxs,hys,hok,hc0,hc1⟩:=jeo.at_ HB.o hlq;obtain⟨X,cx,rfl,hcx1,hcx2⟩:=jaa.form hxs;obtain⟨Y,cy,rfl,hcy1,hcy2⟩:=jaa.form hys;have HXS:=zh hxs;have HYS:=zh hys;have HOK:=zh hok;have HBK:=zh hbk;have HC0:=zh hc0;have HC1:=zh hc1;have HNB:=zh (HNS.o bd (List.mem_of_getElem? hbk));clear hxs hys hok hbk hc0 hc1;go_wp2;go_loopw [7,9] (fun o j wz=>∃ r:Nat,r<=xs.length/\j=.int .i64 r/\J1 (OwnK kBind N0 204 (From w.heap.size) wz o ((out.take q).flatMap (jbs p.atom xs)++jbs p.atom (xs.take r) bd))/\Ext w0 wz) (fun _ j _=>xs.length-(intOf j).toNat)
         case atStart=>exact⟨0,Nat.zero_le _,rfl,zh (by simpa [jbs] using hoq.o),hxq⟩
         case round =>
          obtain⟨r,hr,rfl,hor,hxr⟩:=hrel;obtain⟨A2,n2,c2,rfl,hn2,ha2,hb2⟩:=hor.o.form2;have hr0:(0:Int)<=(r:Int):=by omega
          by_cases hlr:r<xs.length
          . have hlr1 : (r:Int)<(xs.length:Int):=by omega
            obtain⟨ba,oa,f,vf,rfl,hba,hfk,hfn,hft,hf0,hf1⟩:=jab.at_ HV.o hlr;obtain⟨F,cf,rfl,hcf1,hcf2⟩:=jaa.form hft;have hxo:=hxr;have hxw:=Ext.t hx hxo;have p1:=(hxo.cells.1 bp (op+k*3+1) (Nat.lt_of_lt_of_le hbp hx.size)).trans r1;have p2:=(hxo.cells.1 bp (op+k*3+2) (Nat.lt_of_lt_of_le hbp hx.size)).trans r2;have s0:=(hxo.cells.1 bb (off+q*2) hbb).trans HC0.o;have s1:=(hxo.cells.1 bb (off+q*2+1) hbb).trans HC1.o;have t0:=(hxw.cells.1 ba (oa+r*2) hba).trans hf0;have t1:=(hxw.cells.1 ba (oa+r*2+1) hba).trans hf1;have HMA:=zh (fun (W:World) (hW:Ext wr W)=>jtt p.atom f bd _ _ _ _ W (HPT.o.ext (hxw.t hW)) (hft.ext (hxw.t hW)) (HXS.o.ext (hxo.t hW)) (HYS.o.ext (hxo.t hW)) HOK.o (by have:=HNB.o;have:=HPL.o;omega))
            have HSW:=zh (fun (W:World) (hW:Ext wr W)=>(show W.cell? ⟨bp,op+k*3+1,none⟩=some (.string p.atom.n)/\W.cell? ⟨bp,op+k*3+2,none⟩=some (.slice G p.atom.args.length cg)/\W.cell? ⟨bb,off+q*2,none⟩=some (.slice X bd.ns.length cx)/\W.cell? ⟨bb,off+q*2+1,none⟩=some (.slice Y bd.vs.length cy)/\W.cell? ⟨ba,oa+r*2,none⟩=some (.string f.n)/\W.cell? ⟨ba,oa+r*2+1,none⟩=some (.slice F f.args.length cf) from
             ⟨(hW.cells.1 bp _ (Nat.lt_of_lt_of_le hbp hxw.size)).trans p1,(hW.cells.1 bp _ (Nat.lt_of_lt_of_le hbp hxw.size)).trans p2,(hW.cells.1 bb _ (Nat.lt_of_lt_of_le hbb hxo.size)).trans s0,(hW.cells.1 bb _ (Nat.lt_of_lt_of_le hbb hxo.size)).trans s1,(hW.cells.1 ba _ (Nat.lt_of_lt_of_le hba hxw.size)).trans t0,(hW.cells.1 ba _ (Nat.lt_of_lt_of_le hba hxw.size)).trans t1⟩))
            have HFT:=zh hft;have HFK:=zh hfk;clear hft hfk hf0 hf1;go_wp2_with fail
            go_region_held3 (fun w'=>w'.cell? ⟨bp,op+k*3+1,none⟩=some (.string p.atom.n)/\w'.cell? ⟨bp,op+k*3+2,none⟩=some (.slice G p.atom.args.length cg)/\w'.cell? ⟨bb,off+q*2,none⟩=some (.slice X bd.ns.length cx)/\w'.cell? ⟨bb,off+q*2+1,none⟩=some (.slice Y bd.vs.length cy)/\w'.cell? ⟨ba,oa+r*2,none⟩=some (.string f.n)/\w'.cell? ⟨ba,oa+r*2+1,none⟩=some (.slice F f.args.length cf))
             (first|exact HSW.o _ (Ext.refl wr).drew|exact HSW.o _ ((Ext.refl wr).drew.alloc _)|exact HSW.o _ HX5.o|exact HSW.o _ (HX5.o.alloc _)|exact HSW.o _ ((HX5.o.setNew (Nat.le_refl _) _).setNew (Nat.le_refl _) _))
             ((go_at_call 215;refine (HMA.o _ (by first|exact (Ext.refl wr).drew|exact (Ext.refl wr).drew.alloc _)).mono ?_;rintro e w5 ⟨⟨v5,u5,rfl,hv5,hu5,hok5⟩,hx5⟩
               have HX5:=zh (show Ext wr w5 from (by first|exact (Ext.refl wr).drew.t hx5|exact ((Ext.refl wr).drew.alloc _).t hx5));obtain⟨X5,e5,rfl,hx51,hx52⟩:=jaa.form hv5;obtain⟨Y5,g5,rfl,hy51,hy52⟩:=jaa.form hu5;have HV5:=zh hv5;have HU5:=zh hu5;clear hv5 hu5
               try (have hbx:=(Blk.new wr 204 #[.slice none 0 0,.slice none 0 0]).drew.ext hx5
                    have j0:=hbx.cell 0;have j1:=hbx.cell 1;have j2:=hbx.frozen 0;have j3:=hbx.frozen 1;have hl52:=hbx.lt;simp at j0 j1)))
            all_goals
             first
             | have HBO:=zh (jyn HX5.o (L:=wr.drew.heap.size) rfl HV5.o HU5.o hok5)
             | have HBO:=zh (jyo hbx HX5.o (by simp) (by rw[HN0.o];exact hxo.size) HV5.o HU5.o hok5)
             have u0:=HBO.o.blk.cell 0;have u1:=HBO.o.blk.cell 1;have hul:=HBO.o.blk.lt;cases hm:(jcz p.atom f bd).2
             . have HMT:=zh (show jbs p.atom (xs.take (r+1)) bd=jbs p.atom (xs.take r) bd from by rw[jhs p.atom HFK.o,hm];simp)
               clear hm;go_wp2;go_roundw
               case rel=>exact⟨r+1,by omega,by go_num,zh (by rw[HMT.o];exact hor.o.ext HBO.o.ext),hxr.t HBO.o.ext⟩
               case measure=>simp[intOf];omega
             have HMT:=zh (show jbs p.atom (xs.take (r+1)) bd=jbs p.atom (xs.take r) bd++[(jcz p.atom f bd).1] from by rw[jhs p.atom HFK.o,hm];simp);have hlen:((out.take q).flatMap (jbs p.atom xs)++jbs p.atom (xs.take r) bd).length+1<=1000000000000:=Nat.le_trans (j0v HBK.o HFK.o hm) (by rw[<- HN.o];exact HMO.o);have HNB0:N0<=wr.heap.size:=by rw[HN0.o];exact hxo.size
             clear hm;have HP1:=zh (show ∀ o,OwnK kBind N0 204 (From w.heap.size) (World.alloc _ o) (.slice A2 n2 c2) ((out.take q).flatMap (jbs p.atom xs)++jbs p.atom (xs.take r) bd) from fun o=>(hor.o.ext HBO.o.ext).alloc o);have HP2:=zh (fun (g:Nat) (hg:g=_)=>jar.one (k:=kBind) (x:=(jcz p.atom f bd).1) (S:=fun i=>(w.heap.size<=i/\i<N0)∨wr.heap.size<=i) (Blk.at_new (t:=204) hg) ⟨_,_,rfl,HBO.o.ns.ext ((Ext.refl _).alloc _),HBO.o.vs.ext ((Ext.refl _).alloc _),HBO.o.ok⟩);have HP3:=zh (show ∀ g,(Value.slice A2 n2 c2).ownBlock=some g->¬ ((w.heap.size<=g/\g<N0)∨wr.heap.size<=g) from fun g hg hT=>by have:=hor.o.at_ g hg;rcases hT with h|h<;>omega);have HP4:=zh (show ∀ b,((w.heap.size<=b/\b<N0)∨wr.heap.size<=b)->From w.heap.size b from fun b hb=>hb.elim (fun h=>h.1) (fun h=>Nat.le_trans hxw.size h));have HP5:=zh (Nat.le_trans HNB0 HBO.o.ext.size);go_wp2_with (at_builtin;go_loud (refine jco (k:=kBind) (S:=From w.heap.size) (T:=fun i=>(w.heap.size<=i/\i<N0)∨wr.heap.size<=i) (base:=N0) rfl (.tmp 56) (.tmp 58) 200 (by rfl) i0 _ 48 Tryz.underlying200 hi0 hz0 hz1 hz3 hz2 (by rfl) (HP1.o _) _ 1 1 (by rfl) (HP2.o _ (by simp)) (fun b hb _=>HP4.o b hb) HP3.o (by unfold maxLen;omega) (by omega) (Nat.le_trans HP5.o (by go_size)) ?_;intro v1 w3 hap))
             go_roundw
             case rel=>exact⟨r+1,by omega,by go_num,zh (by rw[HMT.o,<- List.append_assoc];exact hap.own),hap.toExt (hxr.t (HBO.o.ext.alloc _)) (Nat.le_of_eq HN0.o.symm)⟩
             case measure=>simp[intOf];omega
          have HE:=zh (show xs.take r=xs from List.take_of_length_le (by omega));have HQ:=zh (jrj (jbs p.atom xs) HBK.o);go_wp2;go_roundw
          case rel=>exact⟨q+1,by omega,by go_num,zh (by rw[HQ.o];have h:=hor.o;rw[HE.o] at h;exact h),hxr⟩
          case measure=>simp[intOf];omega
       have HE:=zh (show out.take q=out from List.take_of_length_le (by omega));have hol:=hoq.o;rw[HE.o,<- HN.o] at hol;go_wp2;go_roundw
       case rel=>exact⟨k+1,by omega,by go_num,zh (hol.sub hN1 (fun _ h=>h)),hx.t hxq⟩
       case measure=>simp[intOf];omega
    rw[hno] at r0;have HN:=zh (show (ps.take (k+1)).foldl (jbe xs) [⟨[],[]⟩]=(ps.take k).foldl (jbe xs) [⟨[],[]⟩] from by rw[joc _ _ HPK.o];unfold jbe;simp[hno]);clear hno;go_wp2;go_roundw
    case rel=>exact⟨k+1,by omega,by go_num,zh (by rw[HN.o];exact ho.o),hx⟩
    case measure=>simp[intOf];omega
  have HE:=zh (show ps.take k=ps from List.take_of_length_le (by omega));have hol:=ho.o;rw[HE.o] at hol;have HL:=zh (hol.list (S':=From w.heap.size) (fun _ h=>h) (fun _ h=>h));have HMO:=zh (jko xs ps hxl hpl);rw[HE.o] at hn0;obtain rfl:=hn0.o;clear hol;go_wp2_with (go_at_call 216;refine (jpm xs ps _ _ _ _ _ (HV.o.ext hx) (HU.o.ext hx) HL.o (fun p hp=>Nat.le_trans (HPS.o p hp) (by omega)) HMO.o).mono ?_;rintro e w1 ⟨⟨v1,rfl,ho1⟩,hx1⟩)
  go_ret;exact⟨⟨_,rfl,ho1.list (S':=From w.heap.size) (fun _ h=>h.1) (fun g hg=>Nat.le_trans hx.size hg)⟩,hx.t hx1⟩
theorem jrm {l:List GR} {k:Nat} {x:GR} (h:l[k]? = some x):jaq (l.take (k+1))=jaq (l.take k)++([x.head]++x.body.map (·.atom)):=by
 obtain⟨hk,rfl⟩:=List.getElem?_eq_some_iff.1 h;unfold jaq;rw[List.take_succ_eq_append_getElem hk,List.map_append,List.flatten_append];simp[jbd]
theorem jht:∀ {l:List GR},(∀ r∈l,r.body.length<=4)->(jaq l).length<=5*l.length
 | [],_=>Nat.le_refl _
 | r :: l,h=>by
   have h1:=jht (l:=l) (fun x hx=>h x (List.mem_cons_of_mem _ hx));have h2:=h r (by simp);have e:jaq (r :: l)=jbd r++jaq l:=by simp[jaq]
   rw[e,List.length_append];unfold jbd;simp only[List.length_cons,List.length_map];omega
theorem jmd (v:Value) (l:List GR) (w:World) {S:Nat->Prop} (hv:jam S w v l) (hl:l.length<=8) (hb:∀ r∈l,r.body.length<=4) :
  Calls Tryz.prog 203 #[v] w fun e w'=>(∃ v',e=.returned v'/\jab Any w' v' (jaq l))/\Ext w w':=by
 obtain⟨A,c,rfl,hc1,hc2⟩:=jaa.form hv;obtain⟨i0,hi0,hz0,hz1,hz2⟩:=info_parts jd4;have HV:=zh (show jam (fun b=>b<w.heap.size) w (.slice A l.length c) l from ListK.sub (k:=kRule) (ListK.low (k:=kRule) hv) (fun b hb=>hb.2));have HBD:=zh hb;clear hv hb
 go_in;go_wp2;go_loopw [3,4] (fun o i wr=>∃ k:Nat,k<=l.length/\i=.int .i64 k/\J1 (OwnK kAtom w.heap.size 69 (fun b=>b<w.heap.size) wr o (jaq (l.take k)))/\Ext w wr) (fun _ i _=>l.length-(intOf i).toNat)
 case atStart=>exact⟨0,Nat.zero_le _,rfl,OwnK.empty rfl (Nat.le_refl _),(Ext.refl _).alloc _⟩
 case round =>
  obtain⟨k,hk,rfl,ho,hx⟩:=hrel;have hk0:(0:Int)<=(k:Int):=by omega
  have hsz:=hx.size
  have hfew:(jaq (l.take k)).length<=40:=by
   have h:=jht (l:=l.take k) (fun r hr=>HBD.o r (List.mem_of_mem_take hr));rw[List.length_take] at h;omega
  obtain⟨B,n0,d,rfl,hn0,hd1,hd2⟩:=ho.o.form2;by_cases hlt:k<l.length
  . obtain ⟨b,off,x,v1,u1,rfl,hb,hxk,hxs,ht,hu,p0,p1,p2⟩:=jam.at_ HV.o hlt
    obtain⟨C,e,rfl,he1,he2⟩:=jaa.form ht;obtain⟨D,f,rfl,hf1,hf2⟩:=jaa.form hu;have r0:=(hx.cells.1 b (off+k*3) hb).trans p0;have r1:=(hx.cells.1 b (off+k*3+1) hb).trans p1;have r2:=(hx.cells.1 b (off+k*3+2) hb).trans p2;have P2:=zh p2;clear p0 p1 p2;have hb4:=HBD.o x (List.mem_of_getElem? hxk);have HT:=zh ht;have HU:=zh hu;have HST:=zh (jrm hxk);have hk1:(k:Int)<(l.length:Int):=by omega
    clear hxk ht hu
    go_wp2_with (first
     | (at_builtin;refine jco (k:=kAtom) (S:=fun b=>b<w.heap.size) (T:=fun b=>b<w.heap.size) (base:=w.heap.size) (xs:=jaq (l.take k)) (ys:=[x.head]) rfl (.tmp 13) (.tmp 19) 24 (by rfl) i0 _ 40 Tryz.underlying24 hi0 hz0 hz1 hz2 (by rfl) (by rfl) (ho.o.ext ((Ext.refl _).alloc _)) _ 1 1 (by rfl) (jar.one (k:=kAtom) (x:=x.head) (Blk.new wr 69 #[.string x.head.n,.slice C x.head.args.length e]) ⟨_,rfl,hxs,HT.o.ext (hx.alloc _)⟩) (fun b hb _=>hb) (fun g hg hT=>absurd (ho.o.at_ g hg).1 (Nat.not_le.2 hT)) (maxOf (by omega)) (by omega) (by go_size) ?_
        intro v2 w2 hap;obtain⟨B2,n2,d2,rfl,hn2,hd21,hd22⟩:=hap.own.form2;have HO2:=zh hap.own;have HX2:=zh (show Ext w w2 from hap.toExt (hx.alloc _) (Nat.le_refl _));clear hap))
    go_loopw [3,5] (fun o i wr=>∃ j:Nat,j<=x.body.length/\i=.int .i64 j/\J1 (OwnK kAtom w.heap.size 69 (fun b=>b<w.heap.size) wr o ((jaq (l.take k)++[x.head])++(x.body.take j).map (·.atom)))/\Ext w wr) (fun _ i _=>x.body.length-(intOf i).toNat)
    case atStart=>exact⟨0,Nat.zero_le _,rfl,zh (by simpa using HO2.o),HX2.o⟩
    case round =>
     obtain⟨j,hj,rfl,ho,hx⟩:=hrel;have hj0:(0:Int)<=(j:Int):=by omega
     have hsz:=hx.size
     have hlen:((jaq (l.take k)++[x.head])++(x.body.take j).map (·.atom)).length<=45:=by
      simp only[List.length_append,List.length_map,List.length_take,List.length_cons,List.length_nil];omega
     obtain⟨B,n0,d,rfl,hn0,hd1,hd2⟩:=ho.o.form2;have r2':=(hx.cells.1 b (off+k*3+2) hb).trans P2.o;by_cases hjt:j<x.body.length
     . obtain ⟨b',off',y,v3,rfl,hb',hyk,hys,hty,q0,q1,q2⟩:=jao.at_ HU.o hjt
       obtain⟨E,g,rfl,hg1,hg2⟩:=jaa.form hty;have s0:=(hx.cells.1 b' (off'+j*3) hb').trans q0;have s1:=(hx.cells.1 b' (off'+j*3+1) hb').trans q1;have s2:=(hx.cells.1 b' (off'+j*3+2) hb').trans q2;have HTY:=zh hty
       have HST2:=zh (show (x.body.take (j+1)).map (·.atom)=(x.body.take j).map (·.atom)++[y.atom] from by
        obtain⟨hj',rfl⟩:=List.getElem?_eq_some_iff.1 hyk;rw[List.take_succ_eq_append_getElem hj',List.map_append];rfl)
       clear hyk hty q0 q1 q2
       go_wp2_with (first
        | (at_builtin;refine jco (k:=kAtom) (S:=fun b=>b<w.heap.size) (T:=fun b=>b<w.heap.size) (base:=w.heap.size) (xs:=(jaq (l.take k)++[x.head])++(x.body.take j).map (·.atom)) (ys:=[y.atom]) rfl (.tmp 31) (.tmp 41) 24 (by rfl) i0 _ 40 Tryz.underlying24 hi0 hz0 hz1 hz2 (by rfl) (by rfl) (ho.o.ext ((Ext.refl _).alloc _)) _ 1 1 (by rfl) (jar.one (k:=kAtom) (x:=y.atom) (Blk.new _ 69 #[.string y.atom.n,.slice E y.atom.args.length g]) ⟨_,rfl,hys,HTY.o.ext (hx.alloc _)⟩) (fun b hb _=>hb) (fun g hg hT=>absurd (ho.o.at_ g hg).1 (Nat.not_le.2 hT)) (maxOf (by omega)) (by omega) (by go_size) ?_
           intro v4 w4 hap;obtain⟨B4,n4,d4,rfl,hn4,hd41,hd42⟩:=hap.own.form2;have HO4:=zh hap.own;have HX4:=zh (show Ext w w4 from hap.toExt (hx.alloc _) (Nat.le_refl _));clear hap))
       go_roundw
       case rel=>exact⟨j+1,by omega,by go_num,zh (by rw[HST2.o,<- List.append_assoc];exact HO4.o),HX4.o⟩
       case measure=>simp[intOf];omega
     have HE:=zh (show (jaq (l.take k)++[x.head])++(x.body.take j).map (·.atom)=jaq (l.take (k+1)) from by
       rw[HST.o,List.take_of_length_le (show x.body.length<=j by omega),List.append_assoc])
     go_wp2;go_roundw
     case rel=>exact⟨k+1,by omega,by go_num,zh (by rw[<- HE.o];exact ho.o),hx⟩
     case measure=>simp[intOf];omega
  have HP:=zh (show jaq (l.take k)=jaq l from by rw[List.take_of_length_le (by omega)]);go_wp2;go_ret;exact⟨⟨_,rfl,by rw[<- HP.o];exact ho.o.list (fun _ _=>trivial) (fun _ _=>trivial)⟩,hx⟩
theorem jws (v:Value) (l:List GR) (w:World) {S:Nat->Prop} (hv:jam S w v l) (hl:l.length<=8) (hb:∀ r∈l,r.body.length<=4) :
  Calls Tryz.prog 250 #[v] w fun e w'=>e=.returned (.bool (argsB (jaq l)))/\Ext w w':=by
 have hc:=jmd v l w hv hl hb;obtain⟨A,c,rfl,hc1,hc2⟩:=jaa.form hv;have HC:=zh hc;obtain⟨as1,has⟩:=nm (jaq l);have hfew:as1.length<=40:=by have:=jht hb;rw[has];omega
 rw[<- has] at HC ⊢;clear hv hc hb has
 go_in;go_wp2_with (go_at_call 203;refine HC.o.mono ?_;rintro e w1 ⟨⟨v1,rfl,hv1⟩,hx1⟩;obtain⟨B,d,rfl,hd1,hd2⟩:=jaa.form hv1;have HV:=zh hv1;have HX:=zh hx1;clear hv1 hx1)
 go_loopw [4,5] (fun i _ wr=>∃ k:Nat,k<=as1.length/\i=.int .i64 k/\J1 (∀ (i j:Nat) (a b:GA),i<k->as1[i]? = some a->as1[j]? = some b->j<i->a.n=b.n->a.args.length=b.args.length)/\Ext w1 wr) (fun i _ _=>as1.length-(intOf i).toNat)
 case atStart=>exact⟨0,Nat.zero_le _,rfl,zh (fun i j a b h=>absurd h (Nat.not_lt_zero _)),Ext.refl _⟩
 case round =>
  obtain⟨k,hk,rfl,hp,hx⟩:=hrel;have hk0:(0:Int)<=(k:Int):=by omega
  by_cases hlt:k<as1.length
  . obtain ⟨b,off,x,u,rfl,hb,hxk,hxs,ht,p0,p1⟩:=jab.at_ HV.o hlt
    obtain⟨C,e,rfl,he1,he2⟩:=jaa.form ht;have HXK:=zh hxk;have hk1:(k:Int)<(as1.length:Int):=by omega
    have P0:=zh p0;have P1:=zh p1;clear hxk ht p0 p1;go_wp2;try simp only[show decide ((k:Int)<(as1.length:Int))=true from decide_eq_true hk1]
    go_loopw [5] (fun j wr=>∃ q:Nat,q<=k/\j=.int .i64 q/\J1 (∀ (j:Nat) (b:GA),j<q->as1[j]? = some b->x.n=b.n->x.args.length=b.args.length)/\Ext w1 wr) (fun j _=>k-(intOf j).toNat)
    case atStart=>exact⟨0,Nat.zero_le _,rfl,zh (fun j b h=>absurd h (Nat.not_lt_zero _)),hx⟩
    case round =>
     obtain⟨q,hq,rfl,hpq,hx⟩:=hrel;have hq0:(0:Int)<=(q:Int):=by omega
     by_cases hqt:q<k
     . obtain ⟨b',off',y,u',hA',hb',hyk,hys,hty,q0,q1⟩:=jab.at_ HV.o (k:=q) (show q<as1.length by omega)
       injection hA' with hA'
       injection hA' with e1 e2
       subst e1;subst e2;obtain⟨E,g,rfl,hg1,hg2⟩:=jaa.form hty;have hq1:(q:Int)<(as1.length:Int):=by omega
       have r0:=(hx.cells.1 b (off+k*2) hb).trans P0.o;have r1:=(hx.cells.1 b (off+k*2+1) hb).trans P1.o;have s0:=(hx.cells.1 b (off+q*2) hb').trans q0;have s1:=(hx.cells.1 b (off+q*2+1) hb').trans q1;have HYK:=zh hyk;clear hyk hty q0 q1
       have hsame:∀ (hg:x.n=y.n->x.args.length=y.args.length),∀ (j:Nat) (b:GA),j<q+1->as1[j]? = some b->x.n=b.n->x.args.length=b.args.length:=fun hg j b hj hb e=>by
        rcases Nat.lt_or_ge j q with h|h
        . exact hpq.o j b h hb e
        rw[show j=q from by omega,HYK.o] at hb;injection hb with hb;subst hb;exact hg e
       by_cases hn:x.n=y.n
       . have hn1:(x.n.toList == y.n.toList)=true:=by rw[hn];exact beq_self_eq_true _
         by_cases hlen:x.args.length=y.args.length
         . have hl1:((x.args.length:Int) == (y.args.length:Int))=true:=by rw[hlen];exact beq_self_eq_true _
           have HS:=zh (hsame (fun _=>hlen));clear hsame hn hlen;go_wp2_with fail
           go_quiet (fail)
           go_wp2;go_roundw
           case rel=>exact⟨q+1,by omega,by go_num,HS,hx.drewN _⟩
           case measure=>simp[intOf];omega
         have hl1:((x.args.length:Int) == (y.args.length:Int))=false:=by rw[beq_eq_false_iff_ne];omega
         have HF:=zh (show argsB as1=false from by
          cases h:argsB as1
          . rfl
          exact absurd ((jlz as1).1 h k q x y HXK.o HYK.o hqt hn) hlen)
         clear hsame hn hlen;go_wp2_with fail
         go_quiet (fail)
         go_wp2;go_ret;exact⟨by rw[HF.o];rfl,HX.o.t (hx.drewN _)⟩
       have hn1:(x.n.toList == y.n.toList)=false:=jdh hn;have HS:=zh (hsame (fun h=>absurd h hn));clear hsame hn;go_wp2_with fail
       go_quiet (fail)
       go_wp2;go_roundw
       case rel=>exact⟨q+1,by omega,by go_num,HS,hx.drewN _⟩
       case measure=>simp[intOf];omega
     have HS:=zh (show ∀ (i j:Nat) (a b:GA),i<k+1->as1[i]? = some a->as1[j]? = some b->j<i->a.n=b.n->a.args.length=b.args.length from fun i j a b hi ha hb hji e=>by
       rcases Nat.lt_or_ge i k with h|h
       . exact hp.o i j a b h ha hb hji e
       have hik:i=k:=by omega
       subst hik;rw[HXK.o] at ha;injection ha with ha;subst ha
       exact hpq.o j b (by omega) hb e)
     go_wp2;go_roundw
     case rel=>exact⟨k+1,by omega,by go_num,HS,hx⟩
     case measure=>simp[intOf];omega
  have HF:=zh (show argsB as1=true from (jlz as1).2 (fun i j a b ha hb hji e=>hp.o i j a b (by have:=(List.getElem?_eq_some_iff.1 ha).1;omega) ha hb hji e));go_wp2;go_ret;exact⟨by rw[HF.o];rfl,HX.o.t hx⟩
end Go.Proofs.YthiflhkcpanaaaaGreatDoor
