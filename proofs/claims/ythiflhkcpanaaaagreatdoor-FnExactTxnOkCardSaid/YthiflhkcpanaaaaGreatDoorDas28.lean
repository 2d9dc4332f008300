/- Own texts, joined. -/
import Derived.Test.YthiflhkcpanaaaaGreatDoorDas27
import Derived.Lib.RowBridge
set_option linter.unusedSimpArgs false
set_option linter.unusedVariables false
set_option maxHeartbeats 4000000
set_option maxRecDepth 100000
namespace Go.Proofs.YthiflhkcpanaaaaGreatDoor
open Go.RowKit
theorem jqf {ts:List GT} {k:Nat} {t:GT} (h:ts[k]? = some t):jb6 (ts.take (k+1))=jb6 (ts.take k)++(if t.v=true then [t.n] else []):=by
 unfold jb6;rw[List.take_add_one,h,List.filter_append,List.map_append];cases hv:t.v<;>simp[hv]
theorem jqg {ps:List GP} {k:Nat} {p:GP} (h:ps[k]? = some p):ja4 (ps.take (k+1))=ja4 (ps.take k)++jb6 p.atom.args:=by
 unfold ja4;rw[List.take_add_one,h,List.flatMap_append];simp
theorem jiy (ts:List GT):(jb6 ts).length<=ts.length:=by
 unfold jb6;rw[List.length_map];exact List.length_filter_le _ _
theorem jf0:∀ (ps:List GP),(∀ p∈ps,p.atom.args.length<=1000)->(ja4 ps).length<=1000*ps.length
 | [],_=>by simp[ja4]
 | p :: ps,h=>by
   have h1:=jf0 ps (fun q hq=>h q (List.mem_cons_of_mem _ hq));have h2:=jiy p.atom.args;have h3:=h p List.mem_cons_self;have e:ja4 (p :: ps)=jb6 p.atom.args++ja4 ps:=by simp[ja4]
   rw[e,List.length_append,List.length_cons];omega
theorem OwnK.row {base:Nat} {e:TypeId} {S:Nat->Prop} {w:World} {v:Value} {xs:List ByteArray} (h:OwnK kStr base e S w v xs) (hne:xs≠ []) :
  ∃ g cap,v=.slice (some ⟨g,0,none⟩) xs.length cap/\base<=g/\g<w.heap.size/\xs.length<=cap/\cap<=maxLen/\Sort.Holds encStr w g 0 (xs.map fun s=>s.data.toList).toArray:=by
 have hl:StrsR Any w v xs:=h.list (S':=Any) (fun _ _=>trivial) (fun _ _=>trivial);obtain⟨rows,T,h1,h2,_⟩:=h;rcases h1.2 with ⟨rfl,h0⟩|⟨g,cap,cur,rfl,hb,hg,hc1,hc2,hsz,htk⟩
 . exact absurd (List.length_eq_zero_iff.1 h0) hne
 have hlt:g<w.heap.size:=(Array.getElem?_eq_some_iff.1 hg).1;refine⟨g,cap,rfl,hb,hlt,hc1,hc2,fun j hj=>⟨?_,by simp[World.frozen?,hg]⟩⟩;have hj':j<xs.length:=by simpa using hj
 obtain⟨b,off,x,hA,_,hx,_,hc⟩:=StrsR.at_ hl hj';cases hA
 obtain⟨hj2,rfl⟩:=List.getElem?_eq_some_iff.1 hx;rw[hc];simp[getElem!_pos,hj']
theorem jqh {B g cap:Nat} {w:World} {cs more:List (List UInt8)} (hH:Sort.Holds encStr w g 0 (cs++more).toArray) (hg:B<=g/\g<w.heap.size) (hc:cs.length<=cap/\cap<=maxLen) (hs:∀ x∈cs.map strOf,x.size<=maxLen) :
  StrsR (From B) w (.slice (some ⟨g,0,none⟩) cs.length cap) (cs.map strOf):=by
 refine⟨some ⟨g,0,none⟩,cap,by rw[List.length_map],by rw[List.length_map];exact hc.1,hc.2,fun _=>⟨g,0,rfl,hg.2,hg.1,fun i x hx=>⟨[.string x],rfl,fun j u hu=>?_,rfl,hs x (List.mem_of_getElem? hx)⟩⟩⟩
 have hj:j=0:=by
  cases j with
  | zero=>rfl
  | succ j=>simp at hu
 subst hj;simp only[List.getElem?_cons_zero,Option.some.injEq] at hu;subst hu;obtain⟨hi,rfl⟩:=List.getElem?_eq_some_iff.1 hx;have hi':i<cs.length:=by simpa using hi
 have h1:=(hH i (by simp;omega)).1;have e:(cs++more).toArray[i]! = cs[i]:=by simp[getElem!_pos,List.getElem_append_left hi',show i<cs.length+more.length by omega]
 rw[e] at h1;rw[show 0+(i*1+0)=0+i by omega,h1,List.getElem_map]
 rfl
theorem joz {w wr:World} (hx:Ext w wr) {g n:Nat} (hg:w.heap.size<=g) (d:Array (List UInt8)) (os:Array Obj):Ext w (Sort.grow (Sort.putRow encStr (Sort.ahead wr n) g 0 d) os):=by
 refine⟨hx.os,hx.tape,hx.output,?_,fun k hk=>?_⟩
 . have:=hx.size
   rw[Sort.size_grow,Sort.size_putRow];show _<=wr.heap.size+_;omega
 have h1:=hx.size;rw[Sort.heap_grow_old _ _ (by rw[Sort.size_putRow];show k<wr.heap.size;omega),<- hx.block k hk];show ((Sort.ahead wr n).heap.modify g _)[k]? = _;rw[Array.getElem?_modify,if_neg (by omega)]
 rfl
theorem jsx (ps:List GP) (u:Value) (w:World) {S:Nat->Prop} (hu:jao S w u ps) (hps:∀ p∈ps,p.atom.args.length<=1000) (hpl:ps.length<=4) :
  Calls Tryz.prog 258 #[u] w fun e w'=>(∃ v',e=.returned v'/\StrsR (From w.heap.size) w' v' (varsN ps))/\Ext w w':=by
 obtain⟨B,d,rfl,hd1,hd2⟩:=jaa.form hu;obtain⟨i0,hi0⟩:∃ i,Tryz.prog.info? 9=some i:=⟨_,by rfl⟩
 have hz0:i0.zero=some (.string ⟨#[]⟩):=by have:=hi0;revert this;intro h;cases h;rfl
 have hz1:i0.size=1:=by have:=hi0;revert this;intro h;cases h;rfl
 have hz2:i0.bytes=16:=by have:=hi0;revert this;intro h;cases h;rfl
 have HU:=zh hu;have HPS:=zh hps;clear hu hps
 go_in;go_wp2;go_loopw [3,10] (fun o i wr=>∃ k:Nat,k<=ps.length/\i=.int .i64 k/\J1 (OwnK kStr w.heap.size 9 None wr o (ja4 (ps.take k)))/\Ext w wr) (fun _ i _=>ps.length-(intOf i).toNat)
 case atStart=>exact⟨0,Nat.zero_le _,rfl,zh OwnK.nil,Ext.refl _⟩
 case round =>
  obtain⟨k,hk,rfl,ho,hx⟩:=hrel;have hk0:(0:Int)<=(k:Int):=by omega
  by_cases hlt:k<ps.length
  . have hk1:(k:Int)<(ps.length:Int):=by omega
    obtain⟨bp,op,p,vp,rfl,hbp,hpk,hpn,hpt,hp0,hp1,hp2⟩:=jao.at_ HU.o hlt;obtain⟨G,cg,rfl,hcg1,hcg2⟩:=jaa.form hpt;have r0:=(hx.cells.1 bp (op+k*3) hbp).trans hp0;have r1:=(hx.cells.1 bp (op+k*3+1) hbp).trans hp1;have r2:=(hx.cells.1 bp (op+k*3+2) hbp).trans hp2;have HST:=zh (jqg hpk);have HPT:=zh hpt;have HAR:=zh (HPS.o p (List.mem_of_getElem? hpk))
    have HFL:=zh (show (ja4 (ps.take k)).length<=4000 from by
     have h1:=jf0 (ps.take k) (fun q hq=>HPS.o q (List.mem_of_mem_take hq));rw[List.length_take] at h1;omega)
    clear hp0 hp1 hp2 hpk hpt;go_wp2
    rename World=>w0
    go_loopw [3,18] (fun o i wz=>∃ r:Nat,r<=p.atom.args.length/\i=.int .i64 r/\J1 (OwnK kStr w.heap.size 9 None wz o (ja4 (ps.take k)++jb6 (p.atom.args.take r)))/\Ext w wz) (fun _ i _=>p.atom.args.length-(intOf i).toNat)
    case atStart=>exact⟨0,Nat.zero_le _,rfl,zh (by rw[show jb6 (p.atom.args.take 0)=[] from rfl,List.append_nil];exact ho.o.alloc _),hx.alloc _⟩
    case round =>
     obtain⟨r,hr,rfl,hor,hxr⟩:=hrel;have hr0:(0:Int)<=(r:Int):=by omega
     by_cases hlr:r<p.atom.args.length
     . have hr1:(r:Int)<(p.atom.args.length:Int):=by omega
       obtain⟨bt,ot,t,rfl,hbt,htk,htn,ht0,ht1⟩:=jad.at_ (HPT.o.ext hxr) hlr;have HTV:=zh (jqf htk)
       have HLR:=zh (show (ja4 (ps.take k)++jb6 (p.atom.args.take r)).length<=5000 from by
        have h1:=jiy (p.atom.args.take r);have h2:=HFL.o;have h3:=HAR.o;rw[List.length_take] at h1;rw[List.length_append];omega)
       clear htk;rcases Bool.eq_false_or_eq_true t.v with hv|hv
       . rw [hv] at ht0
         have HT:=zh (show ja4 (ps.take k)++jb6 (p.atom.args.take (r+1))=(ja4 (ps.take k)++jb6 (p.atom.args.take r))++[t.n] from by rw[HTV.o,if_pos hv,List.append_assoc]);have HOW:=zh (show ∀ o1 o2,OwnK kStr w.heap.size 9 None ((wr.alloc o1).alloc o2) _ (ja4 (ps.take k)++jb6 (p.atom.args.take r)) from fun o1 o2=>(hor.o.alloc o1).alloc o2);have hw0:w.heap.size<=wr.heap.size:=hxr.size;clear hv HTV;go_wp2_with (at_builtin;go_loud (refine jeh (k:=kStr) (S:=None) (T:=None) (base:=w.heap.size) (xs:=ja4 (ps.take k)++jb6 (p.atom.args.take r)) (ys:=[t.n]) rfl (.tmp 24) (.tmp 27) 140 (by rfl) i0 _ 16 Tryz.underlying140 hi0 hz0 hz1 hz2 (by rfl) (by rfl) (HOW.o _ _) _ 1 1 (by rfl) (jar.one (k:=kStr) (x:=t.n) (l:=[.string t.n]) (Blk.at_new (by simp)) ⟨rfl,htn⟩) (fun _ h=>h.elim) (maxOf (by have:=HLR.o;simp only[List.length_append,List.length_cons,List.length_nil] at this ⊢;omega)) (by have:=HLR.o;omega) (by go_size) ?_;intro v6 w6 hap))
         go_roundw
         case rel=>exact⟨r+1,by omega,by go_num,zh (by rw[HT.o];exact hap.own),hap.toExt ((hxr.alloc _).alloc _) (Nat.le_refl _)⟩
         case measure=>simp[intOf];omega
       rw[hv] at ht0;have HT:=zh (show ja4 (ps.take k)++jb6 (p.atom.args.take (r+1))=ja4 (ps.take k)++jb6 (p.atom.args.take r) from by rw[HTV.o,hv];simp);clear hv HTV;go_wp2;go_roundw
       case rel=>exact⟨r+1,by omega,by go_num,zh (by rw[HT.o];exact hor.o.alloc _),hxr.alloc _⟩
       case measure=>simp[intOf];omega
     have HE:=zh (show ja4 (ps.take (k+1))=ja4 (ps.take k)++jb6 (p.atom.args.take r) from by rw[HST.o,List.take_of_length_le (l:=p.atom.args) (i:=r) (by omega)]);go_wp2;go_roundw
     case rel=>exact⟨k+1,by omega,by go_num,zh (by rw[HE.o];exact hor.o),hxr⟩
     case measure=>simp[intOf];omega
  have HE:=zh (show ps.take k=ps from List.take_of_length_le (by omega));have h1:=ho.o;rw[HE.o] at h1;have hsm:∀ x∈varsN ps,x.size<=maxLen:=fun x hx'=>joa (h1.list (S':=Any) (fun _ _=>trivial) (fun _ _=>trivial)) x (jgv.2 hx')
  have hlen:(ja4 ps).length<=4000:=by
   have:=jf0 ps HPS.o;omega
  by_cases hne:ja4 ps=[]
  . have hv:varsN ps=[]:=by
      apply List.eq_nil_iff_forall_not_mem.2
      intro x hx';have:=jgv.2 hx';rw[hne] at this;cases this
    rw[hne] at h1;obtain⟨A,c,rfl,hc1,hc2⟩:=h1.form;have HV:=zh hv;clear h1 hne hv hsm;go_wp2_with (first|(go_at_call 290;refine (Tryz.slices_Sort_string_none _ _ _).mono ?_;rintro e w1 ⟨rfl,e1⟩;obtain rfl:wr=w1:=e1.symm)|(go_at_call 291;refine (Tryz.slices_Compact_string_empty _ _ _).mono ?_;rintro e w2 ⟨rfl,e2⟩;obtain rfl:wr=w2:=e2.symm)|fail)
    go_ret;exact⟨⟨_,rfl,by rw[HV.o];exact⟨A,c,rfl,Nat.zero_le _,hc2,fun h=>absurd h (Nat.lt_irrefl 0)⟩⟩,hx⟩
  obtain⟨g,cap,rfl,hg1,hg2,hc1,hc2,hH⟩:=OwnK.row h1 hne;obtain⟨zs,hzs⟩:=nm ((ja4 ps).map fun s=>s.data.toList);have hzl:zs.length=(ja4 ps).length:=by rw[hzs,List.length_map]
  have hsl:(sortW zs).length=zs.length:=List.length_mergeSort zs;rw[<- hzs] at hH;have HSO:=zh (Tryz.slices_Sort_string g 0 cap zs wr hH hg2 (by omega))
  have HW1:=zh (fun (q:Nat) (os:Array Obj)=>show Sort.Holds encStr (Sort.grow (Sort.putRow encStr (Sort.ahead wr q) g 0 (sortW zs).toArray) os) g 0 (sortW zs).toArray from
   Sort.holds_grow _ _ _ _ _ _ (by rw[Sort.size_putRow];exact hg2) (Sort.holds_putRow _ _ _ _ zs.toArray _ (Sort.holds_ahead _ _ _ _ _ _ hH) (by simp[hsl])))
  have HCO:=zh (fun (W:World) (hW:Sort.Holds encStr W g 0 (sortW zs).toArray)=>Tryz.slices_Compact_string g 0 cap (sortW zs) W hW (by omega) (by omega));have HX1:=zh (fun (q:Nat) (os:Array Obj)=>joz (n:=q) hx hg1 (sortW zs).toArray os);rw[hsl,hzl] at HCO;rw[hzl] at HSO;have HCV:=zh (show (Lib.compact (sortW zs)).map strOf=varsN ps from by rw[hzs];exact jsw ps);have HCL:=zh (Lib.compact_length_le (sortW zs));have HZ:=zh (show (sortW zs).length<=cap/\(sortW zs).length=(ja4 ps).length from⟨by omega,by omega⟩);have HSM:=zh hsm;have HG:=zh hg2;clear h1 hne hsm hH hzs hzl hsl;go_wp2_with (first|(go_at_call 290;refine HSO.o.mono ?_;rintro e w1 ⟨rfl,q1,os1,e1⟩;have HE1:=zh e1;clear e1;have HH1:=zh (HE1.o▸HW1.o q1 os1))|(go_at_call 291;refine (HCO.o _ HH1.o).mono ?_;rintro e w2 ⟨rfl,q2,e2⟩;have HE2:=zh e2;clear e2)|fail)
  go_ret;have hx1:Ext w w1:=by rw[HE1.o];exact HX1.o q1 os1
  have hx2:Ext w w2:=by
   have:=joz (n:=q2) hx1 hg1 (Lib.compact (sortW zs)++List.replicate ((ja4 ps).length-(Lib.compact (sortW zs)).length) []).toArray #[];rw[Sort.grow_empty] at this;rw[HE2.o];exact this
  have hgw:g<w2.heap.size:=by
   rw[HE2.o,Sort.size_putRow];show g<w1.heap.size;rw[HE1.o,Sort.size_grow,Sort.size_putRow];have:=HG.o;show g<wr.heap.size+_;omega
  have hh2:Sort.Holds encStr w2 g 0 (Lib.compact (sortW zs)++List.replicate ((ja4 ps).length-(Lib.compact (sortW zs)).length) []).toArray:=by
   rw[HE2.o];refine Sort.holds_putRow _ _ _ _ (sortW zs).toArray _ (Sort.holds_ahead _ _ _ _ _ _ HH1.o) ?_;have h1:=HCL.o;have h2:=HZ.o.2;simp;omega
  refine⟨⟨_,rfl,?_⟩,hx2⟩;rw[<- HCV.o];exact jqh hh2 ⟨hg1,hgw⟩ ⟨Nat.le_trans HCL.o HZ.o.1,hc2⟩ (by rw[HCV.o];exact HSM.o)
theorem jz8 {vs:List ByteArray} {ts:List GT} {k:Nat} {t:GT} (h:ts[k]? = some t):(ts.take (k+1)).map (ja1 vs)=(ts.take k).map (ja1 vs)++[ja1 vs t]:=by
 rw[List.take_add_one,h,List.map_append];rfl
structure jkz (w0:World) (bx base:Nat) (n:ByteArray) (v:Value) (xs:List GS) (w:World):Prop where
 blk:Blk w bx 297 #[.string n,v]
 own:OwnK kSlot base 332 None w v xs
 ext:Ext w0 w
 lo:w0.heap.size<=bx/\bx<base/\base<=w.heap.size
theorem jkz.next {w0 w:World} {bx base:Nat} {n:ByteArray} {v:Value} {xs:List GS} (h:jkz w0 bx base n v xs w) {w':World} (hx:Ext w w'):jkz w0 bx base n v xs w' :=
 ⟨h.blk.ext hx,h.own.ext hx,h.ext.t hx,h.lo.1,h.lo.2.1,Nat.le_trans h.lo.2.2 hx.size⟩
theorem jkz.app {w0 w w':World} {bx base:Nat} {n:ByteArray} {v v':Value} {xs ys:List GS} (h:jkz w0 bx base n v xs w) (ha:Apped kSlot base 332 None w v ys v' w'):jkz w0 bx base n v' ys (w'.setCell ⟨bx,1,none⟩ v'):=by
 have hb:=ha.blk h.blk h.lo.2.1;refine⟨?_,ha.own.set (p:=⟨bx,1,none⟩) h.lo.2.1 (fun h=>h) v',?_,h.lo.1,h.lo.2.1,?_⟩
 . have:=hb.set_ 1 v'
   simpa using this
 . exact ((jac.set (S:=fun b=>b=bx) w' ⟨bx,1,none⟩ v' rfl)).toExt (ha.toExt h.ext (Nat.le_trans h.lo.1 (Nat.le_of_lt h.lo.2.1))) (fun i hi=>by subst hi;exact h.lo.1)
 have:w'.heap.size<=(w'.setCell ⟨bx,1,none⟩ v').heap.size:=by simp[World.setCell]
 exact Nat.le_trans h.lo.2.2 (Nat.le_trans ha.below.size this)
theorem jm4 (a:GA) (vs:List ByteArray) (u0 u1 qv av:Value) (w:World) {V P:Nat->Prop} (hq:StrsR V w qv vs) (ht:jad P w av a.args) (ha:AscS vs) (hv:∀ t∈a.args,t.v=true->t.n∈vs) (hl:a.args.length<=1000) (hvl:vs.length<=4294967296) :
  Calls Tryz.prog 259 #[.agg #[u0,u1,qv],.agg #[.string a.n,av]] w fun e w'=>(∃ v,e=.returned (.agg #[.string a.n,v])/\ja9 (From w.heap.size) w' v (patOf vs a).slots)/\Ext w w':=by
 obtain⟨A,c,rfl,hc1,hc2⟩:=jaa.form ht;obtain⟨QA,qc,rfl,hqc1,hqc2⟩:=jaa.form hq;have HQ:=zh hq;have HT:=zh ht;have HA:=zh ha;have HV:=zh hv;clear hq ht ha hv
 go_in;go_wp2_with fail
 have HB0:=zh (show jkz w (w.heap.size+1+1+1) (w.heap.size+1+1+1+1) a.n (.slice none 0 0) [] ((((w.alloc (.cells #[u0,u1,.slice QA vs.length qc] 246)).alloc (.cells #[.string a.n,.slice A a.args.length c] 69)).alloc (.cells #[.string ⟨#[]⟩,.slice none 0 0] 297)).alloc (.cells #[.string a.n,.slice none 0 0] 297)) from
  ⟨Blk.at_new (by simp),OwnK.nil,((((Ext.refl w).alloc _).alloc _).alloc _).alloc _,by omega,by omega,by simp⟩)
 have HB1:=zh (show Blk ((((w.alloc (.cells #[u0,u1,.slice QA vs.length qc] 246)).alloc (.cells #[.string a.n,.slice A a.args.length c] 69)).alloc (.cells #[.string ⟨#[]⟩,.slice none 0 0] 297)).alloc (.cells #[.string a.n,.slice none 0 0] 297)) w.heap.size 246 #[u0,u1,.slice QA vs.length qc] from (((Blk.new _ _ _).alloc _).alloc _).alloc _);have HB2:=zh (show Blk ((((w.alloc (.cells #[u0,u1,.slice QA vs.length qc] 246)).alloc (.cells #[.string a.n,.slice A a.args.length c] 69)).alloc (.cells #[.string ⟨#[]⟩,.slice none 0 0] 297)).alloc (.cells #[.string a.n,.slice none 0 0] 297)) (w.heap.size+1+1) 297 #[.string ⟨#[]⟩,.slice none 0 0] from (Blk.at_new (by simp)).alloc _);obtain⟨i0,hi0⟩:∃ i,Tryz.prog.info? 332=some i:=⟨_,by rfl⟩
 have hz0:i0.zero=some (.agg #[.int .i64 0,.string ⟨#[]⟩]):=by have:=hi0;revert this;intro h;cases h;rfl
 have hz1:i0.size=2:=by have:=hi0;revert this;intro h;cases h;rfl
 have hz2:i0.bytes=24:=by have:=hi0;revert this;intro h;cases h;rfl
 go_loopw [18] (fun i wr=>∃ (k:Nat) (v:Value),k<=a.args.length/\i=.int .i64 k/\J1 (jkz w (w.heap.size+1+1+1) (w.heap.size+1+1+1+1) a.n v ((a.args.take k).map (ja1 vs)) wr/\Blk wr w.heap.size 246 #[u0,u1,.slice QA vs.length qc]/\Blk wr (w.heap.size+1+1) 297 #[.string ⟨#[]⟩,.slice none 0 0])) (fun i _=>a.args.length-(intOf i).toNat)
 case atStart=>exact⟨0,_,Nat.zero_le _,rfl,zh ⟨HB0.o,HB1.o,HB2.o⟩⟩
 case round =>
  obtain⟨k,v,hk,rfl,hrl⟩:=hrel;obtain⟨hpb,hqb,hrb⟩:=hrl.o;obtain⟨VA,vn,vc,rfl,hvn,hv1,hv2⟩:=hpb.own.form2;have hk0:(0:Int)<=(k:Int):=by omega
  by_cases hlt:k<a.args.length
  . have hk1 : (k:Int)<(a.args.length:Int):=by omega
    obtain⟨bt,ot,t,rfl,hbt,htk,htn,ht0,ht1⟩:=jad.at_ (HT.o.ext hpb.ext) hlt;have HST:=zh (jz8 (vs:=vs) htk);have HPB:=zh hpb;have HQB:=zh hqb;have HRB:=zh hrb;have hmem:=List.mem_of_getElem? htk;have HLN:=zh (show ((a.args.take k).map (ja1 vs)).length=k from by rw[List.length_map,List.length_take];omega);clear htk hpb hqb hrb hrl;rcases Bool.eq_false_or_eq_true t.v with hv|hv
    . rw [hv] at ht0
      obtain⟨i,hi⟩:=List.getElem?_of_mem (HV.o t hmem hv);have HSL:=zh (show ja1 vs t=⟨some i,jcr⟩ from by unfold ja1;rw[if_pos hv,jmb HA.o.nodup hi];rfl);have HBS:=zh (fun (W:World) (hW:Ext w W)=>jqc vs _ t.n i W (HQ.o.ext hW) HA.o hi hvl);clear hmem hv hi;go_wp2_with (first|(go_at_call 255;refine (jev t.n _).2.mono ?_;rintro e w1 ⟨rfl,hx1⟩)|fail)
      have HX1:=zh (show Ext wr w1 from ((Ext.refl wr).alloc _).t hx1);have HP1:=zh (HPB.o.next HX1.o);have q2:=(HQB.o.ext HX1.o).cell 2;have ql:=(HQB.o.ext HX1.o).lt;have HBS1:=zh (fun (W:World) (hW:Ext w1 W)=>HBS.o W (HP1.o.ext.t hW));refine jaw (by kernel_rfl) (by kernel_rfl) ?_;repeat (go_big_quiet_step ((first|(go_at_call 257;exact jqo (jc7 _ _))|(go_at_call 292;exact jqo (HBS1.o _ (Later.ext _))))))
      refine wpQuiet_nil ?_;rintro w3 ⟨⟨_,hx3⟩,rfl⟩;have HP3:=zh (HP1.o.next hx3);have HQ3:=zh (HQB.o.ext (HX1.o.t hx3));have HR3:=zh (HRB.o.ext (HX1.o.t hx3));have c1:=HP3.o.blk.cell 1;have cl:=HP3.o.blk.lt;have hbw:=HP3.o.lo.2.2;clear q2 ql;go_wp2_with (at_builtin;go_loud (refine jeh (k:=kSlot) (S:=None) (T:=None) (base:=w.heap.size+1+1+1+1) (xs:=(a.args.take k).map (ja1 vs)) (ys:=[ja1 vs t]) rfl (.tmp 36) (.tmp 39) 295 (by rfl) i0 _ 24 Tryz.underlying295 hi0 hz0 hz1 hz2 (by rfl) (by rfl) (HP3.o.own.alloc _) _ 1 1 (by rfl) (jar.one (k:=kSlot) (x:=ja1 vs t) (l:=[.int .i64 (i:Int),.string ⟨#[]⟩]) (Blk.at_new (by simp)) (by rw[HSL.o];exact⟨rfl,Nat.zero_le _⟩)) (fun _ h=>h.elim) (maxOf (by rw[HLN.o];simp;omega)) (by rw[HLN.o];omega) (by go_size) ?_;intro v6 w6 hap;have HAP:=zh hap;obtain⟨A6,c6,rfl,_,_⟩:=hap.own.form;have e1:=(hap.blk (HP3.o.blk.alloc _) (by omega)).cell 1;have e2:=(hap.blk (HP3.o.blk.alloc _) (by omega)).frozen 1;have e3:=(hap.blk (HP3.o.blk.alloc _) (by omega)).lt;clear hap))
      have h6:=HAP.o;have hlen:((a.args.take k).map (ja1 vs)++[ja1 vs t]).length=k+1:=by rw[List.length_append,HLN.o];rfl
      rw[hlen] at h6;have H6:=zh h6;clear h6 hlen HAP;go_roundw
      case rel =>
       refine⟨k+1,.slice A6 (k+1) c6,by omega,by go_num,zh ⟨?_,?_,?_⟩⟩
       . rw[HST.o];exact (HP3.o.next ((Ext.refl _).alloc _)).app H6.o
       . exact (H6.o.blk (HQ3.o.alloc _) (by omega)).far (by show w.heap.size≠w.heap.size+1+1+1;omega) _
       exact (H6.o.blk (HR3.o.alloc _) (by omega)).far (by show w.heap.size+1+1≠w.heap.size+1+1+1;omega) _
      case measure=>simp[intOf];omega
    rw[hv] at ht0;have HSL:=zh (show ja1 vs t=⟨none,t.n⟩ from by unfold ja1;rw[hv];rfl);clear hmem hv;go_wp2_with (first|(go_at_call 255;refine (jev t.n _).1.mono ?_;rintro e w1 ⟨rfl,hx1⟩)|fail)
    have HX1:=zh (show Ext wr w1 from ((Ext.refl wr).alloc _).t hx1);have HP1:=zh (HPB.o.next HX1.o);have HQ1:=zh (HQB.o.ext HX1.o);have HR1:=zh (HRB.o.ext HX1.o);have c1:=HP1.o.blk.cell 1;have cl:=HP1.o.blk.lt;have hbw:=HP1.o.lo.2.2;refine wp_region_noPanic ?_;refine wp_region_held_drew (S:=(fun w'=>True/\True)) (by kernel_rfl) ?_ (fun hHeld=>?_)
    . (try dsimp only);(first|exact⟨trivial,trivial⟩)
    refine tq 0 rfl ?_;(try simp only[Act.put,stz])
    refine tq 2 rfl ?_;(try simp only[Act.put,stz])
    refine wpAnyH_ready (rs:=[1,3]) (by kernel_rfl) (by simp) ?_;refine AllReadyH.cons (o:=_) rfl (fun K hK=>?_) ?_
    . go_simp
      refine hK.out _ _ ?_ (fun hNew=>?_)
      . (try dsimp only);(first|exact⟨trivial,trivial⟩)
      clear hK K hHeld;have hHeld:=hNew;clear hNew;try simp only[Act.put,stz]
      refine rd1 3 rfl (fun K hK=>?_)
      . go_simp
        go_at_call 285;refine (jgi t.n _).mono ?_;rintro e w4 ⟨rfl,rfl⟩
        refine hK.out _ _ ?_ (fun hNew=>?_)
        . (try dsimp only);(first|exact⟨trivial,trivial⟩)
        clear hK K hHeld;have hHeld:=hNew;clear hNew;try simp only[Act.put,stz]
        refine tq 4 rfl ?_;(try simp only[Act.put,stz])
        refine rd1 5 rfl (fun K hK=>?_)
        . go_simp
          refine hK.out _ _ ?_ (fun hNew=>?_)
          . (try dsimp only);(first|exact⟨trivial,trivial⟩)
          clear hK K hHeld;have hHeld:=hNew;clear hNew;try simp only[Act.put,stz]
          refine rd1 6 rfl (fun K hK=>?_)
          . refine jb1 (o:=⟨some 51,_,_,_,_,_⟩) (k:=kSlot) (S:=None) (T:=None) (base:=w.heap.size+1+1+1+1) (xs:=(a.args.take k).map (ja1 vs)) (ys:=[ja1 vs t]) (by rfl) (.tmp 46) (.tmp 50) 295 (by rfl) i0 _ 24 Tryz.underlying295 hi0 hz0 hz1 hz2 (by rfl) (by rfl) ((HP1.o.own.ext (Ext.refl _).drew).alloc _) _ 1 1 (by rfl) (jar.one (k:=kSlot) (x:=ja1 vs t) (l:=[.int .i64 (-1),.string t.n]) (Blk.new _ _ _) (by rw[HSL.o];exact⟨rfl,htn⟩)) (fun _ h=>h.elim) (maxOf (by rw[HLN.o];simp;omega)) (by rw[HLN.o];omega) (by go_size) ?_
            intro v6 w6 hap;obtain⟨A6,c6,rfl,_,_⟩:=hap.own.form;have e1:=(hap.blk ((HP1.o.blk.ext (Ext.refl _).drew).alloc _) (by omega)).cell 1;have e2:=(hap.blk ((HP1.o.blk.ext (Ext.refl _).drew).alloc _) (by omega)).frozen 1;have e3:=(hap.blk ((HP1.o.blk.ext (Ext.refl _).drew).alloc _) (by omega)).lt;have HAP:=zh hap;clear hap;refine hK.out _ _ ?_ (fun hNew=>?_)
            . (try dsimp only);(first|exact⟨trivial,trivial⟩)
            clear hK K hHeld;have hHeld:=hNew;clear hNew;try simp only[Act.put,stz]
            refine tq 7 rfl ?_;(try simp only[Act.put,stz])
            refine rd1 8 rfl (fun K hK=>?_)
            . go_simp
              refine hK.out _ _ ?_ (fun hNew=>?_)
              . (try dsimp only);(first|exact⟨trivial,trivial⟩)
              clear hK K hHeld;have hHeld:=hNew;clear hNew;try simp only[Act.put,stz]
              refine dn ?_;go_wp2;have h6:=HAP.o;have hlen:((a.args.take k).map (ja1 vs)++[ja1 vs t]).length=k+1:=by rw[List.length_append,HLN.o];rfl
              rw[hlen] at h6;have H6:=zh h6;clear h6 hlen HAP;go_roundw
              case rel =>
               refine⟨k+1,.slice A6 (k+1) c6,by omega,by go_num,zh ⟨?_,?_,?_⟩⟩
               . rw[HST.o];exact (HP1.o.next ((Ext.refl _).drew.alloc _)).app H6.o
               . exact (H6.o.blk ((HQ1.o.ext (Ext.refl _).drew).alloc _) (by omega)).far (by show w.heap.size≠w.heap.size+1+1+1;omega) _
               exact (H6.o.blk ((HR1.o.ext (Ext.refl _).drew).alloc _) (by omega)).far (by show w.heap.size+1+1≠w.heap.size+1+1+1;omega) _
              case measure=>simp[intOf];omega
    refine AllReadyH.cons (o:=_) rfl (fun K hK=>?_) ?_
    . go_simp
      go_at_call 285;refine (jgi t.n _).mono ?_;rintro e w4 ⟨rfl,rfl⟩
      refine hK.out _ _ ?_ (fun hNew=>?_)
      . (try dsimp only);(first|exact⟨trivial,trivial⟩)
      clear hK K hHeld;have hHeld:=hNew;clear hNew;try simp only[Act.put,stz]
      refine tq 4 rfl ?_;(try simp only[Act.put,stz])
      refine wpAnyH_ready (rs:=[1,5]) (by kernel_rfl) (by simp) ?_;refine AllReadyH.cons (o:=_) rfl (fun K hK=>?_) ?_
      . go_simp
        refine hK.out _ _ ?_ (fun hNew=>?_)
        . (try dsimp only);(first|exact⟨trivial,trivial⟩)
        clear hK K hHeld;have hHeld:=hNew;clear hNew;try simp only[Act.put,stz]
        refine rd1 5 rfl (fun K hK=>?_)
        . go_simp
          refine hK.out _ _ ?_ (fun hNew=>?_)
          . (try dsimp only);(first|exact⟨trivial,trivial⟩)
          clear hK K hHeld;have hHeld:=hNew;clear hNew;try simp only[Act.put,stz]
          refine rd1 6 rfl (fun K hK=>?_)
          . refine jb1 (o:=⟨some 51,_,_,_,_,_⟩) (k:=kSlot) (S:=None) (T:=None) (base:=w.heap.size+1+1+1+1) (xs:=(a.args.take k).map (ja1 vs)) (ys:=[ja1 vs t]) (by rfl) (.tmp 46) (.tmp 50) 295 (by rfl) i0 _ 24 Tryz.underlying295 hi0 hz0 hz1 hz2 (by rfl) (by rfl) ((HP1.o.own.ext (Ext.refl _).drew).alloc _) _ 1 1 (by rfl) (jar.one (k:=kSlot) (x:=ja1 vs t) (l:=[.int .i64 (-1),.string t.n]) (Blk.new _ _ _) (by rw[HSL.o];exact⟨rfl,htn⟩)) (fun _ h=>h.elim) (maxOf (by rw[HLN.o];simp;omega)) (by rw[HLN.o];omega) (by go_size) ?_
            intro v6 w6 hap;obtain⟨A6,c6,rfl,_,_⟩:=hap.own.form;have e1:=(hap.blk ((HP1.o.blk.ext (Ext.refl _).drew).alloc _) (by omega)).cell 1;have e2:=(hap.blk ((HP1.o.blk.ext (Ext.refl _).drew).alloc _) (by omega)).frozen 1;have e3:=(hap.blk ((HP1.o.blk.ext (Ext.refl _).drew).alloc _) (by omega)).lt;have HAP:=zh hap;clear hap;refine hK.out _ _ ?_ (fun hNew=>?_)
            . (try dsimp only);(first|exact⟨trivial,trivial⟩)
            clear hK K hHeld;have hHeld:=hNew;clear hNew;try simp only[Act.put,stz]
            refine tq 7 rfl ?_;(try simp only[Act.put,stz])
            refine rd1 8 rfl (fun K hK=>?_)
            . go_simp
              refine hK.out _ _ ?_ (fun hNew=>?_)
              . (try dsimp only);(first|exact⟨trivial,trivial⟩)
              clear hK K hHeld;have hHeld:=hNew;clear hNew;try simp only[Act.put,stz]
              refine dn ?_;go_wp2;have h6:=HAP.o;have hlen:((a.args.take k).map (ja1 vs)++[ja1 vs t]).length=k+1:=by rw[List.length_append,HLN.o];rfl
              rw[hlen] at h6;have H6:=zh h6;clear h6 hlen HAP;go_roundw
              case rel =>
               refine⟨k+1,.slice A6 (k+1) c6,by omega,by go_num,zh ⟨?_,?_,?_⟩⟩
               . rw[HST.o];exact (HP1.o.next ((Ext.refl _).drew.alloc _)).app H6.o
               . exact (H6.o.blk ((HQ1.o.ext (Ext.refl _).drew).alloc _) (by omega)).far (by show w.heap.size≠w.heap.size+1+1+1;omega) _
               exact (H6.o.blk ((HR1.o.ext (Ext.refl _).drew).alloc _) (by omega)).far (by show w.heap.size+1+1≠w.heap.size+1+1+1;omega) _
              case measure=>simp[intOf];omega
      refine AllReadyH.cons (o:=_) rfl (fun K hK=>?_) ?_
      . go_simp
        refine hK.out _ _ ?_ (fun hNew=>?_)
        . (try dsimp only);(first|exact⟨trivial,trivial⟩)
        clear hK K hHeld;have hHeld:=hNew;clear hNew;try simp only[Act.put,stz]
        refine rd1 1 rfl (fun K hK=>?_)
        . go_simp
          refine hK.out _ _ ?_ (fun hNew=>?_)
          . (try dsimp only);(first|exact⟨trivial,trivial⟩)
          clear hK K hHeld;have hHeld:=hNew;clear hNew;try simp only[Act.put,stz]
          refine rd1 6 rfl (fun K hK=>?_)
          . refine jb1 (o:=⟨some 51,_,_,_,_,_⟩) (k:=kSlot) (S:=None) (T:=None) (base:=w.heap.size+1+1+1+1) (xs:=(a.args.take k).map (ja1 vs)) (ys:=[ja1 vs t]) (by rfl) (.tmp 46) (.tmp 50) 295 (by rfl) i0 _ 24 Tryz.underlying295 hi0 hz0 hz1 hz2 (by rfl) (by rfl) ((HP1.o.own.ext (Ext.refl _).drew).alloc _) _ 1 1 (by rfl) (jar.one (k:=kSlot) (x:=ja1 vs t) (l:=[.int .i64 (-1),.string t.n]) (Blk.new _ _ _) (by rw[HSL.o];exact⟨rfl,htn⟩)) (fun _ h=>h.elim) (maxOf (by rw[HLN.o];simp;omega)) (by rw[HLN.o];omega) (by go_size) ?_
            intro v6 w6 hap;obtain⟨A6,c6,rfl,_,_⟩:=hap.own.form;have e1:=(hap.blk ((HP1.o.blk.ext (Ext.refl _).drew).alloc _) (by omega)).cell 1;have e2:=(hap.blk ((HP1.o.blk.ext (Ext.refl _).drew).alloc _) (by omega)).frozen 1;have e3:=(hap.blk ((HP1.o.blk.ext (Ext.refl _).drew).alloc _) (by omega)).lt;have HAP:=zh hap;clear hap;refine hK.out _ _ ?_ (fun hNew=>?_)
            . (try dsimp only);(first|exact⟨trivial,trivial⟩)
            clear hK K hHeld;have hHeld:=hNew;clear hNew;try simp only[Act.put,stz]
            refine tq 7 rfl ?_;(try simp only[Act.put,stz])
            refine rd1 8 rfl (fun K hK=>?_)
            . go_simp
              refine hK.out _ _ ?_ (fun hNew=>?_)
              . (try dsimp only);(first|exact⟨trivial,trivial⟩)
              clear hK K hHeld;have hHeld:=hNew;clear hNew;try simp only[Act.put,stz]
              refine dn ?_;go_wp2;have h6:=HAP.o;have hlen:((a.args.take k).map (ja1 vs)++[ja1 vs t]).length=k+1:=by rw[List.length_append,HLN.o];rfl
              rw[hlen] at h6;have H6:=zh h6;clear h6 hlen HAP;go_roundw
              case rel =>
               refine⟨k+1,.slice A6 (k+1) c6,by omega,by go_num,zh ⟨?_,?_,?_⟩⟩
               . rw[HST.o];exact (HP1.o.next ((Ext.refl _).drew.alloc _)).app H6.o
               . exact (H6.o.blk ((HQ1.o.ext (Ext.refl _).drew).alloc _) (by omega)).far (by show w.heap.size≠w.heap.size+1+1+1;omega) _
               exact (H6.o.blk ((HR1.o.ext (Ext.refl _).drew).alloc _) (by omega)).far (by show w.heap.size+1+1≠w.heap.size+1+1+1;omega) _
              case measure=>simp[intOf];omega
      exact AllReadyH.nil
    exact AllReadyH.nil
  have b0:=hrb;have c0:=hpb.blk.cell 0;have c1:=hpb.blk.cell 1;have hbl:=hpb.blk.lt;have d0:=hrb.cell 0;have d1:=hrb.cell 1;have f0:=hrb.frozen 0;have f1:=hrb.frozen 1;have hrl':=hrb.lt;have e0:a.args.take k=a.args:=List.take_of_length_le (by omega);rw[e0] at hpb;have HPB:=zh hpb;have HRB:=zh hrb;clear hpb hrb hqb hrl b0 e0;go_wp2;refine bodyPost_ret (v:=.agg #[.string a.n,.slice VA vn vc]) (by simp[results,Tryz.results259,go_sem,d0,d1]) rfl ⟨⟨_,rfl,?_⟩,?_⟩
  . have h1:ja9 (From (w.heap.size+1+1+1+1)) wr (.slice VA vn vc) (a.args.map (ja1 vs)):=HPB.o.own.list (S':=From (w.heap.size+1+1+1+1)) (fun _ h=>h.elim) (fun _ h=>h)
    exact ja9.impL h1 (fun b hb _=>Nat.le_trans (by omega) hb) (((Agree.refl _ _).setCell (je2 (by show w.heap.size+1+1<_;omega)) _).setCell (je2 (by show w.heap.size+1+1<_;omega)) _) (by go_size)
  exact Ext.setNew (a:=w) (Ext.setNew HPB.o.ext (by show _<=w.heap.size+1+1;omega) _) (by show _<=w.heap.size+1+1;omega) _
end Go.Proofs.YthiflhkcpanaaaaGreatDoor
namespace Go.Proofs.YthiflhkcpanaaaaGreatDoor
open Go.RowKit
structure TwoK (base:Nat) (e:TypeId) (Sp Sn:Nat->Prop) (w:World) (vp:Value) (ps:List GPat) (vn:Value) (ns:List GPat):Prop where
 p:OwnK kPat base e Sp w vp ps
 n:OwnK kPat base e Sn w vn ns
 fp:∀ b,Sp b->b<w.heap.size/\vp.ownBlock≠some b/\vn.ownBlock≠some b
 fn:∀ b,Sn b->b<w.heap.size/\vp.ownBlock≠some b/\vn.ownBlock≠some b
 dis:∀ b,vp.ownBlock=some b->vn.ownBlock≠some b
section
variable {base:Nat} {e:TypeId} {Sp Sn T:Nat->Prop} {w w':World} {vp vn v':Value} {ps ns zs:List GPat}
theorem TwoK.nil:TwoK base e (fun _=>False) (fun _=>False) w (.slice none 0 0) [] (.slice none 0 0) []:=⟨OwnK.nil,OwnK.nil,fun _ h=>h.elim,fun _ h=>h.elim,fun b h=>by cases h⟩
theorem TwoK.swap (h:TwoK base e Sp Sn w vp ps vn ns):TwoK base e Sn Sp w vn ns vp ps:=⟨h.n,h.p,fun b hb=>⟨(h.fn b hb).1,(h.fn b hb).2.2,(h.fn b hb).2.1⟩,fun b hb=>⟨(h.fp b hb).1,(h.fp b hb).2.2,(h.fp b hb).2.1⟩,fun b h1 h2=>h.dis b h2 h1⟩
theorem TwoK.ext (h:TwoK base e Sp Sn w vp ps vn ns) (hx:Ext w w'):TwoK base e Sp Sn w' vp ps vn ns :=
 ⟨h.p.ext hx,h.n.ext hx,fun b hb=>⟨Nat.lt_of_lt_of_le (h.fp b hb).1 hx.size,(h.fp b hb).2⟩,fun b hb=>⟨Nat.lt_of_lt_of_le (h.fn b hb).1 hx.size,(h.fn b hb).2⟩,h.dis⟩
theorem TwoK.set (h:TwoK base e Sp Sn w vp ps vn ns) {a:Addr} (ha:a.block<base) (h1:¬ Sp a.block) (h2:¬ Sn a.block) (u:Value):TwoK base e Sp Sn (w.setCell a u) vp ps vn ns:=by
 have hs:w.heap.size<=(w.setCell a u).heap.size:=by simp[World.setCell]
 exact⟨h.p.set ha h1 u,h.n.set ha h2 u,fun b hb=>⟨Nat.lt_of_lt_of_le (h.fp b hb).1 hs,(h.fp b hb).2⟩,fun b hb=>⟨Nat.lt_of_lt_of_le (h.fn b hb).1 hs,(h.fn b hb).2⟩,h.dis⟩
theorem TwoK.app (h:TwoK base e Sp Sn w vp ps vn ns) (ha:Apped kPat base e (fun b=>Sp b∨T b) w vp zs v' w') (hT:∀ b,T b->b<w.heap.size/\vp.ownBlock≠some b/\vn.ownBlock≠some b):TwoK base e (fun b=>Sp b∨T b) Sn w' v' zs vn ns:=by
 have hsz:w.heap.size<=w'.heap.size:=ha.grown.size
 have hv:∀ b,b<w.heap.size->vp.ownBlock≠some b->v'.ownBlock≠some b:=fun b hb hne e=>by
  rcases ha.at_ with h1|h1
  . exact hne (h1▸e)
  rw[h1] at e;cases e;exact absurd hb (Nat.lt_irrefl _)
 refine⟨ha.own,h.n.grown ha.grown (fun g hg e=>h.dis g e hg) (fun b hb e=>(h.fn b hb).2.1 e),fun b hb=>?_,fun b hb=>?_,fun b h1 h2=>?_⟩
 . have hb':b<w.heap.size/\vp.ownBlock≠some b/\vn.ownBlock≠some b:=hb.elim (h.fp b) (hT b)
   exact⟨Nat.lt_of_lt_of_le hb'.1 hsz,hv b hb'.1 hb'.2.1,hb'.2.2⟩
 . have hb':=h.fn b hb
   exact⟨Nat.lt_of_lt_of_le hb'.1 hsz,hv b hb'.1 hb'.2.1,hb'.2.2⟩
 rcases ha.at_ with h3|h3
 . exact h.dis b (h3▸h1) h2
 rw[h3] at h1;cases h1;exact absurd (h.n.at_ _ h2).2 (Nat.lt_irrefl _)
end
end Go.Proofs.YthiflhkcpanaaaaGreatDoor
