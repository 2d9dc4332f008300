/- Own texts, joined. -/
import Derived.Test.YthiflhkcpanaaaaGreatDoorDas34
set_option linter.unusedSimpArgs false
set_option linter.unusedVariables false
set_option maxHeartbeats 8000000
set_option maxRecDepth 100000
namespace Go.Proofs.YthiflhkcpanaaaaGreatDoor
open Go.RowKit Go.Shelf
attribute [local go_sem] Oper.semAt_some
def CellB (w:World) (b:Nat):Prop:=∃ o:Obj,w.heap[b]? = some o/\o.isCells=true
theorem j1r {w:World} {b o:Nat} {u:Value} (h:w.cell? ⟨b,o,none⟩=some u):CellB w b:=by
 unfold World.cell? at h;split at h
 . rename_i c _ _ hc
   exact⟨_,hc,rfl⟩
 cases h
theorem jaa.cellB {α:Type} {S:Nat->Prop} {size:Nat} {E E':World->List Value->α->Prop} {w:World} {v:Value} {xs:List α} (hpos:0<size) (hE:∀ cs x,E w cs x->E' w cs x) (h:jaa S size E w v xs):jaa (fun b=>S b/\CellB w b) size E' w v xs:=by
 obtain⟨A,c,hv,h1,h2,h3⟩:=h;refine⟨A,c,hv,h1,h2,fun h0=>?_⟩;obtain⟨b,off,ha,hb,hs,hc⟩:=h3 h0;refine⟨b,off,ha,hb,⟨hs,?_⟩,fun i x hx=>?_⟩
 . obtain ⟨cs,hl,hcs,_⟩:=hc 0 xs[0] (List.getElem?_eq_getElem h0)
   obtain⟨u,hu⟩:∃ u,cs[0]? = some u:=⟨cs[0],List.getElem?_eq_getElem (by omega)⟩
   exact j1r (hcs 0 u hu)
 obtain⟨cs,hl,hcs,hEx⟩:=hc i x hx;exact⟨cs,hl,hcs,hE _ _ hEx⟩
theorem jad.cellB {S:Nat->Prop} {w:World} {v:Value} {xs:List GT} (h:jad S w v xs):jad (fun b=>S b/\CellB w b) w v xs:=jaa.cellB (by omega) (fun _ _ h=>h) h
theorem jab.cellB {S:Nat->Prop} {w:World} {v:Value} {xs:List GA} (h:jab S w v xs):jab (fun b=>S b/\CellB w b) w v xs:=jaa.cellB (by omega) (fun cs x hx=>by obtain⟨u,h1,h2,h3⟩:=hx;exact⟨u,h1,h2,h3.cellB⟩) h
theorem jaa.off {α:Type} {S:Nat->Prop} {size:Nat} {E E':World->List Value->α->Prop} {w:World} {v:Value} {xs:List α} {g:Nat} {t:TypeId} {u:Value} (h2:2<=size) (hg:Blk w g t #[u]) (hE:∀ cs x,E w cs x->E' w cs x) (h:jaa S size E w v xs) :
  jaa (fun b=>S b/\b≠g) size E' w v xs:=by
 obtain⟨A,c,hv,k1,k2,h3⟩:=h;refine⟨A,c,hv,k1,k2,fun h0=>?_⟩;obtain⟨b,off,ha,hb,hs,hc⟩:=h3 h0;refine⟨b,off,ha,hb,⟨hs,?_⟩,fun i x hx=>?_⟩
 . rintro rfl
   obtain⟨cs,hl,hcs,_⟩:=hc 0 xs[0] (List.getElem?_eq_getElem h0);have h:=hcs 1 cs[1] (List.getElem?_eq_getElem (by omega));rw[hg.cell] at h;have e:(#[u]:Array Value)[off+(0*size+1)]? = none:=Array.getElem?_eq_none (by show 1<=off+(0*size+1);omega);rw[e] at h;cases h
 obtain⟨cs,hl,hcs,hEx⟩:=hc i x hx;exact⟨cs,hl,hcs,hE _ _ hEx⟩
theorem jad.off {S:Nat->Prop} {w:World} {v:Value} {xs:List GT} {g:Nat} {t:TypeId} {u:Value} (hg:Blk w g t #[u]) (h:jad S w v xs):jad (fun b=>S b/\b≠g) w v xs:=jaa.off (by omega) hg (fun _ _ h=>h) h
theorem jab.off {S:Nat->Prop} {w:World} {v:Value} {xs:List GA} {g:Nat} {t:TypeId} {u:Value} (hg:Blk w g t #[u]) (h:jab S w v xs):jab (fun b=>S b/\b≠g) w v xs:=jaa.off (by omega) hg (fun cs x hx=>by obtain⟨u,h1,h2,h3⟩:=hx;exact⟨u,h1,h2,h3.off hg⟩) h
theorem jew {A B:World} (h:Ext A B):KeepsOthers A B:=⟨h.size,fun k o hk _=>(h.block k (Array.getElem?_eq_some_iff.1 hk).1).trans hk⟩
theorem jo2 {w X Y:World} {D:Nat} (h:Ext w X) (ht:jcy D X Y) (hD:w.heap.size<=D):Ext w Y :=
 ⟨ht.os.trans h.os,ht.tape.trans h.tape,ht.output.trans h.output,Nat.le_trans h.size ht.size,fun b hb=>(ht.block b (Nat.lt_of_lt_of_le hb h.size) (by omega) (by omega)).trans (h.block b hb)⟩
theorem js8 {w:World} {b:Nat} {o:Obj} (h:w.heap[b]? = some o) (hc:o.isCells=false):¬ CellB w b:=by
 rintro ⟨o2,h2,h3⟩;rw[h] at h2;cases h2
 rw[hc] at h3;cases h3
theorem jo3 {rules:List GR} {hist:List GC} {list:List GA} {k i:Nat} {x:GC} (hi:i+1+k=hist.length) (hx:hist[i]? = some x) :
  jcn rules (hist.reverse.drop k) list=(jas x && ((backL list x).2 && (fineB rules (backL list x).1 && jcn rules (hist.reverse.drop (k+1)) (backL list x).1))):=by
 obtain⟨h1,h2⟩:=List.getElem?_eq_some_iff.1 hx
 have e:hist[hist.length-1-k]'(by omega)=x:=by
  rw[<- h2]
  congr 1
  omega
 rw[jp0 (by omega),e]
 rfl
structure BokV (w0:World) (B:GB) (A1 A2 A3:Option Addr) (c1 c2 c3:Nat) (gb D:Nat) (list:List GA) (va:Value) (W:World):Prop where
 fb:Blk W w0.heap.size 27 #[.slice A1 B.rules.length c1,.int .i64 B.time,.slice A2 B.given.length c2,.slice A3 B.hist.length c3]
 fr:Blk W (w0.heap.size+1) 4 #[.bool false]
 fg:Blk W gb 24 #[va]
 fl:jab (fun b=>b≠D/\b≠D+1) W va list
 fx:Ext w0 W
theorem BokV.turned {w0:World} {B:GB} {A1 A2 A3:Option Addr} {c1 c2 c3:Nat} {gb D:Nat} {list:List GA} {va:Value} {X Y:World} (h:BokV w0 B A1 A2 A3 c1 c2 c3 gb D list va X) (ht:jcy D X Y) (h1:w0.heap.size+1<D) (h2:gb<D):BokV w0 B A1 A2 A3 c1 c2 c3 gb D list va Y :=
 ⟨(ht.block _ h.fb.lt (by omega) (by omega)).trans h.fb,(ht.block _ h.fr.lt (by omega) (by omega)).trans h.fr,(ht.block _ h.fg.lt (by omega) (by omega)).trans h.fg,
   h.fl.imp (fun _ h=>h) (fun b hb hlt=>ht.block b hlt hb.1 hb.2) ht.size,
   ⟨ht.os.trans h.fx.os,ht.tape.trans h.fx.tape,ht.output.trans h.fx.output,Nat.le_trans h.fx.size ht.size,fun b hb=>(ht.block b (Nat.lt_of_lt_of_le hb h.fx.size) (by omega) (by omega)).trans (h.fx.block b hb)⟩⟩
theorem BokV.ext {w0:World} {B:GB} {A1 A2 A3:Option Addr} {c1 c2 c3:Nat} {gb D:Nat} {list:List GA} {va:Value} {X Y:World} (h:BokV w0 B A1 A2 A3 c1 c2 c3 gb D list va X) (he:Ext X Y):BokV w0 B A1 A2 A3 c1 c2 c3 gb D list va Y :=
 ⟨h.fb.ext he,h.fr.ext he,h.fg.ext he,h.fl.ext he,h.fx.t he⟩
def numB (B:GB):Bool:=decide (0<=B.time) && decide (B.time<=100000) && decide (B.hist.length<=30) && decide ((B.hist.length:Int)<=B.time)
theorem jo4 {B:GB} (h:numB B=false):jbx B=false:=by
 unfold numB at h;unfold jbx;rw[h];rfl
theorem jnd {B:GB} (h:fineB B.rules B.given=false):jbx B=false:=by
 unfold jbx;rw[h,Bool.false_and,Bool.and_false]
theorem jk7 {B:GB} (h1:numB B=true) (h2:fineB B.rules B.given=true):jbx B=jcn B.rules B.hist.reverse B.given:=by
 unfold numB at h1;unfold jbx;rw[h1,h2,Bool.true_and,Bool.true_and]
theorem jnq (B:GB) (v:Value) (w:World) {S:Nat->Prop} (hv:BaseR S w v B) (he:ErrIs w) :
  Calls Tryz.prog 14 #[v] w fun e w'=>e=.returned (.bool (jbx B))/\Ext w w':=by
 obtain⟨A1,c1,A2,c2,A3,c3,rfl⟩:=hv.form;obtain⟨W1,hW1⟩:=nm ((w.alloc (.cells #[.slice A1 B.rules.length c1,.int .i64 B.time,.slice A2 B.given.length c2,.slice A3 B.hist.length c3] 27)).alloc (.cells #[.bool false] 4));have hx1:Ext w W1:=by rw[hW1];exact ((Ext.refl _).alloc _).alloc _
 have hb1:Blk W1 w.heap.size 27 #[.slice A1 B.rules.length c1,.int .i64 B.time,.slice A2 B.given.length c2,.slice A3 B.hist.length c3]:=by rw[hW1];exact (Blk.new _ _ _).alloc _
 have hr1:Blk W1 (w.heap.size+1) 4 #[.bool false]:=by rw[hW1];exact Blk.at_new (by simp)
 have HX1:=zh hx1;have HB1:=zh hb1;have HR1:=zh hr1;have HV:=zh hv.low;have HE:=zh he
 have HG:J1 (jab (fun b=>b<w.heap.size) w (.slice A2 B.given.length c2) B.given):=zh (by
  obtain⟨a,b,c,h1,_,h2,_⟩:=hv.low;injection h1 with h1
  simp only[Array.mk.injEq,List.cons.injEq] at h1;rw[h1.2.2.1];exact h2)
 have HH:J1 (jan (fun b=>b<w.heap.size) w (.slice A3 B.hist.length c3) B.hist):=zh (by
  obtain⟨a,b,c,h1,_,_,h2⟩:=hv.low;injection h1 with h1
  simp only[Array.mk.injEq,List.cons.injEq] at h1;rw[h1.2.2.2.1];exact h2)
 have p0:=hb1.cell 0;have p1:=hb1.cell 1;have p2:=hb1.cell 2;have p3:=hb1.cell 3;have pl:=hb1.lt;have r0:=hr1.cell 0;have rf:=hr1.frozen 0;have rl:=hr1.lt;have HFO:=zh (fun (W:World) (hW:Ext w W)=>jnc B B.given _ _ W (HV.o.ext hW) (HG.o.ext hW) (HE.o.ext hW));clear hv he hx1 hb1 hr1
 cases hn:numB B with
 | false =>
   rw[jo4 hn]
   have hcase:B.time<0∨(¬ B.time<0/\100000<B.time)∨(¬ B.time<0/\¬ 100000<B.time/\30<B.hist.length)∨(¬ B.time<0/\¬ 100000<B.time/\¬ 30<B.hist.length/\B.time<(B.hist.length:Int)):=by
    unfold numB at hn;simp only[Bool.and_eq_false_iff,decide_eq_false_iff_not] at hn;omega
   clear hn;rcases hcase with h1|⟨h1,h2⟩|⟨h1,h2,h3⟩|⟨h1,h2,h3,h4⟩
   all_goals try (have h3i:(30:Int)<(B.hist.length:Int):=by omega)
   all_goals try (have h3j:¬ (30:Int)<(B.hist.length:Int):=by omega)
   all_goals
    go_in;go_wp2_with fail
    rw[<- hW1];refine bodyPost_ret (v:=.bool false) (by simp[results,Tryz.results14,go_sem,r0]) rfl ⟨rfl,?_⟩;exact HX1.o
 | true =>
   have hnum:¬ B.time<0/\¬ 100000<B.time/\¬ (30:Int)<(B.hist.length:Int)/\¬ B.time<(B.hist.length:Int):=by
    unfold numB at hn;simp only[Bool.and_eq_true,decide_eq_true_eq] at hn;omega
   obtain⟨h1,h2,h3,h4⟩:=hnum
   cases hf:fineB B.rules B.given with
   | false =>
     rw[jnd hf];rw[hf] at HFO;clear hn hf
     go_in
     go_wp2_with (first
      | (rw [<- hW1];go_at_call 62;refine (HFO.o _ HX1.o).mono ?_;rintro e w2 ⟨rfl,hx2⟩
         have hr2:=HR1.o.ext hx2;have s0:=hr2.cell 0;have sf:=hr2.frozen 0;have sl:=hr2.lt;have HX2:=zh (HX1.o.t hx2);clear hr2 hx2)
      | fail)
     refine bodyPost_ret (v:=.bool false) (by simp[results,Tryz.results14,go_sem,s0]) rfl ⟨rfl,?_⟩;exact Ext.setNew (p:=⟨w.heap.size+1,0,none⟩) HX2.o (Nat.le_succ _) _
   | true =>
     rw[jk7 hn hf];obtain⟨hgf,hga,hgl⟩:=jeg hf;rw[hf] at HFO;clear hn hf;refine (callsIn_wide (n:=6)).1 ?_;refine callsIn_of_wp_marks Tryz.func14 rfl trivial ?_ rfl;simp only[Tryz.ntmps14,List.size_toArray,List.length_cons,List.length_nil,Nat.reduceAdd,Nat.reduceSub,Array.replicate_succ,Array.replicate_zero,List.push_toArray,List.append_toArray,List.nil_append,List.cons_append]
     gi_wp2_with (first
      | (refine ⟨trivial,?_⟩;gi_at_call 62;rw[<- hW1];refine (callsIn_wide.2 (HFO.o _ HX1.o)).mono ?_;rintro e w2 ⟨rfl,hx2⟩
         have hb2:=HB1.o.ext hx2;have s0:=hb2.cell 0;have s1:=hb2.cell 1;have s2:=hb2.cell 2;have s3:=hb2.cell 3;have sl:=hb2.lt;have HB2:=zh hb2;have HR2:=zh (HR1.o.ext hx2);have HX2:=zh (HX1.o.t hx2);clear hb2 hx2)
      | (refine⟨trivial,?_⟩;gi_at_call 63;refine (callsIn_wide.2 (jst _ _ _ _ _ rfl)).mono ?_;rintro e w3 ⟨rfl,rfl⟩))
     have hs2:=HX2.o.size;obtain⟨W0,hW0⟩:=nm ((w2.alloc (.cells #[.slice A2 B.given.length c2] 24)).alloc (.cells #[.slice A3 B.hist.length c3] 25));have hx02:Ext w2 W0:=by rw[hW0];exact ((Ext.refl w2).alloc _).alloc _
     have hB0:Ext w W0:=HX2.o.t hx02;have hfb:=HB2.o.ext hx02;have hfr:=HR2.o.ext hx02;have hfg:Blk W0 w2.heap.size 24 #[.slice A2 B.given.length c2]:=by rw[hW0];exact (Blk.new _ _ _).alloc _
     have hfp:Blk W0 (w2.heap.size+1) 25 #[.slice A3 B.hist.length c3]:=by rw[hW0];exact Blk.at_new (by simp)
     have hD:W0.heap.size=w2.heap.size+2:=by rw[hW0];simp
     have hrl:=HR2.o.lt;have HD:=zh hD;have hD1:w2.heap.size+2<=W0.heap.size:=by omega
     have HF:=zh hgf;have HA:=zh hga;have HL:=zh hgl;have HX0:=zh hB0;rw[<- hW0];clear hW0 hx02 hD s0 s1 s2 s3 sl hgf hga hgl
     refine jj6 (F:=Fence.wide) (α:=BE) rfl (by omega) (gf:=129) (lb:= #[.pointer (some ⟨w2.heap.size+1,0,none⟩)]) rfl trivial (enters_of Tryz.func129 (by kernel_rfl) rfl)
      (jm2 5 (by omega) (w2.heap.size+1) (fun b=>b<W0.heap.size/\b≠w2.heap.size/\b≠w.heap.size+1) W0 A3 c3 B.hist ⟨by omega,by omega,by omega⟩ (hfp.cell 0)
       (jan.impL HH.o (fun b hb hlt=>⟨by omega,by omega,by omega⟩) (.of_ext hB0) hB0.size))
      (fun A B l o hs hl ho _=>(hs.block l (Array.getElem?_eq_some_iff.1 ho).1).trans ho)
      KeepR.trans (fun W l o o' hl ho _ _=>⟨by simp[World.putObj],fun b hb hlt=>(grownBy_putObj' W l o').block b hlt (fun e=>by injection e with e;omega)⟩) (Below.refl _ _) (fun _=>rfl)
      (fun pre W=>∃ list va,BokV w B A1 A2 A3 c1 c2 c3 w2.heap.size W0.heap.size list va W/\Facts list/\Asc list/\list.length<=40/\jcn B.rules B.hist.reverse B.given=jcn B.rules (B.hist.reverse.drop pre.length) list/\KeepR (fun b=>b<W0.heap.size/\b≠w2.heap.size/\b≠w.heap.size+1) W0 W)
      (fun pre W=>jcn B.rules B.hist.reverse B.given=false/\Blk W (w.heap.size+1) 4 #[.bool false]/\Ext w W)
      (fun pre A B ⟨list,va,h1,h2,h3,h4,h5,h6⟩ ht=>⟨list,va,h1.turned ht (by omega) (by omega),h2,h3,h4,h5,h6.trans ⟨ht.size,fun b hb hlt=>ht.block b hlt (by omega) (by omega)⟩⟩)
      (fun pre A B ⟨h1,h2,h3⟩ ht=>⟨h1,(ht.block _ h2.lt (by omega) (by omega)).trans h2,⟨ht.os.trans h3.os,ht.tape.trans h3.tape,ht.output.trans h3.output,Nat.le_trans h3.size ht.size,fun b hb=>(ht.block b (Nat.lt_of_lt_of_le hb h3.size) (by omega) (by omega)).trans (h3.block b hb)⟩⟩)
      (fun pre A B ⟨list,va,h1,h2,h3,h4,h5,h6⟩ ht=>⟨list,va,h1.ext ht,h2,h3,h4,h5,h6.trans (.of_ext ht)⟩)
      ⟨B.given,_,⟨hfb,hfr,hfg,HG.o.imp (fun b hb=>⟨by omega,by omega⟩) (.of_ext hB0) hB0.size,hB0⟩,HF.o,HA.o,HL.o,rfl,⟨Nat.le_refl _,Agree.refl _ _⟩⟩ ?a1 ?g ?hgs ?hgk ?assign ?body ?done ?stop
     case assign =>
      intro x W K hK;simp only[encBE]
      gi_wp2
      exact hK
     case hgs=>exact fun x W=>KeepsOthers.alloc _ _
     case hgk=>exact fun x W=>.of_ext ((Ext.refl _).alloc _)
     case done =>
      rintro xs W hxs ⟨list,va,hI,_,_,_,hch,_⟩ hK;have HCH:=zh (show jcn B.rules B.hist.reverse B.given=true from by rw[hch,hxs,jsg (Nat.le_refl _)]);have c0:=hI.fr.cell 0;have hl1:=hI.fr.lt;have hf1:=hI.fr.frozen 0;have HI:=zh hI;clear hI hxs hch
      gi_wp2
      have hX:=Ext.setNew (p:=⟨w.heap.size+1,0,none⟩) HI.o.fx (Nat.le_succ _) (.bool true);refine⟨by simp,.inl ⟨_,_,rfl,run_takeDeferred (by exact (Below.heap_setCell _ _ _ _ (by show W0.heap.size≠w.heap.size+1;omega)).trans hK),?_⟩⟩;have hT:=jcy.putObj (D:=W0.heap.size) (l:=W0.heap.size) (W.setCell ⟨w.heap.size+1,0,none⟩ (.bool true)) (.deferred none) (.inl rfl);have hbX:Blk (W.setCell ⟨w.heap.size+1,0,none⟩ (.bool true)) (w.heap.size+1) 4 #[.bool true]:=by simpa using HI.o.fr.set_ 0 (.bool true)
      have d0:=Blk.cell (t:=4) (cs:= #[.bool true]) ((hT.block _ hbX.lt (by omega) (by omega)).trans hbX) 0;refine⟨.bool true,?_,by rw[HCH.o],jo2 hX hT (by omega)⟩;simp[results,Tryz.results14,go_sem,d0]
     case stop =>
      rintro pre W _ ⟨h1,h2,h3⟩ hK;have HCH:=zh h1;have HR:=zh h2;have HX:=zh h3;have c0:=h2.cell 0;have hl1:=h2.lt;clear h1 h2 h3
      gi_wp2
      refine⟨by simp,.inl ⟨_,_,rfl,run_takeDeferred hK,?_⟩⟩;have hT:=jcy.putObj (D:=W0.heap.size) (l:=W0.heap.size) W (.deferred none) (.inl rfl);have d0:=Blk.cell (t:=4) (cs:= #[.bool false]) ((hT.block _ HR.o.lt (by omega) (by omega)).trans HR.o) 0;refine⟨.bool false,?_,by rw[HCH.o],jo2 HX.o hT (by omega)⟩;simp[results,Tryz.results14,go_sem,d0]
     case body =>
      rintro pre x Wp Wq o' hoc' ⟨list,va,hI,hlf,hla,hll,hch,hk⟩ hst ⟨hi,hgx,hco,hgo⟩ hlt1 hlt2 ⟨o,ho,hoc⟩ ⟨o2,ho2,hoc2⟩;have hz:=hst.size;obtain⟨Wb,hWb⟩:=nm ((Wq.alloc (.cells #[.slice x.A x.an x.ac,.slice x.B x.bn x.bc] 36)).putObj (W0.heap.size+1) o');have hzb1:Wq.heap.size+1<=Wb.heap.size:=by rw[hWb];simp
      have hT:jcy W0.heap.size (Wq.alloc (.cells #[.slice x.A x.an x.ac,.slice x.B x.bn x.bc] 36)) Wb:=by rw[hWb];exact jcy.putObj _ _ (.inr rfl)
      have hIb:=((hI.ext hst).ext ((Ext.refl _).alloc (.cells #[.slice x.A x.an x.ac,.slice x.B x.bn x.bc] 36))).turned hT (by omega) (by omega);have hkb:=(hk.trans (.of_ext (hst.t ((Ext.refl _).alloc (.cells #[.slice x.A x.an x.ac,.slice x.B x.bn x.bc] 36))))).trans ⟨hT.size,fun b hb hlt=>hT.block b hlt (by omega) (by omega)⟩;have hcb:Blk Wb Wq.heap.size 36 #[.slice x.A x.an x.ac,.slice x.B x.bn x.bc]:=(hT.block _ (by simp) (by omega) (by omega)).trans (Blk.new _ _ _);have HCO:=zh (hco.imp (fun b hb=>hb) hkb.2 hkb.1);have HGO:=zh (hgo.imp (fun b hb=>hb) hkb.2 hkb.1);rw[jo3 hi hgx] at hch;have hd1:Wb.heap[W0.heap.size+1]? = some o':=by rw[hWb];exact World.putObj_heap_same (by simp only[World.size_alloc];omega)
      have hd0:Wb.heap[W0.heap.size]? = some o2:=by rw[hWb];exact (World.putObj_heap_other (by omega)).trans ((Below.heap_alloc _ _ _ (by omega)).trans ho2)
      have HNC:=zh (show (∀ W,Ext Wb W->¬ CellB W W0.heap.size)/\(∀ W,Ext Wb W->¬ CellB W (W0.heap.size+1)) from⟨fun W hW=>js8 ((hW.block _ (Array.getElem?_eq_some_iff.1 hd0).1).trans hd0) hoc2,fun W hW=>js8 ((hW.block _ (Array.getElem?_eq_some_iff.1 hd1).1).trans hd1) hoc'⟩);clear hd0 hd1;rw[<- hWb];obtain⟨A4,c4,rfl,_,_⟩:=jaa.form hIb.fl;have HIB:=zh hIb;have HKB:=zh hkb;have HCB:=zh hcb;have HLF:=zh hlf;have HLA:=zh hla;have HLL:=zh hll;have HCH:=zh hch;have HPL:=zh (show (pre++[x]).length=pre.length+1 from by simp);have hxw:=hIb.fx.size;have hgl:=hIb.fg.lt;have HZ:=zh (show Wq.heap.size<Wb.heap.size/\W0.heap.size+2<=Wb.heap.size from⟨by omega,by omega⟩);have q0:=hcb.cell 0;have q1:=hcb.cell 1;have ql:=hcb.lt;have g0:=hIb.fg.cell 0;have r0:=hIb.fr.cell 0;have rf:=hIb.fr.frozen 0;have rl:=hIb.fr.lt;have HC:=zh (jk6 x.x _ _ Wb HCO.o HGO.o);clear hWb hT hIb hkb hcb hI hk hst hco hgo hch hlf hla hll ho hoc ho2 hoc2 hgx hxw hzb1 hz
      cases hc:jas x.x with
      | false =>
        rw[hc] at HC HCH
        gi_wp2_with (first
         | (refine ⟨trivial,?_⟩;gi_at_call 64;refine ((callsIn_wide.2 HC.o).inRound _).mono ?_;rintro e w4 ⟨rfl,hx4⟩
            have hr4:=HIB.o.fr.ext hx4;have s0:=hr4.cell 0;have sf:=hr4.frozen 0;have sl:=hr4.lt;have HR4:=zh hr4;have HX4:=zh hx4;clear hr4 hx4)
         | (refine⟨trivial,?_⟩))
        refine⟨(jew HX4.o).trans (KeepsOthers.setCell _ _ _),by rw[HCH.o];rfl,by simpa using HR4.o.set_ 0 (.bool false),Ext.setNew (HIB.o.fx.t HX4.o) (Nat.le_succ _) _⟩
      | true =>
        rw[hc] at HC;obtain⟨k1,k2,_⟩:=jct hc;obtain⟨m1,m2,m3⟩:=jbw k1;obtain⟨n1,n2,n3⟩:=jbw k2;have HIN:=zh (fun (W:World) (hW:Ext Wb W)=>js7 _ _ x.x.comes list W (HCO.o.ext hW) (HIB.o.fl.ext hW) m1 m2 HLF.o HLA.o);have HCM:=zh (fun (W:World) (hW:Ext Wb W)=>jj9 _ _ x.x.goes list W (HGO.o.ext hW) (HIB.o.fl.ext hW) n2 HLA.o);have HTK:=zh (fun (W:World) (hW:Ext Wb W)=>jix list x.x _ _ _ W (HIB.o.fl.ext hW) (HCO.o.ext hW) (HGO.o.ext hW) (by have:=HLL.o;omega) HLF.o HLA.o hc);have HFW:=zh (fun (W:World) (r:Value) (hW:Ext w W) {Z:Nat->Prop} (hr:jab Z W r (doL list ⟨x.x.goes,x.x.comes⟩))=>jnc B _ _ _ W (HV.o.ext hW) hr (HE.o.ext hW));have HBF:=zh (jzp list x.x);clear m1 m2 m3 n1 n2 n3 k1 k2
        cases ha:x.x.comes.all (hasA list) with
        | false =>
          rw[ha] at HIN;have HCF:=zh (show jcn B.rules B.hist.reverse B.given=false from by rw[HCH.o,hc,HBF.o,ha];rfl)
          gi_wp2_with (first
           | (refine ⟨trivial,?_⟩;gi_at_call 64;refine ((callsIn_wide.2 (HC.o)).inRound _).mono ?_;rintro e w4 ⟨rfl,hx4⟩
              have HX4:=zh (hx4);clear hx4;have cb4:=HCB.o.ext HX4.o;have c40:=cb4.cell 0;have c41:=cb4.cell 1;have c4l:=cb4.lt;have gb4:=HIB.o.fg.ext HX4.o;have g40:=gb4.cell 0;have g4f:=gb4.frozen 0;have g4l:=gb4.lt;have rb4:=HIB.o.fr.ext HX4.o;have r40:=rb4.cell 0;have r4f:=rb4.frozen 0;have r4l:=rb4.lt;have bb4:=HIB.o.fb.ext HX4.o;have b40:=bb4.cell 0;have b41:=bb4.cell 1;have b42:=bb4.cell 2;have b43:=bb4.cell 3;have b4l:=bb4.lt)
           | (refine ⟨trivial,?_⟩;gi_at_call 65;refine ((callsIn_wide.2 (HIN.o _ HX4.o)).inRound _).mono ?_;rintro e w5 ⟨rfl,hx5⟩
              have HX5:=zh (HX4.o.t hx5);clear hx5;have cb5:=HCB.o.ext HX5.o;have c50:=cb5.cell 0;have c51:=cb5.cell 1;have c5l:=cb5.lt;have gb5:=HIB.o.fg.ext HX5.o;have g50:=gb5.cell 0;have g5f:=gb5.frozen 0;have g5l:=gb5.lt;have rb5:=HIB.o.fr.ext HX5.o;have r50:=rb5.cell 0;have r5f:=rb5.frozen 0;have r5l:=rb5.lt;have bb5:=HIB.o.fb.ext HX5.o;have b50:=bb5.cell 0;have b51:=bb5.cell 1;have b52:=bb5.cell 2;have b53:=bb5.cell 3;have b5l:=bb5.lt)
           | (refine⟨trivial,?_⟩))
          refine⟨(jew HX5.o).trans (KeepsOthers.setCell _ _ _),HCF.o,by simpa using (HIB.o.fr.ext HX5.o).set_ 0 (.bool false),Ext.setNew (HIB.o.fx.t HX5.o) (Nat.le_succ _) _⟩
        | true =>
          rw[ha] at HIN
          cases hm:jcd x.x.goes list with
          | true =>
            rw[hm] at HCM;have HCF:=zh (show jcn B.rules B.hist.reverse B.given=false from by rw[HCH.o,hc,HBF.o,ha,hm];rfl)
            gi_wp2_with (first
             | (refine ⟨trivial,?_⟩;gi_at_call 64;refine ((callsIn_wide.2 (HC.o)).inRound _).mono ?_;rintro e w4 ⟨rfl,hx4⟩
                have HX4:=zh (hx4);clear hx4;have cb4:=HCB.o.ext HX4.o;have c40:=cb4.cell 0;have c41:=cb4.cell 1;have c4l:=cb4.lt;have gb4:=HIB.o.fg.ext HX4.o;have g40:=gb4.cell 0;have g4f:=gb4.frozen 0;have g4l:=gb4.lt;have rb4:=HIB.o.fr.ext HX4.o;have r40:=rb4.cell 0;have r4f:=rb4.frozen 0;have r4l:=rb4.lt;have bb4:=HIB.o.fb.ext HX4.o;have b40:=bb4.cell 0;have b41:=bb4.cell 1;have b42:=bb4.cell 2;have b43:=bb4.cell 3;have b4l:=bb4.lt)
             | (refine ⟨trivial,?_⟩;gi_at_call 65;refine ((callsIn_wide.2 (HIN.o _ HX4.o)).inRound _).mono ?_;rintro e w5 ⟨rfl,hx5⟩
                have HX5:=zh (HX4.o.t hx5);clear hx5;have cb5:=HCB.o.ext HX5.o;have c50:=cb5.cell 0;have c51:=cb5.cell 1;have c5l:=cb5.lt;have gb5:=HIB.o.fg.ext HX5.o;have g50:=gb5.cell 0;have g5f:=gb5.frozen 0;have g5l:=gb5.lt;have rb5:=HIB.o.fr.ext HX5.o;have r50:=rb5.cell 0;have r5f:=rb5.frozen 0;have r5l:=rb5.lt;have bb5:=HIB.o.fb.ext HX5.o;have b50:=bb5.cell 0;have b51:=bb5.cell 1;have b52:=bb5.cell 2;have b53:=bb5.cell 3;have b5l:=bb5.lt)
             | (refine ⟨trivial,?_⟩;gi_at_call 66;refine ((callsIn_wide.2 (HCM.o _ HX5.o)).inRound _).mono ?_;rintro e w6 ⟨rfl,hx6⟩
                have HX6:=zh (HX5.o.t hx6);clear hx6;have cb6:=HCB.o.ext HX6.o;have c60:=cb6.cell 0;have c61:=cb6.cell 1;have c6l:=cb6.lt;have gb6:=HIB.o.fg.ext HX6.o;have g60:=gb6.cell 0;have g6f:=gb6.frozen 0;have g6l:=gb6.lt;have rb6:=HIB.o.fr.ext HX6.o;have r60:=rb6.cell 0;have r6f:=rb6.frozen 0;have r6l:=rb6.lt;have bb6:=HIB.o.fb.ext HX6.o;have b60:=bb6.cell 0;have b61:=bb6.cell 1;have b62:=bb6.cell 2;have b63:=bb6.cell 3;have b6l:=bb6.lt)
             | (refine⟨trivial,?_⟩))
            refine⟨(jew HX6.o).trans (KeepsOthers.setCell _ _ _),HCF.o,by simpa using (HIB.o.fr.ext HX6.o).set_ 0 (.bool false),Ext.setNew (HIB.o.fx.t HX6.o) (Nat.le_succ _) _⟩
          | false =>
            rw[hm] at HCM;have hb2:(backL list x.x).2=true:=by rw[HBF.o,ha,hm];rfl
            have HBL:=zh (jsf hb2);have HB2':=zh hb2;clear hb2
            cases hff:fineB B.rules (doL list ⟨x.x.goes,x.x.comes⟩) with
            | false =>
              rw[hff] at HFW;have HCF:=zh (show jcn B.rules B.hist.reverse B.given=false from by rw[HCH.o,hc,HB2'.o,HBL.o,hff];rfl)
              gi_wp2_with (first
               | (refine ⟨trivial,?_⟩;gi_at_call 64;refine ((callsIn_wide.2 (HC.o)).inRound _).mono ?_;rintro e w4 ⟨rfl,hx4⟩
                  have HX4:=zh (hx4);clear hx4;have cb4:=HCB.o.ext HX4.o;have c40:=cb4.cell 0;have c41:=cb4.cell 1;have c4l:=cb4.lt;have gb4:=HIB.o.fg.ext HX4.o;have g40:=gb4.cell 0;have g4f:=gb4.frozen 0;have g4l:=gb4.lt;have rb4:=HIB.o.fr.ext HX4.o;have r40:=rb4.cell 0;have r4f:=rb4.frozen 0;have r4l:=rb4.lt;have bb4:=HIB.o.fb.ext HX4.o;have b40:=bb4.cell 0;have b41:=bb4.cell 1;have b42:=bb4.cell 2;have b43:=bb4.cell 3;have b4l:=bb4.lt)
               | (refine ⟨trivial,?_⟩;gi_at_call 65;refine ((callsIn_wide.2 (HIN.o _ HX4.o)).inRound _).mono ?_;rintro e w5 ⟨rfl,hx5⟩
                  have HX5:=zh (HX4.o.t hx5);clear hx5;have cb5:=HCB.o.ext HX5.o;have c50:=cb5.cell 0;have c51:=cb5.cell 1;have c5l:=cb5.lt;have gb5:=HIB.o.fg.ext HX5.o;have g50:=gb5.cell 0;have g5f:=gb5.frozen 0;have g5l:=gb5.lt;have rb5:=HIB.o.fr.ext HX5.o;have r50:=rb5.cell 0;have r5f:=rb5.frozen 0;have r5l:=rb5.lt;have bb5:=HIB.o.fb.ext HX5.o;have b50:=bb5.cell 0;have b51:=bb5.cell 1;have b52:=bb5.cell 2;have b53:=bb5.cell 3;have b5l:=bb5.lt)
               | (refine ⟨trivial,?_⟩;gi_at_call 66;refine ((callsIn_wide.2 (HCM.o _ HX5.o)).inRound _).mono ?_;rintro e w6 ⟨rfl,hx6⟩
                  have HX6:=zh (HX5.o.t hx6);clear hx6;have cb6:=HCB.o.ext HX6.o;have c60:=cb6.cell 0;have c61:=cb6.cell 1;have c6l:=cb6.lt;have gb6:=HIB.o.fg.ext HX6.o;have g60:=gb6.cell 0;have g6f:=gb6.frozen 0;have g6l:=gb6.lt;have rb6:=HIB.o.fr.ext HX6.o;have r60:=rb6.cell 0;have r6f:=rb6.frozen 0;have r6l:=rb6.lt;have bb6:=HIB.o.fb.ext HX6.o;have b60:=bb6.cell 0;have b61:=bb6.cell 1;have b62:=bb6.cell 2;have b63:=bb6.cell 3;have b6l:=bb6.lt)
               | (refine ⟨trivial,?_⟩;gi_at_call 67;refine ((callsIn_wide.2 (HTK.o _ HX6.o)).inRound _).mono ?_;rintro e w7 ⟨⟨r7,rfl,hr7⟩,hx7⟩
                  have HX7:=zh (HX6.o.t hx7);clear hx7;have cb7:=HCB.o.ext HX7.o;have c70:=cb7.cell 0;have c71:=cb7.cell 1;have c7l:=cb7.lt;have gb7:=HIB.o.fg.ext HX7.o;have g70:=gb7.cell 0;have g7f:=gb7.frozen 0;have g7l:=gb7.lt;have rb7:=HIB.o.fr.ext HX7.o;have r70:=rb7.cell 0;have r7f:=rb7.frozen 0;have r7l:=rb7.lt;have bb7:=HIB.o.fb.ext HX7.o;have b70:=bb7.cell 0;have b71:=bb7.cell 1;have b72:=bb7.cell 2;have b73:=bb7.cell 3;have b7l:=bb7.lt;obtain⟨R7,e7,rfl,_,_⟩:=jaa.form hr7;have hr8:=(((jab.off gb7 hr7).cellB).imp (S':=fun b=>b≠W0.heap.size/\b≠W0.heap.size+1/\b≠w2.heap.size) (fun b hb=>⟨fun h=>HNC.o.1 _ HX7.o (h▸hb.2),fun h=>HNC.o.2 _ HX7.o (h▸hb.2),hb.1.2⟩) (Agree.refl _ _) (Nat.le_refl _)).imp (S':=fun b=>b≠W0.heap.size/\b≠W0.heap.size+1/\b≠w2.heap.size) (w':=w7.setCell ⟨w2.heap.size,0,none⟩ (.slice R7 (doL list ⟨x.x.goes,x.x.comes⟩).length e7)) (fun b hb=>hb) ((Agree.refl _ _).setCell (fun h=>h.2.2 rfl) _) (by simp);have hx8:Ext w (w7.setCell ⟨w2.heap.size,0,none⟩ (.slice R7 (doL list ⟨x.x.goes,x.x.comes⟩).length e7)):=Ext.setNew (HIB.o.fx.t HX7.o) (by show w.heap.size<=w2.heap.size;omega) _;have HR8:=zh hr8;have HX8:=zh hx8;clear hr7 hr8 hx8)
               | (refine ⟨trivial,?_⟩;gi_at_call 62;refine ((callsIn_wide.2 (HFW.o _ _ HX8.o HR8.o)).inRound _).mono ?_;rintro e w9 ⟨rfl,hx9⟩
                  have fb9:=((HIB.o.fb.ext HX7.o).far (p:=⟨w2.heap.size,0,none⟩) (by show w.heap.size≠w2.heap.size;omega) (.slice R7 (doL list ⟨x.x.goes,x.x.comes⟩).length e7)).ext hx9;have fr9:=((HIB.o.fr.ext HX7.o).far (p:=⟨w2.heap.size,0,none⟩) (by show w.heap.size+1≠w2.heap.size;omega) (.slice R7 (doL list ⟨x.x.goes,x.x.comes⟩).length e7)).ext hx9;have r90:=fr9.cell 0;have r9f:=fr9.frozen 0;have r9l:=fr9.lt;have FB9:=zh fb9;have FR9:=zh fr9;have HX9:=zh hx9;clear fb9 fr9 hx9)
               | (refine⟨trivial,?_⟩))
              refine⟨(((jew HX7.o).trans (KeepsOthers.setCell _ _ _)).trans (jew HX9.o)).trans (KeepsOthers.setCell _ _ _),HCF.o,by simpa using FR9.o.set_ 0 (.bool false),Ext.setNew (HX8.o.t HX9.o) (Nat.le_succ _) _⟩
            | true =>
              rw[hff] at HFW;have HCT:=zh (show jcn B.rules B.hist.reverse B.given=jcn B.rules (B.hist.reverse.drop (pre.length+1)) (doL list ⟨x.x.goes,x.x.comes⟩) from by rw[HCH.o,hc,HB2'.o,HBL.o,hff];rfl);have HFF:=zh (jeg hff)
              gi_wp2_with (first
               | (refine ⟨trivial,?_⟩;gi_at_call 64;refine ((callsIn_wide.2 (HC.o)).inRound _).mono ?_;rintro e w4 ⟨rfl,hx4⟩
                  have HX4:=zh (hx4);clear hx4;have cb4:=HCB.o.ext HX4.o;have c40:=cb4.cell 0;have c41:=cb4.cell 1;have c4l:=cb4.lt;have gb4:=HIB.o.fg.ext HX4.o;have g40:=gb4.cell 0;have g4f:=gb4.frozen 0;have g4l:=gb4.lt;have rb4:=HIB.o.fr.ext HX4.o;have r40:=rb4.cell 0;have r4f:=rb4.frozen 0;have r4l:=rb4.lt;have bb4:=HIB.o.fb.ext HX4.o;have b40:=bb4.cell 0;have b41:=bb4.cell 1;have b42:=bb4.cell 2;have b43:=bb4.cell 3;have b4l:=bb4.lt)
               | (refine ⟨trivial,?_⟩;gi_at_call 65;refine ((callsIn_wide.2 (HIN.o _ HX4.o)).inRound _).mono ?_;rintro e w5 ⟨rfl,hx5⟩
                  have HX5:=zh (HX4.o.t hx5);clear hx5;have cb5:=HCB.o.ext HX5.o;have c50:=cb5.cell 0;have c51:=cb5.cell 1;have c5l:=cb5.lt;have gb5:=HIB.o.fg.ext HX5.o;have g50:=gb5.cell 0;have g5f:=gb5.frozen 0;have g5l:=gb5.lt;have rb5:=HIB.o.fr.ext HX5.o;have r50:=rb5.cell 0;have r5f:=rb5.frozen 0;have r5l:=rb5.lt;have bb5:=HIB.o.fb.ext HX5.o;have b50:=bb5.cell 0;have b51:=bb5.cell 1;have b52:=bb5.cell 2;have b53:=bb5.cell 3;have b5l:=bb5.lt)
               | (refine ⟨trivial,?_⟩;gi_at_call 66;refine ((callsIn_wide.2 (HCM.o _ HX5.o)).inRound _).mono ?_;rintro e w6 ⟨rfl,hx6⟩
                  have HX6:=zh (HX5.o.t hx6);clear hx6;have cb6:=HCB.o.ext HX6.o;have c60:=cb6.cell 0;have c61:=cb6.cell 1;have c6l:=cb6.lt;have gb6:=HIB.o.fg.ext HX6.o;have g60:=gb6.cell 0;have g6f:=gb6.frozen 0;have g6l:=gb6.lt;have rb6:=HIB.o.fr.ext HX6.o;have r60:=rb6.cell 0;have r6f:=rb6.frozen 0;have r6l:=rb6.lt;have bb6:=HIB.o.fb.ext HX6.o;have b60:=bb6.cell 0;have b61:=bb6.cell 1;have b62:=bb6.cell 2;have b63:=bb6.cell 3;have b6l:=bb6.lt)
               | (refine ⟨trivial,?_⟩;gi_at_call 67;refine ((callsIn_wide.2 (HTK.o _ HX6.o)).inRound _).mono ?_;rintro e w7 ⟨⟨r7,rfl,hr7⟩,hx7⟩
                  have HX7:=zh (HX6.o.t hx7);clear hx7;have cb7:=HCB.o.ext HX7.o;have c70:=cb7.cell 0;have c71:=cb7.cell 1;have c7l:=cb7.lt;have gb7:=HIB.o.fg.ext HX7.o;have g70:=gb7.cell 0;have g7f:=gb7.frozen 0;have g7l:=gb7.lt;have rb7:=HIB.o.fr.ext HX7.o;have r70:=rb7.cell 0;have r7f:=rb7.frozen 0;have r7l:=rb7.lt;have bb7:=HIB.o.fb.ext HX7.o;have b70:=bb7.cell 0;have b71:=bb7.cell 1;have b72:=bb7.cell 2;have b73:=bb7.cell 3;have b7l:=bb7.lt;obtain⟨R7,e7,rfl,_,_⟩:=jaa.form hr7;have hr8:=(((jab.off gb7 hr7).cellB).imp (S':=fun b=>b≠W0.heap.size/\b≠W0.heap.size+1/\b≠w2.heap.size) (fun b hb=>⟨fun h=>HNC.o.1 _ HX7.o (h▸hb.2),fun h=>HNC.o.2 _ HX7.o (h▸hb.2),hb.1.2⟩) (Agree.refl _ _) (Nat.le_refl _)).imp (S':=fun b=>b≠W0.heap.size/\b≠W0.heap.size+1/\b≠w2.heap.size) (w':=w7.setCell ⟨w2.heap.size,0,none⟩ (.slice R7 (doL list ⟨x.x.goes,x.x.comes⟩).length e7)) (fun b hb=>hb) ((Agree.refl _ _).setCell (fun h=>h.2.2 rfl) _) (by simp);have hx8:Ext w (w7.setCell ⟨w2.heap.size,0,none⟩ (.slice R7 (doL list ⟨x.x.goes,x.x.comes⟩).length e7)):=Ext.setNew (HIB.o.fx.t HX7.o) (by show w.heap.size<=w2.heap.size;omega) _;have HR8:=zh hr8;have HX8:=zh hx8;clear hr7 hr8 hx8)
               | (refine ⟨trivial,?_⟩;gi_at_call 62;refine ((callsIn_wide.2 (HFW.o _ _ HX8.o HR8.o)).inRound _).mono ?_;rintro e w9 ⟨rfl,hx9⟩
                  have fb9:=((HIB.o.fb.ext HX7.o).far (p:=⟨w2.heap.size,0,none⟩) (by show w.heap.size≠w2.heap.size;omega) (.slice R7 (doL list ⟨x.x.goes,x.x.comes⟩).length e7)).ext hx9;have fr9:=((HIB.o.fr.ext HX7.o).far (p:=⟨w2.heap.size,0,none⟩) (by show w.heap.size+1≠w2.heap.size;omega) (.slice R7 (doL list ⟨x.x.goes,x.x.comes⟩).length e7)).ext hx9;have r90:=fr9.cell 0;have r9f:=fr9.frozen 0;have r9l:=fr9.lt;have FB9:=zh fb9;have FR9:=zh fr9;have HX9:=zh hx9;clear fb9 fr9 hx9)
               | (refine⟨trivial,?_⟩))
              have hks:KeepR (fun b=>b<W0.heap.size/\b≠w2.heap.size/\b≠w.heap.size+1) Wb w9:=((KeepR.of_ext HX7.o).trans ⟨by simp,(Agree.refl _ _).setCell (p:=⟨w2.heap.size,0,none⟩) (fun h=>h.2.1 rfl) (.slice R7 (doL list ⟨x.x.goes,x.x.comes⟩).length e7)⟩).trans (.of_ext HX9.o);refine⟨((jew HX7.o).trans (KeepsOthers.setCell _ _ _)).trans (jew HX9.o),hks,_,_,⟨FB9.o,FR9.o,?_,(HR8.o.imp (S':=fun b=>b≠W0.heap.size/\b≠W0.heap.size+1) (fun b hb=>⟨hb.1,hb.2.1⟩) (Agree.refl _ _) (Nat.le_refl _)).ext HX9.o,HX8.o.t HX9.o⟩,HFF.o.1,HFF.o.2.1,HFF.o.2.2,by rw[HPL.o];exact HCT.o,HKB.o.trans hks⟩;have h:=((HIB.o.fg.ext HX7.o).set_ 0 (.slice R7 (doL list ⟨x.x.goes,x.x.comes⟩).length e7)).ext HX9.o;simpa using h
end Go.Proofs.YthiflhkcpanaaaaGreatDoor
namespace Go.Proofs.YthiflhkcpanaaaaGreatDoor
open Go.RowKit
theorem j2i {l:List GA} (h:Facts l) (hl:l.length<=40):lite l:=⟨by omega,fun x hx=>Nat.le_trans (jm1 (h x hx)).1 (by omega)⟩
theorem jnr (B:GB) (v:Value) (w:World) {S:Nat->Prop} (hv:BaseR S w v B) :
  Calls Tryz.prog 15 #[v] w fun e w'=>e=.returned (.bool (jbx B))/\Ext w w':=by
 obtain⟨A1,c1,A2,c2,A3,c3,rfl⟩:=hv.form;obtain⟨W1,hW1⟩:=nm ((w.alloc (.cells #[.slice A1 B.rules.length c1,.int .i64 B.time,.slice A2 B.given.length c2,.slice A3 B.hist.length c3] 27)));have hx1:Ext w W1:=by rw[hW1];exact (Ext.refl _).alloc _
 have hb1:Blk W1 w.heap.size 27 #[.slice A1 B.rules.length c1,.int .i64 B.time,.slice A2 B.given.length c2,.slice A3 B.hist.length c3]:=by rw[hW1];exact Blk.new _ _ _
 have HX1:=zh hx1;have HB1:=zh hb1;obtain⟨a,b,c,h1,ha0,hb0,hc0⟩:=hv.low;injection h1 with h1
 simp only[Array.mk.injEq,List.cons.injEq] at h1;obtain⟨ea,_,eb,ec,_⟩:=h1;subst ea;subst eb;subst ec;have HRU:=zh ha0;have HG:=zh hb0;have HH:=zh hc0;have p0:=hb1.cell 0;have p1:=hb1.cell 1;have p2:=hb1.cell 2;have p3:=hb1.cell 3;have pl:=hb1.lt;have HFO:=zh (fun (W:World) (hW:Ext w W)=>jjo B.rules B.given _ _ W (HRU.o.ext hW) (HG.o.ext hW));clear hv hx1 hb1 ha0 hb0 hc0
 cases hn:numB B with
 | false =>
   rw[jo4 hn]
   have hcase:B.time<0∨(¬ B.time<0/\100000<B.time)∨(¬ B.time<0/\¬ 100000<B.time/\30<B.hist.length)∨(¬ B.time<0/\¬ 100000<B.time/\¬ 30<B.hist.length/\B.time<(B.hist.length:Int)):=by
    unfold numB at hn;simp only[Bool.and_eq_false_iff,decide_eq_false_iff_not] at hn;omega
   clear hn;rcases hcase with h1|⟨h1,h2⟩|⟨h1,h2,h3⟩|⟨h1,h2,h3,h4⟩
   all_goals try (have h3i:(30:Int)<(B.hist.length:Int):=by omega)
   all_goals try (have h3j:¬ (30:Int)<(B.hist.length:Int):=by omega)
   all_goals
    go_in;go_wp2_with fail
    rw[<- hW1];go_ret;exact⟨rfl,HX1.o⟩
 | true =>
   have hnum:¬ B.time<0/\¬ 100000<B.time/\¬ (30:Int)<(B.hist.length:Int)/\¬ B.time<(B.hist.length:Int):=by
    unfold numB at hn;simp only[Bool.and_eq_true,decide_eq_true_eq] at hn;omega
   obtain⟨h1,h2,h3,h4⟩:=hnum;have hlen:B.hist.length<=30:=by omega
   cases hf:fineB B.rules B.given with
   | false =>
     rw[jnd hf];rw[hf] at HFO;clear hn hf
     go_in
     go_wp2_with (first
      | (rw [<- hW1];go_at_call 68;refine (HFO.o _ HX1.o).mono ?_;rintro e w2 ⟨rfl,hx2⟩
         have HX2:=zh (HX1.o.t hx2);clear hx2)
      | fail)
     go_ret;exact⟨rfl,HX2.o⟩
   | true =>
     rw[jk7 hn hf];obtain⟨hgf,hga,hgl⟩:=jeg hf;rw[hf] at HFO;have HF:=zh hgf;have HA:=zh hga;have HL:=zh hgl;clear hn hf hgf hga hgl
     go_in
     go_wp2_with (first
      | (rw [<- hW1];go_at_call 68;refine (HFO.o _ HX1.o).mono ?_;rintro e w2 ⟨rfl,hx2⟩
         have hb2:=HB1.o.ext hx2;have s0:=hb2.cell 0;have s1:=hb2.cell 1;have s2:=hb2.cell 2;have s3:=hb2.cell 3;have sl:=hb2.lt;have HB2:=zh hb2;have HX2:=zh (HX1.o.t hx2);clear hb2 hx2)
      | fail)
     have hww:wrap64 ((B.hist.length:Int)-1)=(B.hist.length:Int)-1:=IntWalk.wrap64_in _ (by omega);go_wp2_with fail
     go_loopw [3,4] (fun l i wr=>∃ (list:List GA) (k:Nat) (A:Option Addr) (c:Nat),k<=B.hist.length/\l=.slice A list.length c/\i=.int .i64 ((k:Int)-1)/\J1 (jab Any wr (.slice A list.length c) list)/\J1 (Facts list/\Asc list/\list.length<=40)/\J1 (jcn B.rules B.hist.reverse B.given=jcn B.rules (B.hist.reverse.drop (B.hist.length-k)) list)/\Ext w2 wr) (fun _ i _=>(intOf i+1).toNat)
     case atStart=>exact⟨B.given,B.hist.length,A2,c2,Nat.le_refl _,rfl,by go_num,zh ((HG.o.ext HX2.o).imp (S':=Any) (fun _ _=>trivial) (Agree.refl _ _) (Nat.le_refl _)),zh ⟨HF.o,HA.o,HL.o⟩,zh (by rw[Nat.sub_self];rfl),Ext.refl _⟩
     case round =>
      obtain⟨list,k,A,c,hk,rfl,rfl,HLI,HFA,HCH,hx⟩:=hrel
      cases k with
      | zero =>
        rw[show (((0:Nat):Int)-1) = -1 from rfl];go_wp2;go_ret;have hce:=jsg (rules:=B.rules) (cs:=B.hist) (list:=list) (k:=B.hist.length-0) (by omega);exact⟨by rw[HCH.o,hce];rfl,HX2.o.t hx⟩
      | succ k =>
        rw[show (((k+1:Nat):Int)-1)=(k:Int) from by omega];have hkl:k<B.hist.length:=by omega
        have hk0:(0:Int)<=(k:Int):=by omega
        have hk1:(k:Int)<(B.hist.length:Int):=by omega
        obtain⟨b,off,x,v1,u1,rfl,hb,hxk,hv1,hu1,hc0,hc1⟩:=jan.at_ (ListK.ext (k:=jf9) HH.o (HX2.o.t hx)) hkl;have hbr:=HB2.o.ext hx;have s0:=hbr.cell 0;have s1:=hbr.cell 1;have s2:=hbr.cell 2;have s3:=hbr.cell 3;have sl:=hbr.lt;obtain⟨V1,vc,rfl,_,_⟩:=jaa.form hv1;obtain⟨U1,uc,rfl,_,_⟩:=jaa.form hu1;have HBR:=zh hbr;have HST:=zh (jo3 (rules:=B.rules) (hist:=B.hist) (list:=list) (k:=B.hist.length-(k+1)) (i:=k) (x:=x) (by omega) hxk);have HDR:=zh (show B.hist.length-(k+1)+1=B.hist.length-k from by omega);have HC:=zh (jf2 x _ _ wr hv1 hu1);have HXR:=zh (HX2.o.t hx);clear hbr hxk
        cases hc:jas x with
        | false =>
          rw[hc] at HC;have HCF:=zh (show jcn B.rules B.hist.reverse B.given=false from by rw[HCH.o,HST.o,hc];rfl)
          go_wp2_with (first
           | (go_at_call 69;refine HC.o.mono ?_;rintro e w3 ⟨rfl,hx3⟩
              have HX3:=zh (hx3);have hb3:=HBR.o.ext HX3.o;have s30:=hb3.cell 0;have s31:=hb3.cell 1;have s32:=hb3.cell 2;have s33:=hb3.cell 3;have s3l:=hb3.lt;obtain⟨q30,q31,q3l⟩:w3.cell? ⟨b,off+k*2,none⟩=some (.slice V1 x.comes.length vc)/\w3.cell? ⟨b,off+k*2+1,none⟩=some (.slice U1 x.goes.length uc)/\b<w3.heap.size:=⟨(World.cell?_of_block (w:=wr) (a:=⟨b,_,none⟩) (hx3.block b hb)).trans hc0,(World.cell?_of_block (w:=wr) (a:=⟨b,_,none⟩) (hx3.block b hb)).trans hc1,Nat.lt_of_lt_of_le hb hx3.size⟩)
           | fail)
          go_ret;exact⟨by rw[HCF.o];rfl,HXR.o.t HX3.o⟩
        | true =>
          rw[hc] at HC;obtain⟨k1,k2,_⟩:=jct hc;have HBK:=zh (fun (W:World) (hW:Ext wr W)=>jof list x _ _ _ W (HLI.o.ext hW) (hv1.ext hW) (hu1.ext hW) (j2i HFA.o.1 HFA.o.2.2) (jg6 k2 (by omega)));have HFN:=zh (fun (W:World) (r:Value) (hW:Ext wr W) {Z:Nat->Prop} (hr:jab Z W r (backL list x).1)=>jjo B.rules (backL list x).1 _ _ W (HRU.o.ext (HXR.o.t hW)) hr);clear k1 k2
          cases hfl:(backL list x).2 with
          | false =>
            rw[hfl] at HBK;have HCF:=zh (show jcn B.rules B.hist.reverse B.given=false from by rw[HCH.o,HST.o,hc,hfl];rfl)
            go_wp2_with (first
             | (go_at_call 69;refine HC.o.mono ?_;rintro e w3 ⟨rfl,hx3⟩
                have HX3:=zh (hx3);have hb3:=HBR.o.ext HX3.o;have s30:=hb3.cell 0;have s31:=hb3.cell 1;have s32:=hb3.cell 2;have s33:=hb3.cell 3;have s3l:=hb3.lt;obtain⟨q30,q31,q3l⟩:w3.cell? ⟨b,off+k*2,none⟩=some (.slice V1 x.comes.length vc)/\w3.cell? ⟨b,off+k*2+1,none⟩=some (.slice U1 x.goes.length uc)/\b<w3.heap.size:=⟨(World.cell?_of_block (w:=wr) (a:=⟨b,_,none⟩) (hx3.block b hb)).trans hc0,(World.cell?_of_block (w:=wr) (a:=⟨b,_,none⟩) (hx3.block b hb)).trans hc1,Nat.lt_of_lt_of_le hb hx3.size⟩)
             | (go_at_call 70;refine (HBK.o _ HX3.o).mono ?_;rintro e w4 ⟨⟨r4,rfl,hr4⟩,hx4⟩
                obtain⟨R4,e4,rfl,_,_⟩:=jaa.form hr4;have HR4:=zh hr4;have HX4:=zh (HX3.o.t hx4);have hb4:=HBR.o.ext HX4.o;have s40:=hb4.cell 0;have s41:=hb4.cell 1;have s42:=hb4.cell 2;have s43:=hb4.cell 3;have s4l:=hb4.lt)
             | fail)
            go_ret;exact⟨by rw[HCF.o];rfl,HXR.o.t HX4.o⟩
          | true =>
            rw[hfl] at HBK
            cases hff:fineB B.rules (backL list x).1 with
            | false =>
              rw[hff] at HFN;have HCF:=zh (show jcn B.rules B.hist.reverse B.given=false from by rw[HCH.o,HST.o,hc,hfl,hff];rfl)
              go_wp2_with (first
               | (go_at_call 69;refine HC.o.mono ?_;rintro e w3 ⟨rfl,hx3⟩
                  have HX3:=zh (hx3);have hb3:=HBR.o.ext HX3.o;have s30:=hb3.cell 0;have s31:=hb3.cell 1;have s32:=hb3.cell 2;have s33:=hb3.cell 3;have s3l:=hb3.lt;obtain⟨q30,q31,q3l⟩:w3.cell? ⟨b,off+k*2,none⟩=some (.slice V1 x.comes.length vc)/\w3.cell? ⟨b,off+k*2+1,none⟩=some (.slice U1 x.goes.length uc)/\b<w3.heap.size:=⟨(World.cell?_of_block (w:=wr) (a:=⟨b,_,none⟩) (hx3.block b hb)).trans hc0,(World.cell?_of_block (w:=wr) (a:=⟨b,_,none⟩) (hx3.block b hb)).trans hc1,Nat.lt_of_lt_of_le hb hx3.size⟩)
               | (go_at_call 70;refine (HBK.o _ HX3.o).mono ?_;rintro e w4 ⟨⟨r4,rfl,hr4⟩,hx4⟩
                  obtain⟨R4,e4,rfl,_,_⟩:=jaa.form hr4;have HR4:=zh hr4;have HX4:=zh (HX3.o.t hx4);have hb4:=HBR.o.ext HX4.o;have s40:=hb4.cell 0;have s41:=hb4.cell 1;have s42:=hb4.cell 2;have s43:=hb4.cell 3;have s4l:=hb4.lt)
               | (go_at_call 68;refine (HFN.o _ _ HX4.o HR4.o).mono ?_;rintro e w5 ⟨rfl,hx5⟩
                  have HX5:=zh (HX4.o.t hx5);have hb5:=HBR.o.ext HX5.o;have s50:=hb5.cell 0;have s51:=hb5.cell 1;have s52:=hb5.cell 2;have s53:=hb5.cell 3;have s5l:=hb5.lt)
               | fail)
              go_ret;exact⟨by rw[HCF.o];rfl,HXR.o.t HX5.o⟩
            | true =>
              rw[hff] at HFN;have HCT:=zh (show jcn B.rules B.hist.reverse B.given=jcn B.rules (B.hist.reverse.drop (B.hist.length-k)) (backL list x).1 from by rw[HCH.o,HST.o,hc,hfl,hff,HDR.o];rfl);have HFF:=zh (jeg hff);have hwk:wrap64 ((k:Int)-1)=(k:Int)-1:=IntWalk.wrap64_in _ (by omega)
              go_wp2_with (first
               | (go_at_call 69;refine HC.o.mono ?_;rintro e w3 ⟨rfl,hx3⟩
                  have HX3:=zh (hx3);have hb3:=HBR.o.ext HX3.o;have s30:=hb3.cell 0;have s31:=hb3.cell 1;have s32:=hb3.cell 2;have s33:=hb3.cell 3;have s3l:=hb3.lt;obtain⟨q30,q31,q3l⟩:w3.cell? ⟨b,off+k*2,none⟩=some (.slice V1 x.comes.length vc)/\w3.cell? ⟨b,off+k*2+1,none⟩=some (.slice U1 x.goes.length uc)/\b<w3.heap.size:=⟨(World.cell?_of_block (w:=wr) (a:=⟨b,_,none⟩) (hx3.block b hb)).trans hc0,(World.cell?_of_block (w:=wr) (a:=⟨b,_,none⟩) (hx3.block b hb)).trans hc1,Nat.lt_of_lt_of_le hb hx3.size⟩)
               | (go_at_call 70;refine (HBK.o _ HX3.o).mono ?_;rintro e w4 ⟨⟨r4,rfl,hr4⟩,hx4⟩
                  obtain⟨R4,e4,rfl,_,_⟩:=jaa.form hr4;have HR4:=zh hr4;have HX4:=zh (HX3.o.t hx4);have hb4:=HBR.o.ext HX4.o;have s40:=hb4.cell 0;have s41:=hb4.cell 1;have s42:=hb4.cell 2;have s43:=hb4.cell 3;have s4l:=hb4.lt)
               | (go_at_call 68;refine (HFN.o _ _ HX4.o HR4.o).mono ?_;rintro e w5 ⟨rfl,hx5⟩
                  have HX5:=zh (HX4.o.t hx5);have hb5:=HBR.o.ext HX5.o;have s50:=hb5.cell 0;have s51:=hb5.cell 1;have s52:=hb5.cell 2;have s53:=hb5.cell 3;have s5l:=hb5.lt)
               | fail)
              go_roundw
              case rel=>exact⟨_,k,_,_,by omega,rfl,by go_num,zh ((HR4.o.imp (S':=Any) (fun _ _=>trivial) (Agree.refl _ _) (Nat.le_refl _)).ext hx5),HFF,HCT,hx.t HX5.o⟩
              case measure=>first|(simp[intOf];done)|(simp[intOf];omega)
end Go.Proofs.YthiflhkcpanaaaaGreatDoor
