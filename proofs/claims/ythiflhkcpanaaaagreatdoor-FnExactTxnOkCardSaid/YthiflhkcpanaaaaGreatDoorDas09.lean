/- Own texts, joined. -/
import Derived.Test.YthiflhkcpanaaaaGreatDoorDas08
set_option linter.unusedSimpArgs false
set_option linter.unusedVariables false
set_option maxHeartbeats 8000000
set_option maxRecDepth 100000
namespace Go.Proofs.YthiflhkcpanaaaaGreatDoor
open Go.RowKit
theorem jts {ts fs:List GT} {k:Nat} {t f:GT} {b:LB} (ht:ts[k]? = some t) (hf:fs[k]? = some f) :
  jch (ts.drop k) (fs.drop k) b=if (jcw t f b).2 then jch (ts.drop (k+1)) (fs.drop (k+1)) (jcw t f b).1 else ((jcw t f b).1,false):=by
 rw[jbq ht,jbq hf];rfl
theorem jwp {ts fs:List GT} {k:Nat} {b:LB} (h:ts.length<=k):jch (ts.drop k) (fs.drop k) b=(b,true):=by
 rw[List.drop_eq_nil_of_le h];cases fs.drop k<;>rfl
def Bound (V:Nat->Prop) (N:Nat) (w:World) (v u:Value) (b:LB):Prop:=StrsR (fun i=>(V i/\i<N)∨N+1+1+1+1<=i) w v b.ns/\StrsR (fun i=>(V i/\i<N)∨N+1+1+1+1<=i) w u b.vs/\b.ok
theorem Bound.ext {V:Nat->Prop} {N:Nat} {w w':World} {v u:Value} {b:LB} (h:Bound V N w v u b) (hx:Ext w w'):Bound V N w' v u b:=⟨h.1.ext hx,h.2.1.ext hx,h.2.2⟩
theorem Bound.set {V:Nat->Prop} {N:Nat} {w:World} {v u:Value} {b:LB} (h:Bound V N w v u b) {p:Addr} (h1:N<=p.block) (h2:p.block<N+1+1+1+1) (z:Value):Bound V N (w.setCell p z) v u b:=by
 have hag:Agree (fun i=>(V i/\i<N)∨N+1+1+1+1<=i) w (w.setCell p z):=(Agree.refl _ _).setCell (fun hb=>by rcases hb with hb|hb<;>omega) z;exact⟨h.1.imp (fun _ h=>h) hag (by go_size),h.2.1.imp (fun _ h=>h) hag (by go_size),h.2.2⟩
theorem jtt (a f:GA) (b:LB) (v u x y:Value) (w:World) {S T V:Nat->Prop} (hv:jad S w v a.args) (hu:jad T w u f.args) (hx:StrsR V w x b.ns) (hy:StrsR V w y b.vs) (hok:b.ok) (hns:b.ns.length+a.args.length<=1000000) :
  Calls Tryz.prog 215 #[.agg #[.string a.n,v],.agg #[.string f.n,u],.agg #[x,y]] w fun e w'=>(∃ x' y',e=.returned (.tuple #[.agg #[x',y'],.bool (jcz a f b).2])/\StrsR (fun i=>(V i/\i<w.heap.size)∨w.heap.size<=i) w' x' (jcz a f b).1.ns/\StrsR (fun i=>(V i/\i<w.heap.size)∨w.heap.size<=i) w' y' (jcz a f b).1.vs/\(jcz a f b).1.ok)/\Ext w w':=by
 obtain⟨A,c,rfl,hc1,hc2⟩:=jaa.form hv;obtain⟨B,d,rfl,hd1,hd2⟩:=jaa.form hu;obtain⟨X,e,rfl,he1,he2⟩:=jaa.form hx;obtain⟨Y,g,rfl,hg1,hg2⟩:=jaa.form hy;have HV:=zh hv;have HU:=zh hu;obtain⟨W0,hW0⟩:=nm ((((w.alloc (.cells #[.string a.n,.slice A a.args.length c] 69)).alloc (.cells #[.string f.n,.slice B f.args.length d] 69)).alloc (.cells #[.slice X b.ns.length e,.slice Y b.vs.length g] 204)).alloc (.cells #[.slice none 0 0,.slice none 0 0] 204));have hB0:Blk W0 w.heap.size 69 #[.string a.n,.slice A a.args.length c]:=by rw[hW0];exact (((Blk.new _ _ _).alloc _).alloc _).alloc _
 have hB1:Blk W0 (w.heap.size+1) 69 #[.string f.n,.slice B f.args.length d]:=by rw[hW0];exact ((Blk.at_new (by simp)).alloc _).alloc _
 have hB2:Blk W0 (w.heap.size+1+1) 204 #[.slice X b.ns.length e,.slice Y b.vs.length g]:=by rw[hW0];exact (Blk.at_new (by simp)).alloc _
 have hB3:Blk W0 (w.heap.size+1+1+1) 204 #[.slice none 0 0,.slice none 0 0]:=by rw[hW0];exact Blk.at_new (by simp)
 have HE0:=zh (show Ext w W0 from by rw[hW0];exact ((((Ext.refl _).alloc _).alloc _).alloc _).alloc _);have hz:W0.heap.size=w.heap.size+1+1+1+1:=by rw[hW0];simp
 have HBD:=zh (show Bound V w.heap.size W0 (.slice X b.ns.length e) (.slice Y b.vs.length g) b from⟨(hx.impL (fun i hV h=>.inl ⟨hV,h⟩) (Agree.of_ext HE0.o) HE0.o.size),(hy.impL (fun i hV h=>.inl ⟨hV,h⟩) (Agree.of_ext HE0.o) HE0.o.size),hok⟩);have HBW:=zh (show Bound V w.heap.size w (.slice X b.ns.length e) (.slice Y b.vs.length g) b from⟨hx.impL (fun i hV h=>.inl ⟨hV,h⟩) (Agree.refl _ _) (Nat.le_refl _),hy.impL (fun i hV h=>.inl ⟨hV,h⟩) (Agree.refl _ _) (Nat.le_refl _),hok⟩);have HW0:=zh hW0;have HZ:=zh hz;have HB0:=zh hB0;have HB1:=zh hB1;have HB2:=zh hB2;have HB3:=zh hB3;by_cases hne:a.n=f.n/\a.args.length=f.args.length
 . obtain ⟨hn1, hl1⟩ := hne
   have HM:=zh (show jcz a f b=jch a.args f.args b from if_pos ⟨hn1,hl1⟩);have g1:(a.n.toList == f.n.toList)=true:=by rw[hn1];exact beq_self_eq_true _
   have g2:(((a.args.length:Nat):Int) != ((f.args.length:Nat):Int))=false:=by rw[hl1];simp
   have HL1:=zh hl1;clear hv hu hx hy hok hn1 hl1 hB0 hB1 hB2 hB3
   go_in;go_wp2;try simp only[g2]
   rw[<- HW0.o];clear hW0 hz;go_loopw [8] (fun i wr=>∃ (k:Nat) (b':LB) (vx vy:Value),k<=a.args.length/\i=.int .i64 k/\J1 (jch a.args f.args b=jch (a.args.drop k) (f.args.drop k) b')/\J1 (b'.ns.length<=b.ns.length+k)/\J1 (Blk wr (w.heap.size+1+1) 204 #[vx,vy])/\J1 (Bound V w.heap.size wr vx vy b')/\J1 (Blk wr (w.heap.size+1+1+1) 204 #[.slice none 0 0,.slice none 0 0])/\J1 (Below (w.heap.size+1+1) W0 wr)) (fun i _=>a.args.length-(intOf i).toNat)
   case atStart=>exact⟨0,b,_,_,Nat.zero_le _,rfl,zh rfl,zh (Nat.le_refl _),HB2,HBD,HB3,zh (Below.refl _ _)⟩
   case round =>
    obtain⟨k,b',vx,vy,hk,rfl,hml,hnl,hbb,hbd,hbr,hbel⟩:=hrel;have hk0:(0:Int)<=(k:Int):=by omega
    have hbsz:=hbel.o.size;rw[HZ.o] at hbsz;have hxw:Ext w wr:=Below.trans HE0.o (hbel.o.mono (by omega));obtain⟨X1,e1,rfl,hx11,hx12⟩:=jaa.form hbd.o.1;obtain⟨Y1,g1',rfl,hy11,hy12⟩:=jaa.form hbd.o.2.1;have hb0:=HB0.o.below hbel.o (by omega);have hb1:=HB1.o.below hbel.o (by omega);have q0:=hb0.cell 0;have q1:=hb0.cell 1;have p0:=hb1.cell 0;have p1:=hb1.cell 1;have o0:=hbb.o.cell 0;have o1:=hbb.o.cell 1;have of0:=hbb.o.frozen 0;have of1:=hbb.o.frozen 1;have z0:=hbr.o.cell 0;have z1:=hbr.o.cell 1;have zf0:=hbr.o.frozen 0;have zf1:=hbr.o.frozen 1;have hs0:=hb0.lt;have hs1:=hb1.lt;have hs2:=hbb.o.lt;have hs3:=hbr.o.lt;have HXW:=zh hxw;by_cases hlt:k<a.args.length
    . have hk1 : (k : Int)<(a.args.length:Int):=by omega
      have hlf:k<f.args.length:=by have:=HL1.o;omega
      have hk2':(k:Int)<(f.args.length:Int):=by omega
      obtain⟨bb,off,t,rfl,hbbl,htk,hts,hc0,hc1'⟩:=jad.at_ HV.o hlt;obtain⟨bc,off2,ft,rfl,hbcl,hfk,hfs,hd0,hd1'⟩:=jad.at_ HU.o hlf;have r0:=(hxw.cells.1 bb (off+k*2) hbbl).trans hc0;have r1:=(hxw.cells.1 bb (off+k*2+1) hbbl).trans hc1';have u1:=(hxw.cells.1 bc (off2+k*2+1) hbcl).trans hd1';have hlb:bb<wr.heap.size:=Nat.lt_of_lt_of_le hbbl hxw.size;have hlc:bc<wr.heap.size:=Nat.lt_of_lt_of_le hbcl hxw.size;have hstep:=jts (b:=b') htk hfk;clear htk hfk hc0 hc1' hd0 hd1' hb0 hb1 hxw;cases htv:t.v
      . rw [htv] at r0
        by_cases heq:t.n=ft.n
        . have HN:=zh (show jch a.args f.args b=jch (a.args.drop (k+1)) (f.args.drop (k+1)) b' from by rw[hml.o,hstep];unfold jcw;simp[htv,heq])
          have g3:(t.n.toList == ft.n.toList)=true:=by rw[heq];exact beq_self_eq_true _
          clear hstep heq htv;go_wp2;go_roundw
          case rel=>exact⟨k+1,b',_,_,by omega,by go_num,HN,zh (by have:=hnl.o;omega),hbb,hbd,hbr,hbel⟩
          case measure=>simp[intOf];omega
        have HF:=zh (show jcz a f b=(b',false) from by rw[HM.o,hml.o,hstep];unfold jcw;simp[htv,heq]);have g3:(t.n.toList == ft.n.toList)=false:=jdh heq;clear hstep heq htv hml;go_wp2;refine bodyPost_ret (v:=.tuple #[.agg #[.slice X1 b'.ns.length e1,.slice Y1 b'.vs.length g1'],.bool false]) (by simp[results,Tryz.results215,go_sem,z0,z1]) rfl ?_;have h1:=((hbd.o.set (p:=⟨w.heap.size+1+1+1,0,none⟩) (by show w.heap.size<=w.heap.size+1+1+1;omega) (by show w.heap.size+1+1+1<_;omega) (.slice X1 b'.ns.length e1)).set (p:=⟨w.heap.size+1+1+1,1,none⟩) (by show w.heap.size<=w.heap.size+1+1+1;omega) (by show w.heap.size+1+1+1<_;omega) (.slice Y1 b'.vs.length g1'))
        rw[HF.o];exact⟨⟨_,_,rfl,h1.1.sub (fun i h=>h.imp id (fun h=>by omega)),h1.2.1.sub (fun i h=>h.imp id (fun h=>by omega)),h1.2.2⟩,Ext.setNew (a:=w) (Ext.setNew HXW.o (by show w.heap.size<=w.heap.size+1+1+1;omega) _) (by show w.heap.size<=w.heap.size+1+1+1;omega) _⟩
      rw[htv] at r0
      cases hg:b'.get t.n with
      | some z =>
        have HGT:=zh (fun (W:World) (hW:Ext wr W)=>show Calls Tryz.prog 164 #[.agg #[.slice X1 b'.ns.length e1,.slice Y1 b'.vs.length g1'],.string t.n] W fun e w'=>e=.returned (.tuple #[.string z,.bool true])/\Ext W w' from by
         have h:=jhr b' _ _ t.n W (hbd.o.1.ext hW) (hbd.o.2.1.ext hW) hbd.o.2.2;rw[hg] at h;exact h)
        have hst2:jcw t ft b'=(b',decide (z=ft.n)):=by unfold jcw;rw[if_pos htv,hg]
        rw[hst2] at hstep;have HST:=zh hstep;clear hstep htv hg hst2;have HSG:=zh (fun (W:World) (hW:Ext wr W)=>And.intro ((hW.cells.1 (w.heap.size+1+1) 0 hs2).trans o0) (And.intro ((hW.cells.1 (w.heap.size+1+1) 1 hs2).trans o1) (And.intro ((hW.cells.1 w.heap.size 1 hs0).trans q1) ((hW.cells.1 bb (off+k*2+1) hlb).trans r1))));go_wp2_with (fail)
        go_region_held3 (fun w'=>w'.cell? ⟨w.heap.size+1+1,0,none⟩=some (.slice X1 b'.ns.length e1)/\w'.cell? ⟨w.heap.size+1+1,1,none⟩=some (.slice Y1 b'.vs.length g1')/\w'.cell? ⟨w.heap.size,1,none⟩=some (.slice (some ⟨bb,off,none⟩) a.args.length c)/\w'.cell? ⟨bb,off+k*2+1,none⟩=some (.string t.n))
         (first|exact HSG.o _ (Ext.refl wr).drew|exact HS4.o)
         ((go_at_call 164;refine (HGT.o _ (Ext.refl wr).drew).mono ?_;rintro e w4 ⟨rfl,hx4⟩
           have HX4:=zh (show Ext wr w4 from (Ext.refl wr).drew.t hx4);have HS4:=zh (HSG.o w4 HX4.o);clear hx4))
        have k0:=(HX4.o.cells.1 w.heap.size 1 hs0).trans q1;have k1':=(HX4.o.cells.1 (w.heap.size+1) 1 hs1).trans p1;have k2:=(HX4.o.cells.1 bc (off2+k*2+1) hlc).trans u1;have k3:=(HX4.o.cells.1 bb (off+k*2+1) hlb).trans r1;have hbb4:=hbb.o.ext HX4.o;have k4:=hbb4.cell 0;have k5:=hbb4.cell 1;have k6:=hbb4.frozen 0;have k7:=hbb4.frozen 1;have hbr4:=hbr.o.ext HX4.o;have y0:=hbr4.cell 0;have y1:=hbr4.cell 1;have yf0:=hbr4.frozen 0;have yf1:=hbr4.frozen 1;have hl40:w.heap.size<w4.heap.size:=Nat.lt_of_lt_of_le hs0 HX4.o.size;have hl41:w.heap.size+1<w4.heap.size:=Nat.lt_of_lt_of_le hs1 HX4.o.size;have hl42:=hbb4.lt;have hl43:=hbr4.lt;have HBB4:=zh hbb4;have HBR4:=zh hbr4;clear hbb4 hbr4 q1 p1 u1 o0 o1 z0 z1;by_cases heq:z=ft.n
        . have HN:=zh (show jch a.args f.args b=jch (a.args.drop (k+1)) (f.args.drop (k+1)) b' from by rw[hml.o,HST.o];simp[heq])
          have g3:(z.toList == ft.n.toList)=true:=by rw[heq];exact beq_self_eq_true _
          clear heq;go_wp2;go_roundw
          case rel=>exact⟨k+1,b',_,_,by omega,by go_num,HN,zh (by have:=hnl.o;omega),HBB4,zh (hbd.o.ext HX4.o),HBR4,zh (Below.trans hbel.o (Below.mono HX4.o (by omega)))⟩
          case measure=>simp[intOf];omega
        . have HF:=zh (show jcz a f b=(b',false) from by rw[HM.o,hml.o,HST.o];simp[heq])
          have g3:(z.toList == ft.n.toList)=false:=jdh heq;clear heq hml;go_wp2;refine bodyPost_ret (v:=.tuple #[.agg #[.slice X1 b'.ns.length e1,.slice Y1 b'.vs.length g1'],.bool false]) (by simp[results,Tryz.results215,go_sem,y0,y1]) rfl ?_;have h1:=(((hbd.o.ext HX4.o).set (p:=⟨w.heap.size+1+1+1,0,none⟩) (by show w.heap.size<=w.heap.size+1+1+1;omega) (by show w.heap.size+1+1+1<_;omega) (.slice X1 b'.ns.length e1)).set (p:=⟨w.heap.size+1+1+1,1,none⟩) (by show w.heap.size<=w.heap.size+1+1+1;omega) (by show w.heap.size+1+1+1<_;omega) (.slice Y1 b'.vs.length g1'))
          rw[HF.o];exact⟨⟨_,_,rfl,h1.1.sub (fun i h=>h.imp id (fun h=>by omega)),h1.2.1.sub (fun i h=>h.imp id (fun h=>by omega)),h1.2.2⟩,Ext.setNew (a:=w) (Ext.setNew (HXW.o.t HX4.o) (by show w.heap.size<=w.heap.size+1+1+1;omega) _) (by show w.heap.size<=w.heap.size+1+1+1;omega) _⟩
      | none =>
        have HGT:=zh (fun (W:World) (hW:Ext wr W)=>show Calls Tryz.prog 164 #[.agg #[.slice X1 b'.ns.length e1,.slice Y1 b'.vs.length g1'],.string t.n] W fun e w'=>e=.returned (.tuple #[.string ⟨#[]⟩,.bool false])/\Ext W w' from by
         have h:=jhr b' _ _ t.n W (hbd.o.1.ext hW) (hbd.o.2.1.ext hW) hbd.o.2.2;rw[hg] at h;exact h)
        have hst2:jcw t ft b'=(b'.plus t.n ft.n,true):=by unfold jcw;rw[if_pos htv,hg]
        rw[hst2] at hstep;have HN:=zh (show jch a.args f.args b=jch (a.args.drop (k+1)) (f.args.drop (k+1)) (b'.plus t.n ft.n) from by rw[hml.o,hstep];rfl);clear hstep htv hg hst2;have HSG:=zh (fun (W:World) (hW:Ext wr W)=>And.intro ((hW.cells.1 (w.heap.size+1+1) 0 hs2).trans o0) (And.intro ((hW.cells.1 (w.heap.size+1+1) 1 hs2).trans o1) (And.intro ((hW.cells.1 w.heap.size 1 hs0).trans q1) ((hW.cells.1 bb (off+k*2+1) hlb).trans r1))));go_wp2_with (fail)
        go_region_held3 (fun w'=>w'.cell? ⟨w.heap.size+1+1,0,none⟩=some (.slice X1 b'.ns.length e1)/\w'.cell? ⟨w.heap.size+1+1,1,none⟩=some (.slice Y1 b'.vs.length g1')/\w'.cell? ⟨w.heap.size,1,none⟩=some (.slice (some ⟨bb,off,none⟩) a.args.length c)/\w'.cell? ⟨bb,off+k*2+1,none⟩=some (.string t.n))
         (first|exact HSG.o _ (Ext.refl wr).drew|exact HS4.o)
         ((go_at_call 164;refine (HGT.o _ (Ext.refl wr).drew).mono ?_;rintro e w4 ⟨rfl,hx4⟩
           have HX4:=zh (show Ext wr w4 from (Ext.refl wr).drew.t hx4);have HS4:=zh (HSG.o w4 HX4.o);clear hx4))
        have k0:=(HX4.o.cells.1 w.heap.size 1 hs0).trans q1;have k1':=(HX4.o.cells.1 (w.heap.size+1) 1 hs1).trans p1;have k2:=(HX4.o.cells.1 bc (off2+k*2+1) hlc).trans u1;have k3:=(HX4.o.cells.1 bb (off+k*2+1) hlb).trans r1;have hbb4:=hbb.o.ext HX4.o;have k4:=hbb4.cell 0;have k5:=hbb4.cell 1;have k6:=hbb4.frozen 0;have k7:=hbb4.frozen 1;have hbr4:=hbr.o.ext HX4.o;have y0:=hbr4.cell 0;have y1:=hbr4.cell 1;have yf0:=hbr4.frozen 0;have yf1:=hbr4.frozen 1;have hl40:w.heap.size<w4.heap.size:=Nat.lt_of_lt_of_le hs0 HX4.o.size;have hl41:w.heap.size+1<w4.heap.size:=Nat.lt_of_lt_of_le hs1 HX4.o.size;have hl42:=hbb4.lt;have hl43:=hbr4.lt;have HBB4:=zh hbb4;have HBR4:=zh hbr4;clear hbb4 hbr4 q1 p1 u1 o0 o1 z0 z1;have hnl2:=hnl.o;have HWI:=zh (fun (W:World) (hW:Ext w4 W)=>jri b' _ _ t.n ft.n W (hbd.o.1.ext (HX4.o.t hW)) (hbd.o.2.1.ext (HX4.o.t hW)) hbd.o.2.2 (by omega) hts hfs);have HSW:=zh (fun (W:World) (hW:Ext w4 W)=>And.intro ((hW.cells.1 w.heap.size 1 hl40).trans k0) (And.intro ((hW.cells.1 (w.heap.size+1) 1 hl41).trans k1') (And.intro ((hW.cells.1 bb (off+k*2+1) (Nat.lt_of_lt_of_le hlb HX4.o.size)).trans k3) ((hW.cells.1 bc (off2+k*2+1) (Nat.lt_of_lt_of_le hlc HX4.o.size)).trans k2))));have hnb:w.heap.size+1+1≠bb:=by omega
        have hnc:w.heap.size+1+1≠bc:=by omega
        go_wp2_with (fail)
        refine wp_region_noPanic ?_;refine wp_region_held_drew (S:=(fun w'=>w'.cell? ⟨w.heap.size,1,none⟩=some (.slice (some ⟨bb,off,none⟩) a.args.length c)/\w'.cell? ⟨w.heap.size+1,1,none⟩=some (.slice (some ⟨bc,off2,none⟩) f.args.length d)/\w'.cell? ⟨bb,off+k*2+1,none⟩=some (.string t.n)/\w'.cell? ⟨bc,off2+k*2+1,none⟩=some (.string ft.n))) (by kernel_rfl) ?_ (fun hHeld=>?_)
        . (try dsimp only);(first|exact HSW.o _ (Ext.refl w4).drew|exact HS5.o|exact HS6.o)
        refine tq 1 rfl ?_;(try simp only[Act.put,stz])
        refine tq 2 rfl ?_;(try simp only[Act.put,stz])
        refine tq 3 rfl ?_;(try simp only[Act.put,stz])
        refine tq 4 rfl ?_;(try simp only[Act.put,stz])
        refine tq 5 rfl ?_;(try simp only[Act.put,stz])
        refine tq 6 rfl ?_;(try simp only[Act.put,stz])
        refine tq 7 rfl ?_;(try simp only[Act.put,stz])
        refine tq 8 rfl ?_;(try simp only[Act.put,stz])
        refine tq 9 rfl ?_;(try simp only[Act.put,stz])
        refine tq 10 rfl ?_;(try simp only[Act.put,stz])
        refine tq 11 rfl ?_;(try simp only[Act.put,stz])
        refine tq 12 rfl ?_;(try simp only[Act.put,stz])
        refine rd1 0 rfl (fun K hK=>?_)
        . go_simp
          refine hK.out _ _ ?_ (fun hNew=>?_)
          . (try dsimp only);(first|exact HSW.o _ (Ext.refl w4).drew|exact HS5.o|exact HS6.o)
          clear hK K hHeld;have hHeld:=hNew;clear hNew;try simp only[Act.put,stz]
          refine rd1 13 rfl (fun K hK=>?_)
          . go_simp
            go_at_call 253;refine (HWI.o _ (Ext.refl w4).drew).mono ?_;rintro e w5 ⟨⟨v5,u5',rfl,hv5,hu5⟩,hx5⟩
            have HX5:=zh (show Ext w4 w5 from (Ext.refl w4).drew.t hx5);obtain⟨X5,e5,rfl,hx51,hx52⟩:=jaa.form hv5;obtain⟨Y5,g5,rfl,hy51,hy52⟩:=jaa.form hu5;have HV5:=zh (show StrsR (From w4.heap.size) w5 (.slice X5 (b'.plus t.n ft.n).ns.length e5) _ from hv5);have HU5:=zh (show StrsR (From w4.heap.size) w5 (.slice Y5 (b'.plus t.n ft.n).vs.length g5) _ from hu5);have hbb5:=HBB4.o.ext HX5.o;have j0:=hbb5.cell 0;have j1:=hbb5.cell 1;have j2:=hbb5.frozen 0;have j3:=hbb5.frozen 1;have hl52:=hbb5.lt;have HS5:=zh (HSW.o w5 HX5.o)
            have HS6:=zh (show _/\_/\_/\_ from And.intro ((World.cell?_setCell_far _ ⟨w.heap.size+1+1,1,none⟩ ⟨w.heap.size,1,none⟩ (.slice Y5 (b'.plus t.n ft.n).vs.length g5) (by show w.heap.size+1+1≠w.heap.size;omega)).trans ((World.cell?_setCell_far w5 ⟨w.heap.size+1+1,0,none⟩ ⟨w.heap.size,1,none⟩ (.slice X5 (b'.plus t.n ft.n).ns.length e5) (by show w.heap.size+1+1≠w.heap.size;omega)).trans HS5.o.1))
             (And.intro ((World.cell?_setCell_far _ ⟨w.heap.size+1+1,1,none⟩ ⟨w.heap.size+1,1,none⟩ (.slice Y5 (b'.plus t.n ft.n).vs.length g5) (by show w.heap.size+1+1≠w.heap.size+1;omega)).trans ((World.cell?_setCell_far w5 ⟨w.heap.size+1+1,0,none⟩ ⟨w.heap.size+1,1,none⟩ (.slice X5 (b'.plus t.n ft.n).ns.length e5) (by show w.heap.size+1+1≠w.heap.size+1;omega)).trans HS5.o.2.1))
             (And.intro ((World.cell?_setCell_far _ ⟨w.heap.size+1+1,1,none⟩ ⟨bb,off+k*2+1,none⟩ (.slice Y5 (b'.plus t.n ft.n).vs.length g5) hnb).trans ((World.cell?_setCell_far w5 ⟨w.heap.size+1+1,0,none⟩ ⟨bb,off+k*2+1,none⟩ (.slice X5 (b'.plus t.n ft.n).ns.length e5) hnb).trans HS5.o.2.2.1))
              ((World.cell?_setCell_far _ ⟨w.heap.size+1+1,1,none⟩ ⟨bc,off2+k*2+1,none⟩ (.slice Y5 (b'.plus t.n ft.n).vs.length g5) hnc).trans ((World.cell?_setCell_far w5 ⟨w.heap.size+1+1,0,none⟩ ⟨bc,off2+k*2+1,none⟩ (.slice X5 (b'.plus t.n ft.n).ns.length e5) hnc).trans HS5.o.2.2.2)))))
            clear hx5 hv5 hu5 hbb5;refine hK.out _ _ ?_ (fun hNew=>?_)
            . (try dsimp only);(first|exact HSW.o _ (Ext.refl w4).drew|exact HS5.o|exact HS6.o)
            clear hK K hHeld;have hHeld:=hNew;clear hNew;try simp only[Act.put,stz]
            refine rd1 14 rfl (fun K hK=>?_)
            . go_simp
              refine hK.out _ _ ?_ (fun hNew=>?_)
              . (try dsimp only);(first|exact HSW.o _ (Ext.refl w4).drew|exact HS5.o|exact HS6.o)
              clear hK K hHeld;have hHeld:=hNew;clear hNew;try simp only[Act.put,stz]
              refine dn ?_;have hbb6:=((HBB4.o.ext HX5.o).set_ 0 (.slice X5 (b'.plus t.n ft.n).ns.length e5)).set_ 1 (.slice Y5 (b'.plus t.n ft.n).vs.length g5);go_wp2;go_roundw
              case rel =>
               refine⟨k+1,b'.plus t.n ft.n,_,_,by omega,by go_num,HN,zh (by have h:=hnl.o;simp[LB.plus];omega),zh (by simpa using hbb6),zh ?_,zh ?_,zh ?_⟩
               . have h2:Bound V w.heap.size w5 (.slice X5 (b'.plus t.n ft.n).ns.length e5) (.slice Y5 (b'.plus t.n ft.n).vs.length g5) (b'.plus t.n ft.n) :=
                   ⟨HV5.o.sub (fun i h=>.inr (Nat.le_trans hl43 h)),HU5.o.sub (fun i h=>.inr (Nat.le_trans hl43 h)),jyi hbd.o.2.2 _ _⟩
                 exact (h2.set (p:=⟨w.heap.size+1+1,0,none⟩) (by show w.heap.size<=w.heap.size+1+1;omega) (by show w.heap.size+1+1<_;omega) _).set (p:=⟨w.heap.size+1+1,1,none⟩) (by show w.heap.size<=w.heap.size+1+1;omega) (by show w.heap.size+1+1<_;omega) _
               . exact ((HBR4.o.ext HX5.o).far (p:=⟨w.heap.size+1+1,0,none⟩) (by show _≠w.heap.size+1+1;omega) _).far (p:=⟨w.heap.size+1+1,1,none⟩) (by show _≠w.heap.size+1+1;omega) _
               exact Below.setCell (Below.setCell (Below.trans hbel.o (Below.mono (HX4.o.t HX5.o) (by omega))) (Nat.le_refl _) _) (Nat.le_refl _) _
              case measure=>simp[intOf];omega
    have HF:=zh (show jcz a f b=(b',true) from by rw[HM.o,hml.o,jwp (by omega)]);clear hml q0 p0 p1;go_wp2;refine bodyPost_ret (v:=.tuple #[.agg #[.slice X1 b'.ns.length e1,.slice Y1 b'.vs.length g1'],.bool true]) (by simp[results,Tryz.results215,go_sem,z0,z1]) rfl ?_;have h1:=((hbd.o.set (p:=⟨w.heap.size+1+1+1,0,none⟩) (by show w.heap.size<=w.heap.size+1+1+1;omega) (by show w.heap.size+1+1+1<_;omega) (.slice X1 b'.ns.length e1)).set (p:=⟨w.heap.size+1+1+1,1,none⟩) (by show w.heap.size<=w.heap.size+1+1+1;omega) (by show w.heap.size+1+1+1<_;omega) (.slice Y1 b'.vs.length g1'))
    rw[HF.o];exact⟨⟨_,_,rfl,h1.1.sub (fun i h=>h.imp id (fun h=>by omega)),h1.2.1.sub (fun i h=>h.imp id (fun h=>by omega)),h1.2.2⟩,Ext.setNew (a:=w) (Ext.setNew HXW.o (by show w.heap.size<=w.heap.size+1+1+1;omega) _) (by show w.heap.size<=w.heap.size+1+1+1;omega) _⟩
 have HM:=zh (show jcz a f b=(b,false) from if_neg hne);by_cases hn1:a.n=f.n
 . have g1:(a.n.toList == f.n.toList)=true:=by rw[hn1];exact beq_self_eq_true _
   have g2:(((a.args.length:Nat):Int) == ((f.args.length:Nat):Int))=false:=by
    rw[beq_eq_false_iff_ne];exact fun h=>hne ⟨hn1,by omega⟩
   clear hv hu hx hy hok hne hn1 hB0 hB1 hB2 hB3 hW0 hz
   go_in;go_wp2;refine bodyPost_ret (v:=.tuple #[.agg #[.slice X b.ns.length e,.slice Y b.vs.length g],.bool false]) (by simp[results,Tryz.results215,go_sem]) rfl ?_;rw[HM.o];exact⟨⟨_,_,rfl,StrsR.sub (HBW.o.ext (((((Ext.refl w).alloc _).alloc _).alloc _).alloc _)).1 (fun i h=>h.imp id (fun h=>by omega)),StrsR.sub (HBW.o.ext (((((Ext.refl w).alloc _).alloc _).alloc _).alloc _)).2.1 (fun i h=>h.imp id (fun h=>by omega)),HBW.o.2.2⟩,((((Ext.refl w).alloc _).alloc _).alloc _).alloc _⟩
 have g1:(a.n.toList == f.n.toList)=false:=jdh hn1;clear hv hu hx hy hok hne hn1 hB0 hB1 hB2 hB3 hW0 hz
 go_in;go_wp2;refine bodyPost_ret (v:=.tuple #[.agg #[.slice X b.ns.length e,.slice Y b.vs.length g],.bool false]) (by simp[results,Tryz.results215,go_sem]) rfl ?_;rw[HM.o];exact⟨⟨_,_,rfl,StrsR.sub (HBW.o.ext (((((Ext.refl w).alloc _).alloc _).alloc _).alloc _)).1 (fun i h=>h.imp id (fun h=>by omega)),StrsR.sub (HBW.o.ext (((((Ext.refl w).alloc _).alloc _).alloc _).alloc _)).2.1 (fun i h=>h.imp id (fun h=>by omega)),HBW.o.2.2⟩,((((Ext.refl w).alloc _).alloc _).alloc _).alloc _⟩
theorem jwq {xs:List GA} {ps:List GP} {b:LB} {k:Nat} {p:GP} (h:ps[k]? = some p):heldB xs (ps.take (k+1)) b=(heldB xs (ps.take k) b && (!p.no || !hasA xs (fillN p.atom b))):=by
 unfold heldB;rw[jbo _ _ k p h]
theorem jpm (xs:List GA) (ps:List GP) (bs:List LB) (v u z:Value) (w:World) {S T V:Nat->Prop} (hv:jab S w v xs) (hu:jao T w u ps) (hz:jeo V w z bs) (hps:∀ p∈ps,p.atom.args.length<=1000000) (hbl:bs.length<=1000000000000) :
  Calls Tryz.prog 216 #[v,u,z] w fun e w'=>(∃ v',e=.returned v'/\OwnK kBind w.heap.size 204 (fun b=>V b/\b<w.heap.size) w' v' (bs.filter (heldB xs ps)))/\Ext w w':=by
 obtain⟨A,c,rfl,hc1,hc2⟩:=jaa.form hv;obtain⟨B,d,rfl,hd1,hd2⟩:=jaa.form hu;obtain⟨D,f,rfl,hf1,hf2⟩:=jaa.form hz;have hz':jeo (fun b=>V b/\b<w.heap.size) w (.slice D bs.length f) bs:=ListK.low (k:=kBind) hz;obtain⟨i0,hi0,hz0,hz1,hz2,hz3⟩:∃ i0,Tryz.prog.info? 204=some i0/\i0.zero=some (.agg #[.slice none 0 0,.slice none 0 0])/\i0.size=2/\(Value.agg #[.slice none 0 0,.slice none 0 0]).cells.size=2/\i0.bytes=48:=⟨_,rfl,rfl,rfl,rfl,rfl⟩
 have HV:=zh hv;have HU:=zh hu;have HZ:=zh hz';have HPS:=zh hps;clear hv hu hz hz' hps
 go_in;go_wp2;go_loopw [7,8] (fun o i wr=>∃ k:Nat,k<=bs.length/\i=.int .i64 k/\J1 (OwnK kBind w.heap.size 204 (fun b=>V b/\b<w.heap.size) wr o ((bs.take k).filter (heldB xs ps)))/\Ext w wr) (fun _ i _=>bs.length-(intOf i).toNat)
 case atStart=>exact⟨0,Nat.zero_le _,rfl,zh (OwnK.empty rfl (Nat.le_refl _)),(Ext.refl _).alloc _⟩
 case round =>
  obtain⟨k,hk,rfl,ho,hx⟩:=hrel;have hk0:(0:Int)<=(k:Int):=by omega
  by_cases hlt:k<bs.length
  . have hk1 : (k:Int)<(bs.length:Int):=by omega
    obtain⟨bb,off,bd,x,y,rfl,hbb,hbk,hxs,hys,hok,hq0,hq1⟩:=jeo.at_ HZ.o hlt;obtain⟨X,cx,rfl,hcx1,hcx2⟩:=jaa.form hxs;obtain⟨Y,cy,rfl,hcy1,hcy2⟩:=jaa.form hys;have HXS:=zh hxs;have HYS:=zh hys;have HOK:=zh hok;have HBK:=zh hbk;have HQ0:=zh hq0;have HQ1:=zh hq1;clear hxs hys hok hbk hq0 hq1;go_wp2;go_loopw [9,10] (fun h j wq=>∃ q:Nat,q<=ps.length/\j=.int .i64 q/\J1 (h=.bool (heldB xs (ps.take q) bd))/\Ext wr wq) (fun _ j _=>ps.length-(intOf j).toNat)
    case atStart=>exact⟨0,Nat.zero_le _,rfl,zh rfl,Ext.refl _⟩
    case round =>
     obtain⟨q,hq,rfl,hh,hxq⟩:=hrel;have hq0:(0:Int)<=(q:Int):=by omega
     by_cases hlq:q<ps.length
     . have hq1:(q:Int)<(ps.length:Int):=by omega
       obtain⟨bp,op,p,vp,rfl,hbp,hpk,hpn,hpt,hp0,hp1,hp2⟩:=jao.at_ HU.o hlq;obtain⟨G,cg,rfl,hcg1,hcg2⟩:=jaa.form hpt;have hxw:=Ext.t hx hxq;have r0:=(hxw.cells.1 bp (op+q*3) hbp).trans hp0;have r1:=(hxw.cells.1 bp (op+q*3+1) hbp).trans hp1;have r2:=(hxw.cells.1 bp (op+q*3+2) hbp).trans hp2;have s0:=(hxw.cells.1 bb (off+k*2) hbb).trans HQ0.o;have s1:=(hxw.cells.1 bb (off+k*2+1) hbb).trans HQ1.o;have HT:=zh (jwq (xs:=xs) (b:=bd) hpk);have HPT:=zh hpt;have HPL:=zh (HPS.o p (List.mem_of_getElem? hpk));clear hp0 hp1 hp2 hpk hpt;cases hhe:heldB xs (ps.take q) bd
       . have hhv:=hh.o
         rw[hhe] at hhv;subst hhv;have HN:=zh (show heldB xs (ps.take (q+1)) bd=false from by rw[HT.o,hhe];rfl);clear hhe;go_wp2_with fail
         go_quiet (fail)
         go_wp2;go_roundw
         case rel=>exact⟨q+1,by omega,by go_num,zh (by rw[HN.o]),hxq.drewN _⟩
         case measure=>simp[intOf];omega
       have hhv:=hh.o;rw[hhe] at hhv;subst hhv;have HT2:=zh (show heldB xs (ps.take (q+1)) bd=(!p.no || !hasA xs (fillN p.atom bd)) from by rw[HT.o,hhe];rfl);clear hhe HT;cases hno:p.no
       . rw [hno] at r0
         have HN:=zh (show heldB xs (ps.take (q+1)) bd=true from by rw[HT2.o,hno];rfl);clear hno;go_wp2_with fail
         go_quiet (fail)
         go_wp2;go_roundw
         case rel=>exact⟨q+1,by omega,by go_num,zh (by rw[HN.o]),hxq.drewN _⟩
         case measure=>simp[intOf];omega
       rw[hno] at r0;have HN:=zh (show heldB xs (ps.take (q+1)) bd = !hasA xs (fillN p.atom bd) from by rw[HT2.o,hno];rfl);clear hno;have HF:=zh (fun (W:World) (hW:Ext wr W)=>job p.atom bd _ _ _ W (HPT.o.ext (hxw.t hW)) (HXS.o.ext (hxw.t hW)) (HYS.o.ext (hxw.t hW)) HOK.o HPL.o);have HH:=zh (fun (W:World) (hW:Ext wr W)=>HV.o.ext (hxw.t hW))
       have HSW:=zh (fun (W:World) (hW:Ext wr W)=>(show W.cell? ⟨bp,op+q*3,none⟩=some (.bool true)/\W.cell? ⟨bp,op+q*3+1,none⟩=some (.string p.atom.n)/\W.cell? ⟨bp,op+q*3+2,none⟩=some (.slice G p.atom.args.length cg)/\W.cell? ⟨bb,off+k*2,none⟩=some (.slice X bd.ns.length cx)/\W.cell? ⟨bb,off+k*2+1,none⟩=some (.slice Y bd.vs.length cy) from
        ⟨(hW.cells.1 bp _ (Nat.lt_of_lt_of_le hbp hxw.size)).trans r0,(hW.cells.1 bp _ (Nat.lt_of_lt_of_le hbp hxw.size)).trans r1,(hW.cells.1 bp _ (Nat.lt_of_lt_of_le hbp hxw.size)).trans r2,(hW.cells.1 bb _ (Nat.lt_of_lt_of_le hbb hxw.size)).trans s0,(hW.cells.1 bb _ (Nat.lt_of_lt_of_le hbb hxw.size)).trans s1⟩))
       obtain⟨w4,hw4⟩:=nm (wr);go_wp2_with fail
       refine wp_region_noPanic ?_;refine wp_region_held_drew (S:=(fun w'=>w'.cell? ⟨bp,op+q*3,none⟩=some (.bool true)/\w'.cell? ⟨bp,op+q*3+1,none⟩=some (.string p.atom.n)/\w'.cell? ⟨bp,op+q*3+2,none⟩=some (.slice G p.atom.args.length cg)/\w'.cell? ⟨bb,off+k*2,none⟩=some (.slice X bd.ns.length cx)/\w'.cell? ⟨bb,off+k*2+1,none⟩=some (.slice Y bd.vs.length cy))) (by kernel_rfl) ?_ (fun hHeld=>?_)
       . (try dsimp only);(first|exact HSW.o _ (Ext.refl wr).drew|exact HSW.o _ HX5.o|exact HSW.o _ HX6.o)
       refine tq 0 rfl ?_;(try simp only[Act.put,stz])
       refine tq 1 rfl ?_;(try simp only[Act.put,stz])
       refine tq 2 rfl ?_;(try simp only[Act.put,stz])
       refine tq 3 rfl ?_;(try simp only[Act.put,stz])
       refine tq 4 rfl ?_;(try simp only[Act.put,stz])
       refine tq 5 rfl ?_;(try simp only[Act.put,stz])
       refine tq 6 rfl ?_;(try simp only[Act.put,stz])
       refine tq 7 rfl ?_;(try simp only[Act.put,stz])
       refine tq 8 rfl ?_;(try simp only[Act.put,stz])
       refine tq 9 rfl ?_;(try simp only[Act.put,stz])
       refine tq 10 rfl ?_;(try simp only[Act.put,stz])
       refine tq 11 rfl ?_;(try simp only[Act.put,stz])
       refine tq 12 rfl ?_;(try simp only[Act.put,stz])
       refine tq 13 rfl ?_;(try simp only[Act.put,stz])
       refine tq 14 rfl ?_;(try simp only[Act.put,stz])
       refine tq 15 rfl ?_;(try simp only[Act.put,stz])
       refine tq 16 rfl ?_;(try simp only[Act.put,stz])
       refine tq 17 rfl ?_;(try simp only[Act.put,stz])
       refine tq 18 rfl ?_;(try simp only[Act.put,stz])
       refine rd1 19 rfl (fun K hK=>?_)
       . go_simp
         go_at_call 252;refine (HF.o _ (Ext.refl wr).drew).mono ?_;rintro e w5 ⟨⟨v5,rfl,ht5⟩,hx5⟩
         have HX5:=zh (show Ext wr w5 from (Ext.refl wr).drew.t hx5);have HT5:=zh ht5;obtain⟨G5,c5,rfl,hg51,hg52⟩:=jaa.form ht5;clear ht5;refine hK.out _ _ ?_ (fun hNew=>?_)
         . (try dsimp only);(first|exact HSW.o _ (Ext.refl wr).drew|exact HSW.o _ HX5.o|exact HSW.o _ HX6.o)
         clear hK K hHeld;have hHeld:=hNew;clear hNew;try simp only[Act.put,stz]
         refine rd1 20 rfl (fun K hK=>?_)
         . go_simp
           go_at_call 135;refine (jd3 _ _ xs (fillN p.atom bd) _ (HH.o _ HX5.o) HT5.o).mono ?_;rintro e w6 ⟨rfl,hx6⟩
           have HX6:=zh (show Ext wr w6 from HX5.o.t hx6);refine hK.out _ _ ?_ (fun hNew=>?_)
           . (try dsimp only);(first|exact HSW.o _ (Ext.refl wr).drew|exact HSW.o _ HX5.o|exact HSW.o _ HX6.o)
           clear hK K hHeld;have hHeld:=hNew;clear hNew;try simp only[Act.put,stz]
           refine tq 21 rfl ?_;(try simp only[Act.put,stz])
           refine tq 22 rfl ?_;(try simp only[Act.put,stz])
           refine tq 23 rfl ?_;(try simp only[Act.put,stz])
           refine tq 24 rfl ?_;(try simp only[Act.put,stz])
           refine dn ?_;go_wp2;go_roundw
           case rel=>exact⟨q+1,by omega,by go_num,zh (by rw[HN.o]),hxq.t HX6.o⟩
           case measure=>simp[intOf];omega
     have HE:=zh (show ps.take q=ps from List.take_of_length_le (by omega));have hhv:=hh.o;rw[HE.o] at hhv;have hxw:=Ext.t hx hxq;have s0:=(hxw.cells.1 bb (off+k*2) hbb).trans HQ0.o;have s1:=(hxw.cells.1 bb (off+k*2+1) hbb).trans HQ1.o;cases hhe:heldB xs ps bd
     . rw [hhe] at hhv;subst hhv
       have HN:=zh (show (bs.take (k+1)).filter (heldB xs ps)=(bs.take k).filter (heldB xs ps) from by rw[List.take_add_one,HBK.o,List.filter_append];simp[hhe]);clear hhe;go_wp2;go_roundw
       case rel=>exact⟨k+1,by omega,by go_num,zh (by rw[HN.o];exact ho.o.ext hxq),hxw⟩
       case measure=>simp[intOf];omega
     rw[hhe] at hhv;subst hhv;have HN:=zh (show (bs.take (k+1)).filter (heldB xs ps)=(bs.take k).filter (heldB xs ps)++[bd] from by rw[List.take_add_one,HBK.o,List.filter_append];simp[hhe]);have hln:((bs.take k).filter (heldB xs ps)).length<=k:=Nat.le_trans (List.length_filter_le _ _) (by rw[List.length_take];omega);have hom:=ho.o.ext hxq;obtain⟨A0,n0,c0,rfl,hn0,ha0,hb0⟩:=hom.form2;have HO:=zh hom;clear hhe hom;go_wp2_with (at_builtin;go_loud (refine jco (k:=kBind) (S:=fun b=>V b/\b<w.heap.size) (T:=fun b=>V b/\b<w.heap.size) (base:=w.heap.size) rfl (.tmp 49) (.tmp 54) 200 (by rfl) i0 _ 48 Tryz.underlying200 hi0 hz0 hz1 hz3 hz2 (by rfl) (HO.o.alloc _) _ 1 1 (by rfl) (jar.one (k:=kBind) (x:=bd) (Blk.new _ _ _) ⟨_,_,rfl,HXS.o.ext (hxw.alloc _),HYS.o.ext (hxw.alloc _),HOK.o⟩) (fun _ hb _=>hb) (fun g hg hT=>absurd (HO.o.at_ g hg).1 (Nat.not_le.2 hT.2)) (by unfold maxLen;omega) (by omega) (Nat.le_trans hxw.size (by go_size)) ?_;intro v1 w3 hap))
     go_roundw
     case rel=>exact⟨k+1,by omega,by go_num,zh (by rw[HN.o];exact hap.own),hap.toExt (hxw.alloc _) (Nat.le_refl _)⟩
     case measure=>simp[intOf];omega
  have HE:=zh (show bs.take k=bs from List.take_of_length_le (by omega));have h1:=ho.o;rw[HE.o] at h1;go_wp2;go_ret;exact⟨⟨_,rfl,h1⟩,hx⟩
end Go.Proofs.YthiflhkcpanaaaaGreatDoor
namespace Go.Proofs.YthiflhkcpanaaaaGreatDoor
theorem joc {α β:Type} (f:β->α->β) (z:β) {l:List α} {k:Nat} {x:α} (h:l[k]? = some x):(l.take (k+1)).foldl f z=f ((l.take k).foldl f z) x:=by
 rw[List.take_add_one,h,List.foldl_append];rfl
theorem jrj {α β:Type} (f:α->List β) {l:List α} {k:Nat} {x:α} (h:l[k]? = some x):(l.take (k+1)).flatMap f=(l.take k).flatMap f++f x:=by
 rw[List.take_add_one,h,List.flatMap_append];simp
theorem jhs (a:GA) {l:List GA} {b:LB} {k:Nat} {x:GA} (h:l[k]? = some x):jbs a (l.take (k+1)) b=jbs a (l.take k) b++(if (jcz a x b).2 then [(jcz a x b).1] else []):=by
 unfold jbs;rw[List.take_add_one,h,List.filterMap_append];cases hm:(jcz a x b).2<;>simp[hm]
theorem jtu (t f:GT) (b:LB):(jcw t f b).1.ns.length<=b.ns.length+1:=by
 unfold jcw;split
 . split
   . simp[LB.plus]
   simp
 simp
theorem jmc:∀ (ts fs:List GT) (b:LB),(jch ts fs b).1.ns.length<=b.ns.length+ts.length
 | [],_,b=>by simp[jch]
 | t :: ts,[],b=>by simp[jch]
 | t :: ts,f :: fs,b=>by
   have h1:=jtu t f b;unfold jch;split
   . have h2:=jmc ts fs (jcw t f b).1
     simp only[List.length_cons];omega
   simp only[List.length_cons];omega
theorem jtv (a f:GA) (b:LB):(jcz a f b).1.ns.length<=b.ns.length+a.args.length:=by
 unfold jcz;split
 . exact jmc _ _ _
 simp
theorem jwr (l:List GA) (out:List LB) (p:GP) {n m:Nat} (h:∀ b∈out,b.ns.length<=n) (hp:p.atom.args.length<=m):∀ b∈jbe l out p,b.ns.length<=n+m:=by
 intro b hb;unfold jbe at hb;split at hb
 . have:=h b hb;omega
 obtain⟨b0,h0,h1⟩:=List.mem_flatMap.1 hb;unfold jbs at h1;obtain⟨f,_,h2⟩:=List.mem_filterMap.1 h1;split at h2
 . cases h2
   have h3:=jtv p.atom f b0;have h4:=h b0 h0;omega
 cases h2
theorem jod (l:List GA) {m:Nat}:∀ (ps:List GP) (out:List LB) (n:Nat),(∀ b∈out,b.ns.length<=n)->(∀ p∈ps,p.atom.args.length<=m)->∀ b∈ps.foldl (jbe l) out,b.ns.length<=n+ps.length*m
 | [],out,n,h,_=>by simpa using h
 | p :: ps,out,n,h,hp=>by
   have h1:=jod l ps (jbe l out p) (n+m) (jwr l out p h (hp p List.mem_cons_self)) (fun q hq=>hp q (List.mem_cons_of_mem _ hq));intro b hb;have h2:=h1 b hb;have h3:(ps.length+1)*m=ps.length*m+m:=by rw[Nat.add_mul,Nat.one_mul]
   rw[List.length_cons,h3];omega
theorem jko (l:List GA) (ps:List GP) (hl:l.length<=900) (hp:ps.length<=4):(ps.foldl (jbe l) [⟨[],[]⟩]).length<=1000000000000:=by
 refine Nat.le_trans (jho l ps [⟨[],[]⟩]) ?_;have h1:(l.length+1) ^ ps.length<=901 ^ 4:=Nat.le_trans (Nat.pow_le_pow_left (by omega) _) (Nat.pow_le_pow_right (by omega) hp);have h2:(901:Nat) ^ 4<=1000000000000:=by decide
 simp only[List.length_cons,List.length_nil,Nat.zero_add,Nat.one_mul];omega
end Go.Proofs.YthiflhkcpanaaaaGreatDoor
