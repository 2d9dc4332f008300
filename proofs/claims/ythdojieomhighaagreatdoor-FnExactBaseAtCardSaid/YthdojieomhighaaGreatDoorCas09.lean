/- Own texts, joined. -/
import Derived.Test.YthdojieomhighaaGreatDoorRows
import Derived.Test.YthdojieomhighaaGreatDoorCas01
import Derived.Test.YthdojieomhighaaGreatDoorCas02
import Derived.Shelf.Strings.Builder1
import Derived.Lib.OthersKept
import Derived.Test.YthdojieomhighaaGreatDoorCas07
set_option linter.unusedSimpArgs false
set_option linter.unusedVariables false
set_option maxHeartbeats 4000000
set_option maxRecDepth 100000
namespace Go.Proofs.YthdojieomhighaaGreatDoor
open Go.RowKit
abbrev jxj (B b:Nat) (p:Value) (l:List UInt8) (w:World):Prop:=Lib.BuilderAt 330 5 B b p (Lib.byteCells l) w
def jfc (B b:Nat) (l:List UInt8) (w:World):Prop:=Lib.IsBuilder 330 5 B b (Lib.byteCells l) w
abbrev Kept (b:Nat) (w w':World):Prop:=Lib.OthersKept 5 (some b) w w'
theorem jkj:(Tryz.prog.info? 330).map (·.size)=some 2:=by kernel_rfl
theorem jqn:liesAt Tryz.prog Tryz.prog.depth 330 (2 / Tryz.prog.cellsOf 330) 0 330 1=true:=by kernel_rfl
theorem jqo:(Tryz.prog.info? 5).map (fun i=>(i.zero,i.size,i.bytes))=some (some (.int .u8 0),1,1):=by kernel_rfl
theorem jqp {w:World} {base e size n:Nat} {v:Value} {xs:List Value} {g:Nat} (h:w.ownsRow base e size v n xs) (hg:v.ownBlock=some g):∃ c fz,w.heap[g]? = some (.cells c e fz):=by
 rcases h.2 with ⟨rfl,_⟩|⟨g',cap,cur,rfl,_,hh,_⟩
 · simp[Value.ownBlock] at hg
 simp only[Value.ownBlock,Option.some.injEq] at hg;subst hg;exact⟨_,_,hh⟩
theorem jkk (l m:List UInt8):Lib.byteCells l++Lib.byteCells m=Lib.byteCells (l++m):=by simp[Lib.byteCells]
theorem jmv (b:Nat) (w:World) (h0:w.cell? ⟨b,0,none⟩=some (.pointer (some ⟨b,0,none⟩))) :
  Calls Tryz.prog 308 #[.pointer (some ⟨b,0,none⟩)] w fun e w'=>e=.returned (.tuple #[])∧w'=w:=by
 obtain⟨j,hj,_⟩:=Option.map_eq_some_iff.1 jkj
 go_enter Tryz.func308,Tryz.ntmps308;go_wp2;rw[Lib.run_neq_ptr_same w _ Tryz.underlying328 hj];go_wp2
 go_end0
 exact⟨rfl,rfl⟩
theorem jl1 (b:Nat) (w:World) (h0:w.cell? ⟨b,0,none⟩=some (.pointer none)) (hsh:w.shape? b=some (330,2)) (hfz:w.frozen? ⟨b,0,none⟩=false) :
  Calls Tryz.prog 308 #[.pointer (some ⟨b,0,none⟩)] w fun e w'=>e=.returned (.tuple #[])∧w'=w.setCell ⟨b,0,none⟩ (.pointer (some ⟨b,0,none⟩)):=by
 obtain⟨j,hj,hjs⟩:=Option.map_eq_some_iff.1 jkj
 go_enter Tryz.func308,Tryz.ntmps308;go_wp2;rw[Lib.run_to_unsafe w ⟨b,0,none⟩ Tryz.underlying328 Tryz.underlying290 hj (by rw[hjs];decide) hsh (Nat.zero_lt_succ 1)];simp only[Result.andThen];rw[Oper.upon_value];go_wp2;rw[run_callFunc_extern Tryz.func317 (by kernel_rfl) (by kernel_rfl) (by kernel_rfl) (e:=Extern.AbiNoEscape.same) (by kernel_rfl)];rw[Lib.run_noEscape];simp only[Result.andThen];rw[Oper.upon_value];go_wp2;rw[Lib.run_from_unsafe w ⟨b,0,none⟩ Tryz.underlying290 Tryz.underlying328 hj hsh jqn];simp only[Result.andThen];rw[Oper.upon_value];go_wp2
 go_end0
 exact⟨rfl,rfl⟩
theorem jig (B b:Nat) (l:List UInt8) (w:World) (h:jfc B b l w) :
  Calls Tryz.prog 308 #[.pointer (some ⟨b,0,none⟩)] w fun e w'=>e=.returned (.tuple #[])∧(jxj B b (.pointer (some ⟨b,0,none⟩)) l w'∧Below B w w'∧Kept b w w'):=by
 rcases h with h|h
 · refine (jl1 b w h.cell0 h.shape h.frozen0).mono ?_
   rintro e w' ⟨rfl,rfl⟩;exact⟨rfl,h.used _,(Below.refl B w).setCell (p:=⟨b,0,none⟩) h.1 _,(Lib.OthersKept.refl _ _ w).setCell ⟨b,0,none⟩ rfl _⟩
 refine (jmv b w h.cell0).mono ?_;rintro e w' ⟨rfl,rfl⟩;exact⟨rfl,h,Below.refl B _,Lib.OthersKept.refl _ _ _⟩
theorem jfs (B b:Nat) (l:List UInt8) (c:UInt8) (w:World) (h:jfc B b l w) (hlen:l.length+1≤140737488355328) (hBw:B≤w.heap.size) :
  Calls Tryz.prog 276 #[.pointer (some ⟨b,0,none⟩),.int .u8 c.toNat] w fun e w'=>e=.returned .nilIface∧(jfc B b (l++[c]) w'∧Below B w w'∧Kept b w w'):=by
 obtain⟨i0,hi,hz0,hz1,hz2⟩:=info_parts jqo
 go_enter Tryz.func276,Tryz.ntmps276;go_wp2_with (go_at_call 308;refine (jig B b l _ h).mono ?_)
 rintro e w1 ⟨rfl,h1,hb1,hk1⟩;obtain⟨hB,v,hbk,hown,hne⟩:=h1;have c0:w1.cell? ⟨b,0,none⟩=some (.pointer (some ⟨b,0,none⟩)):=by rw[Lib.cell_of_heap hbk];rfl
 have c1:w1.cell? ⟨b,1,none⟩=some v:=by rw[Lib.cell_of_heap hbk];rfl
 have hl:(Lib.byteCells l).length=l.length:=Lib.byteCells_length l;go_wp2_with (at_builtin;refine wpList_append_own _ rfl _ _ 37 rfl B 5 i0 (.int .u8 0) 1 1 Tryz.underlying37 hi hz0 hz1 hz2 rfl (by decide) _ _ _ rfl (hown.alloc _) ⟨w1.heap.size,0,none⟩ 1 1 [.int .u8 c.toNat] rfl rfl ?c1 ?c2 ?c3 ?c4 ?c5 ?_)
 case c1 =>
  intro j u hj
  match j,hj with
  | 0,hj=>simp at hj;subst hj;simp[Addr.add]
 case c2=>intro u hu;simp at hu;subst hu;rfl
 case c3=>unfold maxLen;omega
 case c4=>omega
 case c5=>have:=hb1.size;simp;omega
 intro v' w2 hown' hgrow _
 have hlt:b<w1.heap.size:=by
  rcases Nat.lt_or_ge b w1.heap.size with h'|h'
  · exact h'
  simp[Array.getElem?_eq_none h'] at hbk
 have hb2:w2.heap[b]? = some (.cells #[.pointer (some ⟨b,0,none⟩),v] 330 (0,0)):=by
  rw[hgrow.block b (by simp;omega) (fun e=>hne e.symm),Lib.alloc_old w1 _ b hlt];exact hbk
 have d0:w2.cell? ⟨b,0,none⟩=some (.pointer (some ⟨b,0,none⟩)):=by rw[Lib.cell_of_heap hb2];rfl
 have d1:w2.cell? ⟨b,1,none⟩=some v:=by rw[Lib.cell_of_heap hb2];rfl
 have f1:w2.frozen? ⟨b,1,none⟩=false:=Lib.frozen_of_heap hb2 1
 obtain ⟨g,cap,rfl⟩:∃ g cap,v'=.slice (some ⟨g,0,none⟩) (l.length+1) cap:=by
  rcases hown'.2 with ⟨_,h0⟩|⟨g,cap,cur,hv,_⟩
  · omega
  exact⟨g,cap,hv⟩
 go_wp2;go_ret;refine⟨rfl,.inr ?_,?_,?_⟩
 · rw [← jkk]
   exact Lib.BuilderAt.put (T:=330) (e:=5) hB hb2 (bs':=Lib.byteCells l++Lib.byteCells [c]) (by simpa [Lib.byteCells] using hown') (by decide)
 · exact ((hb1.alloc (by have:=hb1.size;omega) _).grown hgrow (by have:=hb1.size;simp;omega) (fun k hk=>(hown.lt k hk).1)).setCell (p:=⟨b,1,none⟩) hB _
 exact ((hk1.alloc _).grown hgrow (fun g hg=>jqp (hown.alloc _) hg)).setCell ⟨b,1,none⟩ rfl _
theorem jeh (B b:Nat) (l:List UInt8) (s:ByteArray) (w:World) (h:jfc B b l w) (hlen:l.length+s.size≤140737488355328) (hBw:B≤w.heap.size) :
  Calls Tryz.prog 275 #[.pointer (some ⟨b,0,none⟩),.string s] w fun e w'=>e=.returned (.tuple #[.int .i64 s.size,.nilIface])∧(jfc B b (l++s.data.toList) w'∧Below B w w'∧Kept b w w'):=by
 obtain⟨i0,hi,hz0,hz1,hz2⟩:=info_parts jqo
 go_enter Tryz.func275,Tryz.ntmps275;go_wp2_with (go_at_call 308;refine (jig B b l _ h).mono ?_)
 rintro e w1 ⟨rfl,h1,hb1,hk1⟩;obtain⟨hB,v,hbk,hown,hne⟩:=h1;have c0:w1.cell? ⟨b,0,none⟩=some (.pointer (some ⟨b,0,none⟩)):=by rw[Lib.cell_of_heap hbk];rfl
 have c1:w1.cell? ⟨b,1,none⟩=some v:=by rw[Lib.cell_of_heap hbk];rfl
 have hl:(Lib.byteCells l).length=l.length:=Lib.byteCells_length l;go_wp2_with (at_builtin;refine Lib.wpList_append_own_string _ rfl _ _ 37 9 rfl B 5 i0 Tryz.underlying37 Tryz.underlying9 hi hz0 hz1 hz2 _ _ _ rfl hown s rfl ?c3 ?c4 ?c5 ?_)
 case c3=>unfold maxLen;omega
 case c4=>omega
 case c5=>have:=hb1.size;omega
 intro v' w2 hown' hgrow _
 have hlt:b<w1.heap.size:=by
  rcases Nat.lt_or_ge b w1.heap.size with h'|h'
  · exact h'
  simp[Array.getElem?_eq_none h'] at hbk
 have hb2:w2.heap[b]? = some (.cells #[.pointer (some ⟨b,0,none⟩),v] 330 (0,0)):=by
  rw[hgrow.block b hlt (fun e=>hne e.symm)];exact hbk
 have d0:w2.cell? ⟨b,0,none⟩=some (.pointer (some ⟨b,0,none⟩)):=by rw[Lib.cell_of_heap hb2];rfl
 have d1:w2.cell? ⟨b,1,none⟩=some v:=by rw[Lib.cell_of_heap hb2];rfl
 have f1:w2.frozen? ⟨b,1,none⟩=false:=Lib.frozen_of_heap hb2 1
 obtain ⟨ao,n',cap,rfl⟩:∃ ao n' cap,v'=.slice ao n' cap:=by
  rcases hown'.2 with ⟨hv,_⟩|⟨g,cap,cur,hv,_⟩
  · exact⟨_,_,_,hv⟩
  exact⟨_,_,_,hv⟩
 go_wp2;go_ret2;refine⟨rfl,.inr ?_,?_,?_⟩
 · have hs:Lib.strCells s=Lib.byteCells s.data.toList:=rfl
   rw[← jkk,← hs];exact Lib.BuilderAt.put (T:=330) (e:=5) hB hb2 (bs':=Lib.byteCells l++Lib.strCells s) (by simpa [Lib.strCells_length,hl] using hown') (by decide)
 · exact (hb1.grown hgrow (by have:=hb1.size;omega) (fun k hk=>(hown.lt k hk).1)).setCell (p:=⟨b,1,none⟩) hB _
 exact (hk1.grown hgrow (fun g hg=>jqp hown hg)).setCell ⟨b,1,none⟩ rfl _
theorem jvs (B b:Nat) (l:List UInt8) (w:World) (h:jfc B b l w) (hBw:B≤w.heap.size) :
  Calls Tryz.prog 277 #[.pointer (some ⟨b,0,none⟩)] w fun e w'=>e=.returned (.string ⟨l.toArray⟩)∧Below B w w' :=
 Tryz.Builder_String_any B b l w h hBw
theorem jfc.alloc {B b:Nat} {l:List UInt8} {w:World} (h:jfc B b l w) (o:Obj):jfc B b l (w.alloc o):=by
 rcases h with ⟨hB,v,hb,hown,hne⟩|⟨hB,v,hb,hown,hne⟩
 · exact .inl ⟨hB,v,(Below.heap_alloc w o b (Array.getElem?_eq_some_iff.1 hb).1).trans hb,hown.alloc o,hne⟩
 exact .inr ⟨hB,v,(Below.heap_alloc w o b (Array.getElem?_eq_some_iff.1 hb).1).trans hb,hown.alloc o,hne⟩
theorem jfc.fresh (w:World):jfc w.heap.size w.heap.size [] (w.alloc (.cells #[.pointer none,.slice none 0 0] 330)):=Lib.fresh_isBuilder _ _ w
theorem Kept.blk {b g:Nat} {t:TypeId} {cs:Array Value} {w w':World} (h:Kept b w w') (hb:Blk w g t cs) (hg:g≠b) (ht:t≠5):Blk w' g t cs :=
 h g _ hb (fun e=>hg (Option.some.inj e)) (fun c fz e=>by injection e with _ e2 _;exact ht e2)
theorem jgh (a:GA) (v:Value) (w:World) {S:Nat→Prop} (hv:jae S w v a.args) (hw:wAtom a≤4194304) :
  Calls Tryz.prog 210 #[.agg #[.string a.n,v]] w fun e w'=>e=.returned (.string (strOf (atomL a)))∧Ext w w':=by
 obtain⟨A,c,rfl,hc1,hc2⟩:=jaa.form hv;have HV:=zh hv;have HW:=zh hw;have hn:a.n.size≤4194304:=by unfold wAtom at hw;omega
 clear hv hw;have hbox:Blk (w.alloc (.cells #[.string a.n,.slice A a.args.length c] 43)) w.heap.size 43 #[.string a.n,.slice A a.args.length c]:=Blk.new _ _ _;have hb0:=jfc.fresh (w.alloc (.cells #[.string a.n,.slice A a.args.length c] 43));rw[World.size_alloc] at hb0;have HBX:=zh (hbox.alloc (.cells #[.pointer none,.slice none 0 0] 330));have HB0:=zh hb0;clear hb0 hbox;have tok:True:=trivial
 go_enter Tryz.func210,Tryz.ntmps210
 go_wp2_with (first
  | (go_at_call 275;refine (jeh (w.heap.size+1) (w.heap.size+1) [] a.n _ HB0.out (by simp;omega) (by go_size)).mono ?_;rintro e w1 ⟨rfl,hb1,hz1,hk1⟩;have HB1:=zh hb1;have hx1:=hk1.blk HBX.out (by omega) (by decide);have e10:=hx1.cell 0;have e11:=hx1.cell 1;have HX1:=zh hx1;have hs1:=hz1.size;simp only[World.size_alloc] at hs1;clear hb1 hx1)
  | (go_at_call 276;have _t:=tok;refine (jfs (w.heap.size+1) (w.heap.size+1) _ 40 _ HB1.out (by simp;omega) (by omega)).mono ?_;clear tok _t;rintro e w2 ⟨rfl,hb2,hz2,hk2⟩;have HB2:=zh hb2;have hx2:=hk2.blk HX1.out (by omega) (by decide);have e20:=hx2.cell 0;have e21:=hx2.cell 1;have HX2:=zh hx2;have hs2:=hz2.size;clear hb2 hx2))
 have HE2:=zh (show Ext w w2 from (((Ext.refl w).alloc _).alloc _).trans ((hz1.mono (by omega)).trans (hz2.mono (by omega))));clear e10 e11 e20 e21 hk1 hk2 hz1 hz2;go_loopw [13] (fun i wr=>∃ (k:Nat) (l:List UInt8),k≤a.args.length∧i=.int .i64 k∧Hid (l=a.n.data.toList++[40]++jcx (a.args.take k))∧Hid (jfc (w.heap.size+1) (w.heap.size+1) l wr)∧Ext w wr∧w.heap.size+1<wr.heap.size) (fun i _=>a.args.length-(intOf i).toNat)
 case atStart=>exact⟨0,_,Nat.zero_le _,rfl,by show _=_;rw[List.take_zero,jcx,List.append_nil];rfl,HB2,HE2.out,by omega⟩
 case round =>
  obtain⟨k,l,hk,rfl,hp,hb,hx,hsz⟩:=hrel
  have hlen:l.length≤8388609:=by
   rw[hp.out];have h1:=ji9 (a.args.take k);have h2:=jso a.args k;have h3:=HW.out;have h4:a.n.data.toList.length=a.n.size:=by simp
   unfold wAtom at h3;simp only[List.length_append,List.length_cons,List.length_nil];omega
  by_cases hlt:k<a.args.length
  · obtain ⟨b,off,x,rfl,hbb,hxk,hxs,hc0,hc1⟩:=jae.at_ (HV.out.ext hx) hlt
    have HK:=zh (jsn hxk)
    have hxn:x.n.size≤4194304:=by
     have h1:=ju7 (List.mem_of_getElem? hxk);have h3:=HW.out;unfold wAtom at h3;unfold wTerm at h1;omega
    clear hxk hxs;have HBV:=zh (Blk.new wr 60 #[.bool x.v,.string x.n]);by_cases hk0:k<1
    · have hg:decide (0<k)=false:=decide_eq_false (by omega)
      go_wp2_with (go_at_call 275;refine (jeh (w.heap.size+1) (w.heap.size+1) l x.n _ (hb.out.alloc _) (by omega) (by go_size)).mono ?_;rintro e w3 ⟨rfl,hb3,hz3,hk3⟩;have HB3:=zh hb3;have hs3:=hz3.size;simp only[World.size_alloc] at hs3;clear hb3 hk3)
      go_roundw
      case rel =>
       refine⟨k+1,_,by omega,by go_num,?_,HB3,(hx.alloc _).trans (hz3.mono (by omega)),by omega⟩;show _=_;rw[hp.out,HK.out,if_pos (by omega),show k=0 from by omega,List.take_zero,jcx,List.append_nil,List.nil_append]
      case measure=>simp[intOf];omega
    have hg:decide (0<k)=true:=decide_eq_true (by omega);have tok2:True:=trivial
    go_wp2_with (first
     | (go_at_call 276;have _t:=tok2;refine (jfs (w.heap.size+1) (w.heap.size+1) l 44 _ (hb.out.alloc _) (by omega) (by go_size)).mono ?_;clear tok2 _t;rintro e w3 ⟨rfl,hb3,hz3,hk3⟩;have HB3:=zh hb3;have hv3:=hk3.blk HBV.out (by omega) (by decide);have e30:=hv3.cell 0;have e31:=hv3.cell 1;have hs3:=hz3.size;simp only[World.size_alloc] at hs3;clear hb3 hv3 hk3)
     | (go_at_call 275;refine (jeh (w.heap.size+1) (w.heap.size+1) _ x.n _ HB3.out (by simp;omega) (by omega)).mono ?_;rintro e w4 ⟨rfl,hb4,hz4,hk4⟩;have HB4:=zh hb4;have hs4:=hz4.size;clear hb4 hk4))
    go_roundw
    case rel =>
     refine⟨k+1,_,by omega,by go_num,?_,HB4,((hx.alloc _).trans (hz3.mono (by omega))).trans (hz4.mono (by omega)),by omega⟩;show _=_;rw[hp.out,HK.out,if_neg (by omega)];simp only[List.append_assoc]
    case measure=>simp[intOf];omega
  go_wp2_with (first
    | (go_at_call 276;refine (jfs (w.heap.size+1) (w.heap.size+1) l 41 _ hb.out (by omega) (by omega)).mono ?_;rintro e w3 ⟨rfl,hb3,hz3,hk3⟩;have HB3:=zh hb3;have hs3:=hz3.size;clear hb3 hk3)
    | (go_at_call 277;refine (jvs (w.heap.size+1) (w.heap.size+1) _ _ HB3.out (by omega)).mono ?_;rintro e w4 ⟨rfl,hz4⟩))
  go_ret;refine⟨?_,(hx.trans (hz3.mono (by omega))).trans (hz4.mono (by omega))⟩;refine Eq.trans ?_ (jsb (a:=strOf (l++[41])) ?_)
  · rfl
  rw[hp.out,List.take_of_length_le (by omega)];rfl
end Go.Proofs.YthdojieomhighaaGreatDoor
