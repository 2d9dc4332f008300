/- Own texts, joined. -/
import Derived.Test.YthiflhkcpanaaaaGreatDoorDas02
import Derived.Deep.RegionHeld3
set_option linter.unusedSimpArgs false
set_option linter.unusedVariables false
set_option maxHeartbeats 2000000
set_option maxRecDepth 100000
namespace Go.Proofs.YthiflhkcpanaaaaGreatDoor
open Go.RowKit
def ja8 (l:List GA) (a:GA):Nat:=(l.takeWhile fun x=>ltA x a).length
def isAt (l:List GA) (k:Nat) (a:GA):Bool:=match l[k]? with|some x=>decide (cmpA x a=0)|none=>false
def hasA (l:List GA) (a:GA):Bool:=isAt l (ja8 l a) a
theorem jpa : ∀ (l : List GA) (a:GA) (k:Nat),((l.take k).all fun x=>ltA x a)=true->k<=l.length->(∀ x,l[k]? = some x->ltA x a=false)->ja8 l a=k
 | [], a, k, _, hk, _ => by have:k=0:=by simpa using hk
                            subst this;rfl
 | x :: l,a,0,_,_,hx=>by
   have:=hx x rfl;unfold ja8;rw[List.takeWhile_cons,if_neg (by simp[this])];rfl
 | x :: l,a,k+1,h,hk,hx=>by
   simp only[List.take_succ_cons,List.all_cons,Bool.and_eq_true] at h;have ih:=jpa l a k h.2 (by simpa using hk) (fun y hy=>hx y (by simpa using hy));unfold ja8 at ih ⊢;rw[List.takeWhile_cons,if_pos h.1,List.length_cons,ih]
theorem jk9 (v u:Value) (xs:List GA) (a:GA) (w:World) {S T:Nat->Prop} (hv:jab S w v xs) (hu:jad T w u a.args) :
  Calls Tryz.prog 197 #[v,.agg #[.string a.n,u]] w fun e w'=>e=.returned (.tuple #[.int .i64 (ja8 xs a),.bool (hasA xs a)])/\Ext w w':=by
 obtain⟨A,c,rfl,hc1,hc2⟩:=jaa.form hv;obtain⟨B,d,rfl,hd1,hd2⟩:=jaa.form hu;have HV:=zh (hv.ext ((Ext.refl w).alloc (.cells #[.string a.n,.slice B a.args.length d] 69)));have HU:=zh (hu.ext ((Ext.refl w).alloc (.cells #[.string a.n,.slice B a.args.length d] 69)));clear hv hu
 go_in;go_wp2;go_loopw [6] (fun i wr=>∃ k:Nat,k<=xs.length/\i=.int .i64 k/\J1 (((xs.take k).all fun x=>ltA x a)=true)/\Ext (w.alloc (.cells #[.string a.n,.slice B a.args.length d] 69)) wr) (fun i _=>xs.length-(intOf i).toNat)
 case atStart=>exact⟨0,Nat.zero_le _,rfl,rfl,Ext.refl _⟩
 case round =>
  obtain⟨k,hk,rfl,hp,hx⟩:=hrel;obtain⟨hcc,hcf⟩:=hx.cells;have hz1:=hx.size;simp only[World.size_alloc] at hz1;have hz2:w.heap.size<wr.heap.size:=by omega
  have hk0:(0:Int)<=(k:Int):=Int.natCast_nonneg _;by_cases hlt:k<xs.length
  . obtain ⟨b,off,x,v1,rfl,hb,hxk,hxs,ht,hc0,hc1⟩:=jab.at_ (HV.o.ext hx) hlt
    have hk1:(k:Int)<(xs.length:Int):=by omega
    have HK:=zh hxk;have HC:=zh (fun (W:World) (h:Ext wr W)=>jqu x a v1 _ W (ht.ext h) (HU.o.ext (hx.t h)));have hg:decide (k<xs.length)=true:=decide_eq_true hlt;clear hxk ht hz1;by_cases hcmp:cmpA x a<0
    . have HA:=zh (show ((xs.take (k+1)).all fun x=>ltA x a)=true from by rw[jbo _ _ k x HK.o,hp.o];unfold ltA;simp[hcmp])
      go_wp2_with fail
      refine jaw (by kernel_rfl) (by kernel_rfl) ?_;repeat (go_big_quiet_step ((go_at_call 241;exact jbk (HC.o _ (Later.ext _)))))
      refine wpQuiet_nil ?_;rintro w1 ⟨⟨_,hx1⟩,rfl⟩;go_wp2;go_roundw
      case rel=>exact⟨k+1,by omega,by go_num,HA,hx.t hx1⟩
      case measure=>simp[intOf];omega
    have HA:=zh (jpa xs a k hp.o hk (fun y hy=>by rw[HK.o] at hy;injection hy with hy;subst hy;unfold ltA;simp[hcmp]));have HI:=zh (show hasA xs a=decide (cmpA x a=0) from by unfold hasA;rw[HA.o];unfold isAt;rw[HK.o]);go_wp2_with fail
    refine jaw (by kernel_rfl) (by kernel_rfl) ?_;repeat (go_big_quiet_step ((go_at_call 241;exact jbk (HC.o _ (Later.ext _)))))
    refine wpQuiet_nil ?_;rintro w1 ⟨⟨_,hx1⟩,rfl⟩;have HC1:=zh (fun (W:World) (h:Ext w1 W)=>HC.o W (hx1.t h));obtain⟨hcc1,hcf1⟩:=hx1.cells;have hz3:=hx1.size;have hz4:w.heap.size<w1.heap.size:=by omega
    have hb1:b<w1.heap.size:=by omega
    clear HC hz3;go_wp2_with fail
    refine jaw (by kernel_rfl) (by kernel_rfl) ?_;repeat (go_big_quiet_step ((go_at_call 241;exact jbk (HC1.o _ (Later.ext _)))))
    refine wpQuiet_nil ?_;rintro w2 ⟨⟨_,hx2⟩,rfl⟩;go_wp2;go_ret2;exact⟨by rw[HA.o,HI.o];simp;rw[Bool.eq_iff_iff];simp,(((Ext.refl _).alloc _).t (hx.t hx1)).t hx2⟩
  have HA:=zh (jpa xs a k hp.o hk (fun y hy=>by rw[List.getElem?_eq_none (by omega)] at hy;cases hy));have HI:=zh (show hasA xs a=false from by unfold hasA;rw[HA.o];unfold isAt;rw[List.getElem?_eq_none (by omega)]);have hg:decide (k<xs.length)=false:=decide_eq_false hlt;clear hz1;go_wp2_with fail
  refine jaw (by kernel_rfl) (by kernel_rfl) ?_;repeat (go_big_quiet_step (fail))
  refine wpQuiet_nil ?_;rintro w1 ⟨⟨_,hx1⟩,rfl⟩;obtain⟨hcc1,hcf1⟩:=hx1.cells;go_wp2_with fail
  refine jaw (by kernel_rfl) (by kernel_rfl) ?_;repeat (go_big_quiet_step (fail))
  refine wpQuiet_nil ?_;rintro w2 ⟨⟨_,hx2⟩,rfl⟩;go_wp2;go_ret2;exact⟨by rw[HA.o,HI.o];rfl,(((Ext.refl _).alloc _).t (hx.t hx1)).t hx2⟩
theorem jd3 (v u:Value) (xs:List GA) (a:GA) (w:World) {S T:Nat->Prop} (hv:jab S w v xs) (hu:jad T w u a.args) :
  Calls Tryz.prog 135 #[v,.agg #[.string a.n,u]] w fun e w'=>e=.returned (.bool (hasA xs a))/\Ext w w':=by
 obtain⟨A,c,rfl,hc1,hc2⟩:=jaa.form hv;obtain⟨B,d,rfl,hd1,hd2⟩:=jaa.form hu;have HV:=zh (hv.ext ((Ext.refl w).alloc (.cells #[.string a.n,.slice B a.args.length d] 69)));have HU:=zh (hu.ext ((Ext.refl w).alloc (.cells #[.string a.n,.slice B a.args.length d] 69)));clear hv hu
 go_in;go_wp2_with (go_at_call 197;refine (jk9 _ _ xs a _ HV.o HU.o).mono ?_;rintro e w1 ⟨rfl,hx1⟩)
 go_ret;exact⟨rfl,((Ext.refl _).alloc _).t hx1⟩
def jcd (l m:List GA):Bool:=l.any fun x=>hasA m x
def jas (c:GC):Bool:=jbb c.comes 300 && jbb c.goes 300 && !jcd c.comes c.goes
theorem jf2 (g:GC) (v u:Value) (w:World) {S T:Nat->Prop} (hv:jab S w v g.comes) (hu:jab T w u g.goes) :
  Calls Tryz.prog 69 #[.agg #[v,u]] w fun e w'=>e=.returned (.bool (jas g))/\Ext w w':=by
 obtain⟨A,c,rfl,hc1,hc2⟩:=jaa.form hv;obtain⟨B,d,rfl,hd1,hd2⟩:=jaa.form hu;have HV:=zh (hv.ext ((Ext.refl w).alloc (.cells #[.slice A g.comes.length c,.slice B g.goes.length d] 36)));have HU:=zh (hu.ext ((Ext.refl w).alloc (.cells #[.slice A g.comes.length c,.slice B g.goes.length d] 36)));clear hv hu;have hw1:=jai (jei _ g.comes _ HV.o);cases h1:jbb g.comes 300
 . have HF:=zh (show jas g=false from by unfold jas;rw[h1];rfl)
   have HW:=zh (hw1.2 h1);clear hw1 h1
   go_in;go_wp2_with (go_at_call 134;refine HW.o.mono ?_;rintro e w1 ⟨rfl,hx1⟩)
   go_ret;exact⟨by rw[HF.o];rfl,((Ext.refl _).alloc _).t hx1⟩
 have HW:=zh (hw1.1 h1);clear hw1;have tok:True:=trivial;cases h2:jbb g.goes 300
 . have HF:=zh (show jas g=false from by unfold jas;rw[h2];simp)
   have H2:=zh h2;clear h1 h2
   go_in
   go_wp2_with (first
    | (go_at_call 134;have _t:=tok;refine HW.o.mono ?_;clear tok _t;rintro e w1 ⟨rfl,hx1⟩;obtain⟨hcc,hcf⟩:=hx1.cells)
    | (go_at_call 134;refine ((jai (jei _ g.goes _ (HU.o.ext hx1))).2 H2.o).mono ?_;rintro e w2 ⟨rfl,hx2⟩))
   go_ret;exact⟨by rw[HF.o];rfl,(((Ext.refl _).alloc _).t hx1).t hx2⟩
 have HF:=zh (show jas g = !jcd g.comes g.goes from by unfold jas;rw[h1,h2];rfl);have H2:=zh h2;clear h1 h2
 go_in
 go_wp2_with (first
  | (go_at_call 134;have _t:=tok;refine HW.o.mono ?_;clear tok _t;rintro e w1 ⟨rfl,hx1⟩;obtain⟨hcc,hcf⟩:=hx1.cells)
  | (go_at_call 134;refine ((jai (jei _ g.goes _ (HU.o.ext hx1))).1 H2.o).mono ?_;rintro e w2 ⟨rfl,hx2⟩))
 go_loopw [3] (fun i wr=>∃ k:Nat,k<=g.comes.length/\i=.int .i64 k/\J1 (((g.comes.take k).all fun x=> !hasA g.goes x)=true)/\Ext (w.alloc (.cells #[.slice A g.comes.length c,.slice B g.goes.length d] 36)) wr) (fun i _=>g.comes.length-(intOf i).toNat)
 case atStart=>exact⟨0,Nat.zero_le _,rfl,rfl,hx1.t hx2⟩
 case round =>
  obtain⟨k,hk,rfl,hp,hx⟩:=hrel;clear hcc hcf;obtain⟨hcc,hcf⟩:=hx.cells;have hz1:=hx.size;simp only[World.size_alloc] at hz1;have hz2:w.heap.size<wr.heap.size:=by omega
  have hk0:(0:Int)<=(k:Int):=Int.natCast_nonneg _;by_cases hlt:k<g.comes.length
  . obtain ⟨b,off,x,v1,rfl,hb,hxk,hxs,ht,hc0,hc1⟩:=jab.at_ (HV.o.ext hx) hlt
    have hk1:(k:Int)<(g.comes.length:Int):=by omega
    have HK:=zh hxk;have HT:=zh ht;clear hxk ht hz1;cases hh:hasA g.goes x
    . have HC:=zh (fun (W:World) (h:Ext wr W)=>(jai (jd3 _ v1 g.goes x W (HU.o.ext (hx.t h)) (HT.o.ext h))).2 hh)
      have HP:=zh (show ((g.comes.take (k+1)).all fun x=> !hasA g.goes x)=true from by rw[jbo _ _ k x HK.o,hp.o,hh];rfl);clear hh;go_wp2_with fail
      refine jaw (by kernel_rfl) (by kernel_rfl) ?_;repeat (go_big_quiet_step ((go_at_call 135;exact jbk (HC.o _ (Later.ext _)))))
      refine wpQuiet_nil ?_;rintro w3 ⟨⟨_,hx3⟩,rfl⟩;go_wp2;go_roundw
      case rel=>exact⟨k+1,by omega,by go_num,HP,hx.t hx3⟩
      case measure=>simp[intOf];omega
    have HC:=zh (fun (W:World) (h:Ext wr W)=>(jai (jd3 _ v1 g.goes x W (HU.o.ext (hx.t h)) (HT.o.ext h))).1 hh);have HP:=zh (show jcd g.comes g.goes=true from by unfold jcd;rw[List.any_eq_true];exact⟨x,List.mem_of_getElem? HK.o,hh⟩);clear hh;go_wp2_with fail
    refine jaw (by kernel_rfl) (by kernel_rfl) ?_;repeat (go_big_quiet_step ((go_at_call 135;exact jbk (HC.o _ (Later.ext _)))))
    refine wpQuiet_nil ?_;rintro w3 ⟨⟨_,hx3⟩,rfl⟩;go_wp2;go_ret;exact⟨by rw[HF.o,HP.o];rfl,((Ext.refl _).alloc _).t (hx.t hx3)⟩
  have HP:=zh (show jcd g.comes g.goes=false from by
    have h:=jbl (fun x=> !hasA g.goes x) _ k hlt hp.o;unfold jcd;rw[List.any_eq_false];intro x hx1;have:=List.all_eq_true.1 h x hx1;simpa using this)
  go_wp2;go_ret;exact⟨by rw[HF.o,HP.o];rfl,((Ext.refl _).alloc _).t hx⟩
theorem jwd (t:GT) (w:World) :
  Calls Tryz.prog 149 #[.agg #[.bool t.v,.string t.n]] w fun e w'=>e=.returned (.agg #[.bool t.v,.string t.n])/\Ext w w':=by
 go_in;go_wp2;exact bodyPost_ret (v:=.agg #[.bool t.v,.string t.n]) (by simp[results,Tryz.results149,go_sem]) rfl ⟨rfl,(((Ext.refl _).alloc _).alloc _).alloc _⟩
theorem jgd:(Tryz.prog.info? 157).map (fun i=>(i.zero,i.size,i.bytes))=some (some (.agg #[.bool false,.string ByteArray.empty]),2,24):=by kernel_rfl
theorem jd4:(Tryz.prog.info? 69).map (fun i=>(i.zero,i.size,i.bytes))=some (some (.agg #[.string ByteArray.empty,.slice none 0 0]),2,40):=by kernel_rfl
theorem jnw (a:GA) (v:Value) (w:World) {S:Nat->Prop} (hv:jad S w v a.args) (hn:a.args.length<=4194304) :
  Calls Tryz.prog 188 #[.agg #[.string a.n,v]] w fun e w'=>(∃ v',e=.returned (.agg #[.string a.n,v'])/\jad (From w.heap.size) w' v' a.args)/\Ext w w':=by
 obtain⟨A,c,rfl,hc1,hc2⟩:=jaa.form hv;obtain⟨i0,hi0,hz0,hz1,hz2⟩:=info_parts jgd;have HV:=zh (hv.ext (((Ext.refl w).alloc (.cells #[.string a.n,.slice A a.args.length c] 69)).alloc (.cells #[.string ⟨#[]⟩,.slice none 0 0] 69)));have HB:=zh (Blk.new w 69 #[.string a.n,.slice A a.args.length c]);have HB2:=zh (Blk.new (w.alloc (.cells #[.string a.n,.slice A a.args.length c] 69)) 69 #[.string ⟨#[]⟩,.slice none 0 0]);simp only[World.size_alloc] at HB2;clear hv
 go_in;go_wp2
 go_region_held3 (fun w'=>w'.cell? ⟨w.heap.size,0,none⟩=some (.string a.n)/\w'.cell? ⟨w.heap.size,1,none⟩=some (.slice A a.args.length c))
  (first|go_keep|exact⟨hb1.cell 0,hb1.cell 1⟩)
  ((refine jde (k:=kTerm) (S:=None) (T:=None) (base:=w.heap.size+2) (by rfl) (.tmp 5) (.tmp 7) 67 (by rfl) i0 _ 24 Tryz.underlying67 hi0 hz0 hz1 hz2 (by rfl) (by rfl) (by first|exact OwnK.empty (by simp) (by omega)|exact (OwnK.empty (by simp) (by omega)).drew) A a.args.length c (by rfl) (by first|exact (ListK.elems (k:=kTerm) (S:=S) HV.o).ext ((Ext.refl _).drew.alloc _)|exact (ListK.elems (k:=kTerm) (S:=S) HV.o).ext ((Ext.refl _).alloc _).drew) (fun _ h _=>h) (fun _ _ h=>h) (maxOf (by simp;omega)) (by simp;omega) (by go_size) ?_;intro v1 w1 hap;obtain⟨A1,c1,rfl,hd1,hd2⟩:=hap.own.form;have hb1:=(HB.o.ext (by repeat (first|exact Ext.refl _|apply Ext.drew|apply Ext.alloc))).below hap.below (by omega);have hb2:=(HB2.o.ext (by repeat (first|exact Ext.refl _|apply Ext.drew|apply Ext.alloc))).below hap.below (by omega);have q0:=hb2.cell 0;have q1:=hb2.cell 1;have f0:=hb2.frozen 0;have f1:=hb2.frozen 1;have hl:=hb2.lt))
 go_wp2;simp only[List.nil_append] at hap;refine bodyPost_ret (v:=.agg #[.string a.n,.slice A1 a.args.length c1]) (by simp[results,Tryz.results188,go_sem,q0,q1]) rfl ⟨⟨_,rfl,?_⟩,?_⟩
 . have h1:=hap.own.list (S':=From (w.heap.size+2)) (fun _ h=>h.elim) (fun _ h=>h)
   exact jad.imp (S:=From (w.heap.size+2)) (w:=w1) h1 (jdd (by omega)) (((Agree.refl _ _).setCell (by simp) _).setCell (by simp) _) (by go_size)
 exact Ext.setNew (a:=w) (Ext.setNew (hap.toExt (by repeat (first|exact Ext.refl _|apply Ext.drew|apply Ext.alloc)) (by omega)) (by simp) _) (by simp) _
def lessA (xs ys:List GA):List GA:=xs.filter fun x=> !hasA ys x
theorem jnx {xs ys:List GA} {k:Nat} {x:GA} (h:xs[k]? = some x):lessA (xs.take (k+1)) ys=lessA (xs.take k) ys++if hasA ys x=true then [] else [x]:=by
 obtain⟨hk,rfl⟩:=List.getElem?_eq_some_iff.1 h;unfold lessA;rw[List.take_succ_eq_append_getElem hk,List.filter_append]
 congr 1
 cases h:hasA ys xs[k]<;>simp[h]
theorem jge (xs ys:List GA):(lessA xs ys).length<=xs.length:=List.length_filter_le _ _
theorem jwe (l:List GT):l.length<=jbz l:=Nat.le_add_right _ _
theorem jwf (l:List GA):l.length<=jb7 l:=Nat.le_add_right _ _
theorem ji5 (a:GA):a.args.length<=wAtom a:=Nat.le_trans (jwe _) (Nat.le_add_left _ _)
theorem jwg (v u:Value) (xs ys:List GA) (w:World) {S T:Nat->Prop} (hv:jab S w v xs) (hu:jab T w u ys) (hn:jb7 xs<=4194304) :
  Calls Tryz.prog 198 #[v,u] w fun e w'=>(∃ v',e=.returned v'/\jab (From w.heap.size) w' v' (lessA xs ys)/\OwnK kAtom w.heap.size 69 (From w.heap.size) w' v' (lessA xs ys))/\Ext w w':=by
 obtain⟨A,c,rfl,hc1,hc2⟩:=jaa.form hv;obtain⟨B,d,rfl,hd1,hd2⟩:=jaa.form hu;obtain⟨i0,hi0,hz0,hz1,hz2⟩:=info_parts jd4;have HV:=zh hv;have HU:=zh hu;have HN:=zh hn;have hlen:xs.length<=4194304:=Nat.le_trans (jwf _) hn;clear hv hu hn
 go_in;go_wp2;go_loopw [5,6] (fun v i wr=>∃ k:Nat,k<=xs.length/\i=.int .i64 k/\J1 (OwnK kAtom w.heap.size 69 (From w.heap.size) wr v (lessA (xs.take k) ys))/\Ext w wr) (fun _ i _=>xs.length-(intOf i).toNat)
 case atStart=>exact⟨0,Nat.zero_le _,rfl,OwnK.empty rfl (Nat.le_refl _),(Ext.refl _).alloc _⟩
 case round =>
  obtain⟨k,hk,rfl,ho,hx⟩:=hrel;obtain⟨A0,c0,rfl,ha0,hb0⟩:=ho.o.form;have hlk:=jge (xs.take k) ys;rw[List.length_take,Nat.min_eq_left hk] at hlk;have hsz:=hx.size;by_cases hlt:k<xs.length
  . obtain ⟨b,off,x,v1,rfl,hb,hxk,hxs,ht,hc0,hc1⟩:=jab.at_ (HV.o.ext hx) hlt
    obtain⟨A1,c1,rfl,ha1,hb1⟩:=jaa.form ht;have HX:=zh (show x.args.length<=4194304 from Nat.le_trans (Nat.le_trans (ji5 x) (jns (List.mem_of_getElem? hxk))) HN.o);have HT:=zh ht;cases hh:hasA ys x
    . have HK:=zh (show lessA (xs.take (k+1)) ys=lessA (xs.take k) ys++[x] from by rw[jnx hxk,hh];rfl)
      have H2:=zh hh;clear hxk hh ht
      go_wp2_with (first
       | (go_at_call 135;refine ((jai (jd3 _ _ ys x _ (HU.o.ext hx) HT.o)).2 H2.o).mono ?_;rintro e w1 ⟨rfl,hx1⟩;obtain⟨hcc,hcf⟩:=hx1.cells)
       | (go_at_call 188;refine (jnw x _ _ (HT.o.ext hx1) HX.o).mono ?_;rintro e w2 ⟨⟨v2,rfl,ht2⟩,hx2⟩;obtain⟨A2,c2,rfl,ha2,hb2⟩:=jaa.form ht2;have HT2:=zh ht2;clear ht2)
       | (at_builtin;refine jco (k:=kAtom) (T:=From w1.heap.size) rfl (.tmp 21) (.tmp 27) 24 (by rfl) i0 _ 40 Tryz.underlying24 hi0 hz0 hz1 hz2 (by rfl) (by rfl) ((ho.o.ext (hx1.t hx2)).ext ((Ext.refl _).alloc _)) _ 1 1 (by rfl) (jar.one (k:=kAtom) (x:=x) (Blk.new _ _ _) ⟨_,rfl,hxs,HT2.o.ext ((Ext.refl _).alloc _)⟩) (fun _ hb _=>Nat.le_trans (hx.t hx1).size hb) (fun g hg hT=>absurd (Nat.lt_of_lt_of_le (ho.o.at_ g hg).2 hx1.size) (Nat.not_lt.2 hT)) (maxOf (by omega)) (by omega) (Nat.le_trans ((hx.t hx1).t hx2).size (by go_size)) ?_;intro v3 w3 hap))
      go_roundw
      case rel=>exact⟨k+1,by omega,by go_num,zh (by rw[HK.o];exact hap.own),hap.toExt (((hx.t hx1).t hx2).alloc _) (Nat.le_refl _)⟩
      case measure=>simp[intOf];omega
    have HK:=zh (show lessA (xs.take (k+1)) ys=lessA (xs.take k) ys from by rw[jnx hxk,hh];simp);have H2:=zh hh;clear hxk hh ht;go_wp2_with (go_at_call 135;refine ((jai (jd3 _ _ ys x _ (HU.o.ext hx) HT.o)).1 H2.o).mono ?_;rintro e w1 ⟨rfl,hx1⟩)
    go_roundw
    case rel=>exact⟨k+1,by omega,by go_num,zh (by rw[HK.o];exact ho.o.ext hx1),hx.t hx1⟩
    case measure=>simp[intOf];omega
  have HK:=zh (show xs.take k=xs from List.take_of_length_le (by omega));go_wp2;go_ret;have h1:=ho.o.list (S':=From w.heap.size) (fun _ h=>h) (fun _ h=>h);have h2:=ho.o;rw[HK.o] at h1 h2;exact⟨⟨_,rfl,(by rw[HK.o];exact h1),(by rw[HK.o];exact h2)⟩,hx⟩
def putA (xs:List GA) (a:GA):List GA:=if hasA xs a=true then xs else xs.take (ja8 xs a)++[a]++xs.drop (ja8 xs a)
theorem jgf (xs:List GA) (a:GA):ja8 xs a<=xs.length:=by unfold ja8;exact (List.takeWhile_sublist _).length_le
/-! ### Patterns and words -/
structure GS where
 v:Option Nat
 w:ByteArray
structure GPat where
 n:ByteArray
 slots:List GS
abbrev Words:=List ByteArray
def jcr:ByteArray:=⟨#[]⟩
def Words.at_ (W:Words) (v:Nat):ByteArray:=W.getD v jcr
def jau (W:Words) (s:GS):ByteArray:=match s.v with
 | none=>s.w
 | some v=>W.at_ v
def isNo (s:ByteArray):Bool:=decide (s.size=0)
theorem ju6 {s:ByteArray}:isNo s=true↔s=jcr:=by
 unfold isNo jcr
 constructor
 . intro h
   have h1:=of_decide_eq_true h
   cases s with
   | mk d =>
     have:d.size=0:=h1;rw[Array.eq_empty_of_size_eq_zero this]
 intro h;subst h;rfl
def bindW (W:Words) (s:GS) (x:ByteArray):Words:=match s.v with
 | none=>W
 | some v=>W.set v x
def jb9:List GS->List GT->Words->Words × Bool
 | s :: ss,t :: ts,W =>
   if t.v || isNo t.n then (W,false)
   else if isNo (jau W s) then jb9 ss ts (bindW W s t.n)
   else if jau W s=t.n then jb9 ss ts W else (W,false)
 | _,_,W=>(W,true)
def jak (p:GPat) (a:GA) (W:Words):Words × Bool:=if p.n=a.n/\p.slots.length=a.args.length then jb9 p.slots a.args W else (W,false)
def factP (W:Words) (p:GPat):GA:=⟨p.n,p.slots.map fun s=>⟨false,jau W s⟩⟩
/-! ### Candidates -/
def under (facts:List GA) (n:ByteArray) (size:Nat) (at_:Option (Nat × ByteArray)) (j:Nat):Bool:=match facts[j]? with
 | none=>false
 | some a=>decide (a.n=n/\a.args.length=size) && match at_ with
   | none=>true
   | some (i,w)=>match a.args[i]? with
     | none=>false
     | some t=>decide (t.n=w)
def jal (facts:List GA) (n:ByteArray) (size:Nat) (at_:Option (Nat × ByteArray)):List Nat:=(List.range facts.length).filter (under facts n size at_)
def jb5 (facts:List GA) (p:GPat) (W:Words) (best:List Nat) (x:GS × Nat):List Nat :=
 if isNo (jau W x.1) then best
 else if (jal facts p.n p.slots.length (some (x.2,jau W x.1))).length<best.length then jal facts p.n p.slots.length (some (x.2,jau W x.1)) else best
def candP (facts:List GA) (p:GPat) (W:Words):List Nat:=p.slots.zipIdx.foldl (jb5 facts p W) (jal facts p.n p.slots.length none)
structure SE where
 facts:List GA
 rounds:List Nat
 parts:List GPat
 nots:List GPat
 wanted:List Bool
 inOrder:Bool
 ahead:Nat
def SE.settled (E:SE) (W:Words):Bool:=E.wanted.zipIdx.all fun x=> !x.1 || !isNo (W.at_ x.2)
def sameA (a b:GA):Bool:=decide (a.n=b.n/\a.args.map (·.n)=b.args.map (·.n))
def SE.hindered (E:SE) (W:Words):Bool:=E.nots.any fun p=>E.facts.any (sameA (factP W p))
def jav (E:SE) (left:Nat) (W:Words) (o:Option (Nat × List Nat)) (x:GPat × Nat):Option (Nat × List Nat) :=
 if left.testBit x.2 then match o with
  | none=>some (x.2,candP E.facts x.1 W)
  | some (b,l)=>if E.inOrder then some (b,l) else if (candP E.facts x.1 W).length<l.length then some (x.2,candP E.facts x.1 W) else some (b,l)
 else o
def SE.choose (E:SE) (left:Nat) (W:Words):Option (Nat × List Nat):=E.parts.zipIdx.foldl (jav E left W) none
def jaj (left i:Nat):Nat:=if left.testBit i then left ^^^ 2 ^ i else left
def SE.skip (E:SE) (j:Nat):Bool:=E.inOrder && decide (E.ahead<=E.rounds.getD j 0)
def jaf (E:SE) (rec_:Words->List Words × Bool) (settled:Bool) (p:GPat) (W:Words):List Nat->Bool->List Words × Bool
 | [],held=>([],held)
 | j :: l,held =>
   if E.skip j then jaf E rec_ settled p W l held
   else match E.facts[j]? with
    | none=>jaf E rec_ settled p W l held
    | some a =>
      if (jak p a W).2 then
       let r:=rec_ (jak p a W).1
       if (held || r.2) && settled then (r.1,held || r.2)
       else let q:=jaf E rec_ settled p W l (held || r.2);(r.1++q.1,q.2)
      else if held && settled then ([],held) else jaf E rec_ settled p W l held
def told (E:SE):Nat->Nat->Words->List Words × Bool
 | 0,_,_=>([],false)
 | f + 1,left,W =>
   if E.settled W && E.hindered W then ([],false)
   else if left=0 then ([W],true)
   else match E.choose left W with
    | none=>([],false)
    | some (i,l)=>match E.parts[i]? with
      | none=>([],false)
      | some p=>jaf E (told E f (jaj left i)) (E.settled W) p W l false
def feed {σ:Type} (tell:σ->Words->σ × Bool):List Words->σ->σ × Bool
 | [],st=>(st,true)
 | W :: l,st=>if (tell st W).2 then feed tell l (tell st W).1 else ((tell st W).1,false)
/-! ### What words say -/
def Words.below (W V:Words):Prop:=W.length=V.length/\∀ v,isNo (W.at_ v)=false->V.at_ v=W.at_ v
theorem jny (W:Words):W.below W:=⟨rfl,fun _ _=>rfl⟩
theorem jhj {U V W:Words} (h:U.below V) (k:V.below W):U.below W:=⟨h.1.trans k.1,fun v hv=>by
 have h1:=h.2 v hv;rw[<- h1] at hv ⊢;exact k.2 v hv⟩
theorem jkd (W:Words) (v:Nat) (x:ByteArray) (u:Nat):Words.at_ (W.set v x) u=if v=u/\v<W.length then x else W.at_ u:=by
 unfold Words.at_;rw[List.getD_eq_getElem?_getD,List.getD_eq_getElem?_getD,List.getElem?_set];by_cases h:v=u
 . subst h
   by_cases h2:v<W.length
   . simp[h2]
   simp[h2]
 simp[h]
def jb2 (m:Nat) (s:GS):Prop:=match s.v with
 | none=>isNo s.w=false
 | some v=>v<m
def jlr (a:GA):Prop:=∀ t∈a.args,t.v=false/\isNo t.n=false
theorem jnz {W:Words} {s:GS} {x:ByteArray} (hs:jb2 W.length s) (h:isNo (jau W s)=true):W.below (bindW W s x)/\jau (bindW W s x) s=x:=by
 unfold jb2 at hs;unfold jau at h ⊢;unfold bindW
 cases hv:s.v with
 | none=>rw[hv] at hs h;simp only at hs h;rw[h] at hs;cases hs
 | some v =>
   rw[hv] at hs h;simp only at hs h ⊢;refine⟨⟨(List.length_set).symm,fun u hu=>?_⟩,?_⟩
   . rw [jkd]
     split
     . rename_i e
       rw[<- e.1,h] at hu;cases hu
     rfl
   rw[jkd,if_pos ⟨rfl,hs⟩]
theorem jda {W V:Words} {s:GS} (h:W.below V) (hk:isNo (jau W s)=false):jau V s=jau W s:=by
 unfold jau at hk ⊢
 cases hv:s.v with
 | none=>rfl
 | some v=>rw[hv] at hk;exact h.2 v hk
theorem jhk:∀ {ss:List GS} {ts:List GT} {W V:Words},(∀ s∈ss,jb2 W.length s)->ss.length=ts.length->jb9 ss ts W=(V,true) ->
  W.below V/\(∀ s∈ss,isNo (jau V s)=false)/\ss.map (jau V)=ts.map (·.n)/\∀ v,isNo (W.at_ v)=true->isNo (V.at_ v)=false->∃ s∈ss,s.v=some v
 | [],[],W,V,_,_,h=>by
   simp only[jb9,Prod.mk.injEq,and_true] at h;subst h;exact⟨jny _,fun s hs=>(by cases hs),rfl,fun v h1 h2=>(by rw[h1] at h2;cases h2)⟩
 | [],_ :: _,_,_,_,hl,_=>by simp at hl
 | _ :: _,[],_,_,_,hl,_=>by simp at hl
 | s :: ss,t :: ts,W,V,hs,hl,h=>by
   have hl':ss.length=ts.length:=by simpa using hl
   simp only[jb9] at h;split at h
   . simp at h
   rename_i hbad
   have ht2:isNo t.n=false:=by
    cases h2:isNo t.n
    . rfl
    rw[h2,Bool.or_true] at hbad;exact absurd rfl hbad
   split at h
   . rename_i hno
     have hb:=jnz (x:=t.n) (hs s (by simp)) hno;have hlen:(bindW W s t.n).length=W.length:=hb.1.1.symm;obtain⟨h1,h2,h3,h4⟩:=jhk (fun s' hs'=>by rw[hlen];exact hs s' (List.mem_cons_of_mem _ hs')) hl' h;have hk:isNo (jau (bindW W s t.n) s)=false:=by rw[hb.2];exact ht2
     have hw:=jda h1 hk;refine⟨jhj hb.1 h1,fun s' hs'=>?_,?_,fun v hv1 hv2=>?_⟩
     . rcases List.mem_cons.1 hs' with rfl|hs'
       . rw[hw];exact hk
       exact h2 s' hs'
     . rw[List.map_cons,List.map_cons,h3,hw,hb.2]
     by_cases e:isNo ((bindW W s t.n).at_ v)=true
     . obtain ⟨s',hs',hv'⟩:=h4 v e hv2
       exact⟨s',List.mem_cons_of_mem _ hs',hv'⟩
     refine⟨s,by simp,?_⟩;unfold bindW at e
     cases hsv:s.v with
     | none=>rw[hsv] at e;exact absurd hv1 e
     | some u =>
       rw[hsv] at e;simp only at e;rw[jkd] at e;split at e
       . rename_i e2;rw[e2.1]
       exact absurd hv1 e
   rename_i hno;have hk:isNo (jau W s)=false:=by simpa using hno
   split at h
   . rename_i heq
     obtain⟨h1,h2,h3,h4⟩:=jhk (fun s' hs'=>hs s' (List.mem_cons_of_mem _ hs')) hl' h;have hw:=jda h1 hk;refine⟨h1,fun s' hs'=>?_,?_,fun v hv1 hv2=>?_⟩
     . rcases List.mem_cons.1 hs' with rfl|hs'
       . rw[hw];exact hk
       exact h2 s' hs'
     . rw[List.map_cons,List.map_cons,h3,hw,heq]
     obtain⟨s',hs',hv'⟩:=h4 v hv1 hv2;exact⟨s',List.mem_cons_of_mem _ hs',hv'⟩
   simp at h
theorem jgg:∀ {ss:List GS} {ts:List GT} {W R:Words},(∀ s∈ss,jb2 W.length s)->ss.length=ts.length->W.below R->(∀ t∈ts,t.v=false/\isNo t.n=false)->ss.map (jau R)=ts.map (·.n) ->
  ∃ V,jb9 ss ts W=(V,true)/\V.below R
 | [],[],W,R,_,_,hW,_,_=>⟨W,rfl,hW⟩
 | [],_ :: _,_,_,_,hl,_,_,_=>by simp at hl
 | _ :: _,[],_,_,_,hl,_,_,_=>by simp at hl
 | s :: ss,t :: ts,W,R,hs,hl,hW,ht,hm=>by
   have hl':ss.length=ts.length:=by simpa using hl
   obtain⟨ht1,ht2⟩:=ht t (by simp);rw[List.map_cons,List.map_cons] at hm;injection hm with hm1 hm2
   simp only[jb9];rw[if_neg (by rw[ht1,ht2];simp)];by_cases hno:isNo (jau W s)=true
   . rw [if_pos hno]
     have hb:=jnz (x:=t.n) (hs s (by simp)) hno;have hlen:(bindW W s t.n).length=W.length:=hb.1.1.symm;refine jgg (fun s' hs'=>by rw[hlen];exact hs s' (List.mem_cons_of_mem _ hs')) hl' ⟨hlen.trans hW.1,fun v hv=>?_⟩ (fun t' ht'=>ht t' (List.mem_cons_of_mem _ ht')) hm2;unfold bindW at hv ⊢
     cases hsv:s.v with
     | none=>rw[hsv] at hv;exact hW.2 v hv
     | some u =>
       rw[hsv] at hv;simp only at hv ⊢;rw[jkd] at hv ⊢;split
       . rename_i e
         rw[<- hm1,<- e.1];unfold jau;rw[hsv]
       rename_i e;rw[if_neg e] at hv;exact hW.2 v hv
   rw[if_neg hno];have hk:isNo (jau W s)=false:=by simpa using hno
   have hw:=jda hW hk;rw[if_pos (hw.symm.trans hm1)];exact jgg (fun s' hs'=>hs s' (List.mem_cons_of_mem _ hs')) hl' hW (fun t' ht'=>ht t' (List.mem_cons_of_mem _ ht')) hm2
/-! ### Candidates are all that may match -/
def Holds (facts:List GA) (p:GPat) (V:Words):Prop:=∃ a∈facts,a.n=p.n/\a.args.map (·.n)=p.slots.map (jau V)
def known (V:Words) (p:GPat):Prop:=∀ s∈p.slots,isNo (jau V s)=false
theorem jfa {α β:Type} {f:β->α->β} {I:β->Prop}:∀ {l:List α} {b:β},(∀ b x,x∈l->I b->I (f b x))->I b->I (l.foldl f b)
 | [],_,_,h=>h
 | x :: l,b,hs,h=>jfa (l:=l) (b:=f b x) (fun b y hy=>hs b y (List.mem_cons_of_mem _ hy)) (hs b x (by simp) h)
theorem jgy {facts:List GA} {n:ByteArray} {size:Nat} {at_:Option (Nat × ByteArray)} {j:Nat}:j∈jal facts n size at_↔under facts n size at_ j=true:=by
 unfold jal;rw[List.mem_filter,List.mem_range]
 constructor
 . exact fun h=>h.2
 intro h;refine⟨?_,h⟩;unfold under at h
 cases hj:facts[j]? with
 | none=>rw[hj] at h;cases h
 | some a=>exact (List.getElem?_eq_some_iff.1 hj).1
theorem j0i {facts:List GA} {n:ByteArray} {size:Nat} {at_:Option (Nat × ByteArray)} {j:Nat} (h:under facts n size at_ j=true):∃ a,facts[j]? = some a/\a.n=n/\a.args.length=size:=by
 unfold under at h
 cases hj:facts[j]? with
 | none=>rw[hj] at h;cases h
 | some a =>
   rw[hj] at h;simp only[Bool.and_eq_true,decide_eq_true_eq] at h;exact⟨a,rfl,h.1⟩
theorem jya {facts:List GA} {p:GPat} {W:Words} {j:Nat} (h:j∈candP facts p W):∃ a,facts[j]? = some a/\a.n=p.n/\a.args.length=p.slots.length:=by
 have key:∀ j∈candP facts p W,∃ at_,under facts p.n p.slots.length at_ j=true:=by
  unfold candP;refine jfa (I:=fun b=>∀ j∈b,∃ at_,under facts p.n p.slots.length at_ j=true) (fun b x _ hb=>?_) (fun j hj=>⟨none,jgy.1 hj⟩);unfold jb5;split
  . exact hb
  split
  . exact fun j hj=>⟨_,jgy.1 hj⟩
  exact hb
 obtain⟨at_,hu⟩:=key j h;exact j0i hu
theorem j0j {facts:List GA} {p:GPat} {W R:Words} {j:Nat} {a:GA} (hW:W.below R) (hj:facts[j]? = some a) (hn:a.n=p.n) (hm:a.args.map (·.n)=p.slots.map (jau R)):j∈candP facts p W:=by
 have hlen:a.args.length=p.slots.length:=by simpa using congrArg List.length hm
 unfold candP;refine jfa (I:=fun b=>j∈b) (fun b x hx hb=>?_) (jgy.2 (by unfold under;rw[hj];simp[hn,hlen]));unfold jb5;split
 . exact hb
 rename_i hno;split
 . refine jgy.2 ?_
   obtain⟨s,i⟩:=x;have hs:p.slots[i]? = some s:=List.mem_zipIdx_iff_getElem?.1 hx;have hk:isNo (jau W s)=false:=by simpa using hno
   have hw:=jda hW hk;have hi:(a.args.map (·.n))[i]? = some (jau R s):=by rw[hm,List.getElem?_map,hs];rfl
   rw[List.getElem?_map] at hi;unfold under;rw[hj]
   cases ht:a.args[i]? with
   | none=>rw[ht] at hi;cases hi
   | some t =>
     rw[ht] at hi;simp only[Option.map_some,Option.some.injEq] at hi;simp[hn,hlen,hi,hw,ht]
 exact hb
theorem jh7 {E:SE} {left:Nat} {W:Words} {i:Nat} {l:List Nat} (h:E.choose left W=some (i,l)):left.testBit i=true/\∃ p,E.parts[i]? = some p/\l=candP E.facts p W:=by
 unfold SE.choose at h
 have key:∀ i l,E.parts.zipIdx.foldl (jav E left W) none=some (i,l)->left.testBit i=true/\∃ p,E.parts[i]? = some p/\l=candP E.facts p W:=by
  refine jfa (I:=fun o=>∀ i l,o=some (i,l)->left.testBit i=true/\∃ p,E.parts[i]? = some p/\l=candP E.facts p W) (fun o x hx ho=>?_) (fun i l h=>by cases h);intro i l h;unfold jav at h;have hxp:E.parts[x.2]? = some x.1:=List.mem_zipIdx_iff_getElem?.1 hx;split at h
  . rename_i hb
    have mine:∀ {i l},(x.2,candP E.facts x.1 W)=(i,l)->left.testBit i=true/\∃ p,E.parts[i]? = some p/\l=candP E.facts p W:=fun {i l} e=>by
     injection e with e1 e2
     subst e1;subst e2;exact⟨hb,x.1,hxp,rfl⟩
    cases ho2:o with
    | none=>rw[ho2] at h;exact mine (Option.some.inj h)
    | some q =>
      obtain⟨b,m⟩:=q;rw[ho2] at h;simp only at h;split at h
      . exact ho i l (ho2.trans h)
      split at h
      . exact mine (Option.some.inj h)
      exact ho i l (ho2.trans h)
  exact ho i l h
 exact key i l h
theorem jtb {E:SE} {left:Nat} {W:Words} {i:Nat} (hi:i<E.parts.length) (hb:left.testBit i=true):E.choose left W≠none:=by
 unfold SE.choose;obtain⟨x,hx⟩:∃ x,E.parts[i]? = some x:=⟨_,List.getElem?_eq_getElem hi⟩
 have hm:(x,i)∈E.parts.zipIdx:=List.mem_zipIdx_iff_getElem?.2 hx;obtain⟨l1,l2,hl⟩:=List.append_of_mem hm;rw[hl,List.foldl_append,List.foldl_cons];refine jfa (I:=fun o=>o≠none) (fun o y _ ho=>?_) ?_
 . unfold jav
   split
   . cases o with
     | none=>exact fun h=>by cases h
     | some q =>
       simp only;split
       . exact fun h=>by cases h
       split<;>exact fun h=>by cases h
   exact ho
 unfold jav;rw[if_pos hb];split
 . exact fun h=>by cases h
 split
 . exact fun h=>by cases h
 split<;>exact fun h=>by cases h
/-! ### Through candidates -/
theorem jfb {E:SE} {rec_:Words->List Words × Bool} {settled:Bool} {p:GPat} {W:Words}:∀ {l:List Nat} {held:Bool} {V:Words},V∈(jaf E rec_ settled p W l held).1 ->
  ∃ j∈l,∃ a,E.facts[j]? = some a/\(jak p a W).2=true/\V∈(rec_ (jak p a W).1).1
 | [],held,V,h=>by simp[jaf] at h
 | j :: l,held,V,h=>by
   have up:(∃ j∈l,∃ a,E.facts[j]? = some a/\(jak p a W).2=true/\V∈(rec_ (jak p a W).1).1)->∃ j'∈j :: l,∃ a,E.facts[j']? = some a/\(jak p a W).2=true/\V∈(rec_ (jak p a W).1).1:=fun ⟨j',h1,h2⟩=>⟨j',List.mem_cons_of_mem _ h1,h2⟩
   simp only[jaf] at h;split at h
   . exact up (jfb h)
   cases hj:E.facts[j]? with
   | none=>rw[hj] at h;exact up (jfb h)
   | some a =>
     rw[hj] at h;simp only at h;split at h
     . rename_i hm
       split at h
       . exact⟨j,by simp,a,hj,hm,h⟩
       rcases List.mem_append.1 h with h|h
       . exact⟨j,by simp,a,hj,hm,h⟩
       exact up (jfb h)
     split at h
     . cases h
     exact up (jfb h)
theorem jej {E:SE} {rec_:Words->List Words × Bool} {settled:Bool} {p:GPat} {W:Words} (hr:∀ W',(rec_ W').2 = !(rec_ W').1.isEmpty):∀ {l:List Nat} {held:Bool},(jaf E rec_ settled p W l held).2=(held || !(jaf E rec_ settled p W l held).1.isEmpty)
 | [],held=>by simp[jaf]
 | j :: l,held=>by
   simp only[jaf];split
   . exact jej hr
   cases hj:E.facts[j]? with
   | none=>exact jej hr
   | some a =>
     simp only;split
     . split
       . rw[hr]
       rw[jej hr,hr];cases held<;>cases (rec_ (jak p a W).1).1<;>simp
     split
     . rename_i h
       cases held<;>simp at h ⊢
     exact jej hr
theorem jla {E:SE} {rec_:Words->List Words × Bool} {p:GPat} {W:Words} (ho:E.inOrder=false):∀ {l:List Nat} {held:Bool} {j:Nat} {a:GA} {V:Words},j∈l->E.facts[j]? = some a->(jak p a W).2=true->V∈(rec_ (jak p a W).1).1 ->
  V∈(jaf E rec_ false p W l held).1
 | [],_,_,_,_,h,_,_,_=>by cases h
 | j :: l,held,j',a,V,h,hj,hm,hV=>by
   have hsk:E.skip j=false:=by unfold SE.skip;rw[ho];rfl
   simp only[jaf,hsk,Bool.false_eq_true,if_false,Bool.and_false];rcases List.mem_cons.1 h with rfl|h
   . rw [hj]
     simp only[hm,if_true];exact List.mem_append_left _ hV
   cases hj2:E.facts[j]? with
   | none=>exact jla ho h hj hm hV
   | some b =>
     simp only;split
     . exact List.mem_append_right _ (jla ho h hj hm hV)
     exact jla ho h hj hm hV
theorem jh8 {E:SE} {rec_:Words->List Words × Bool} {settled:Bool} {p:GPat} {W:Words} (ho:E.inOrder=false) (hr:∀ W',(rec_ W').2 = !(rec_ W').1.isEmpty):∀ {l:List Nat} {held:Bool} {j:Nat} {a:GA} {V:Words},j∈l->E.facts[j]? = some a->(jak p a W).2=true->V∈(rec_ (jak p a W).1).1 ->
  (jaf E rec_ settled p W l held).2=true
 | [],_,_,_,_,h,_,_,_=>by cases h
 | j :: l, held,j',a,V,h,hj,hm,hV=>by
   have hsk:E.skip j=false:=by unfold SE.skip;rw[ho];rfl
   simp only[jaf,hsk,Bool.false_eq_true,if_false];rcases List.mem_cons.1 h with rfl|h
   . rw [hj]
     have hne:(rec_ (jak p a W).1).2=true:=by
      rw[hr]
      cases hl:(rec_ (jak p a W).1).1 with
      | nil=>rw[hl] at hV;cases hV
      | cons _ _=>rfl
     simp only[hm,if_true,hne,Bool.or_true,Bool.true_and];split
     . rfl
     rw[jej hr];rfl
   cases hj2:E.facts[j]? with
   | none=>exact jh8 ho hr h hj hm hV
   | some b =>
     simp only;split
     . split
       . rename_i h2
         rw[Bool.and_eq_true] at h2;exact h2.1
       exact jh8 ho hr h hj hm hV
     split
     . rename_i h2
       rw[Bool.and_eq_true] at h2;exact h2.1
     exact jh8 ho hr h hj hm hV
/-! ### What is left -/
theorem jdt {left i j:Nat} (h:left.testBit i=true):(jaj left i).testBit j=(left.testBit j && !decide (i=j)):=by
 unfold jaj;rw[if_pos h,Nat.testBit_xor,Nat.testBit_two_pow];by_cases e:i=j
 . subst e;simp[h]
 simp[e]
def jh9 (n left:Nat):Nat:=(List.range n).countP left.testBit
theorem jgh {n left i:Nat} (hi:i<n) (h:left.testBit i=true):jh9 n (jaj left i)+1<=jh9 n left:=by
 unfold jh9;have hm:i∈List.range n:=List.mem_range.2 hi;obtain⟨l1,l2,hl⟩:=List.append_of_mem hm
 have hle:∀ l:List Nat,l.countP (jaj left i).testBit<=l.countP left.testBit:=fun l=>List.countP_mono_left (fun x _ hx=>by
  rw[jdt h,Bool.and_eq_true] at hx;exact hx.1)
 rw[hl,List.countP_append,List.countP_append,List.countP_cons,List.countP_cons];have e1:(jaj left i).testBit i=false:=by rw[jdt h];simp
 simp only[e1,h,Bool.false_eq_true,if_false,if_true];have:=hle l1;have:=hle l2;omega
theorem j0k {left:Nat} (h:left≠0):∃ i,left.testBit i=true:=by
 refine Classical.byContradiction fun hn=>h ?_
 refine Nat.eq_of_testBit_eq fun i=>?_
 rw[Nat.zero_testBit]
 cases hi:left.testBit i with
 | false=>rfl
 | true=>exact absurd ⟨i,hi⟩ hn
/-! ### What is told -/
structure SE.Ok (E:SE) (m:Nat):Prop where
 parts:∀ p∈E.parts,∀ s∈p.slots,jb2 m s
 facts:∀ a∈E.facts,jlr a
 free:E.inOrder=false
 wlen:E.wanted.length=m
 cover:∀ v,E.wanted[v]? = some true->∃ p∈E.parts,∃ s∈p.slots,s.v=some v
 nots:∀ p∈E.nots,∀ s∈p.slots,∀ v,s.v=some v->E.wanted[v]? = some true
def SE.Done (E:SE) (left:Nat) (W:Words):Prop:=∀ i p,E.parts[i]? = some p->left.testBit i=false->known W p/\Holds E.facts p W
theorem jhl {facts:List GA} {p:GPat} {W V:Words} (h:W.below V) (hk:known W p) (hh:Holds facts p W):known V p/\Holds facts p V:=by
 have hm:p.slots.map (jau V)=p.slots.map (jau W):=List.map_congr_left fun s hs=>jda h (hk s hs)
 obtain⟨a,h1,h2,h3⟩:=hh;exact⟨fun s hs=>by rw[jda h (hk s hs)];exact hk s hs,a,h1,h2,by rw[hm];exact h3⟩
theorem jfo {E:SE} {W:Words}:E.settled W=true↔∀ v,E.wanted[v]? = some true->isNo (W.at_ v)=false:=by
 unfold SE.settled;rw[List.all_eq_true]
 constructor
 . intro h v hv
   have:=h (true,v) (List.mem_zipIdx_iff_getElem?.2 hv);simpa using this
 intro h x hx;have hx2:=List.mem_zipIdx_iff_getElem?.1 hx;obtain⟨b,v⟩:=x
 cases b with
 | false=>rfl
 | true=>simpa using h v hx2
theorem jgz {a b:GA}:sameA a b=true↔a.n=b.n/\a.args.map (·.n)=b.args.map (·.n):=by
 unfold sameA;exact decide_eq_true_iff
theorem jne {E:SE} {m:Nat} (hE:E.Ok m) {V R:Words} (h:∀ v,E.wanted[v]? = some true->V.at_ v=R.at_ v):E.hindered V=E.hindered R:=by
 unfold SE.hindered
 have key:∀ p∈E.nots,factP V p=factP R p:=fun p hp=>by
  unfold factP
  congr 1
  refine List.map_congr_left fun s hs=>?_
  unfold jau
  cases hv:s.v with
  | none=>rfl
  | some v=>simp only[h v (hE.nots p hp s hs v hv)]
 rw[Bool.eq_iff_iff,List.any_eq_true,List.any_eq_true]
 constructor
 . rintro ⟨p,hp,h2⟩;exact⟨p,hp,by rw[<- key p hp];exact h2⟩
 rintro ⟨p,hp,h2⟩;exact⟨p,hp,by rw[key p hp];exact h2⟩
theorem jhm {p:GPat} {a:GA} {W:Words} (hs:∀ s∈p.slots,jb2 W.length s) (h:(jak p a W).2=true) :
  p.n=a.n/\W.below (jak p a W).1/\known (jak p a W).1 p/\p.slots.map (jau (jak p a W).1)=a.args.map (·.n):=by
 unfold jak at h ⊢;split at h
 . rename_i hc
   rw[if_pos hc];obtain⟨h1,h2,h3,_⟩:=jhk (V:=(jb9 p.slots a.args W).1) hs hc.2 (by rw[<- h]);exact⟨hc.1,h1,h2,h3⟩
 cases h
theorem jqx {p:GPat} {a:GA} {W R:Words} (hs:∀ s∈p.slots,jb2 W.length s) (hn:p.n=a.n) (hW:W.below R) (ha:jlr a) (hm:p.slots.map (jau R)=a.args.map (·.n)) :
  (jak p a W).2=true/\(jak p a W).1.below R:=by
 have hlen:p.slots.length=a.args.length:=by simpa using congrArg List.length hm
 obtain⟨V,h1,h2⟩:=jgg hs hlen hW ha hm;unfold jak;rw[if_pos ⟨hn,hlen⟩,h1];exact⟨rfl,h2⟩
theorem jls (E:SE):∀ (f left:Nat) (W:Words),(told E f left W).2 = !(told E f left W).1.isEmpty
 | 0,_,_=>rfl
 | f + 1,left,W=>by
   simp only[told];split
   . rfl
   split
   . rfl
   cases hc:E.choose left W with
   | none=>rfl
   | some q =>
     obtain⟨i,l⟩:=q;simp only
     cases hp:E.parts[i]? with
     | none=>rfl
     | some p=>simpa using jej (jls E f (jaj left i)) (held:=false)
theorem ji6 {E:SE} {m:Nat} (hE:E.Ok m):∀ (f left:Nat) (W V:Words),W.length=m->E.Done left W->V∈(told E f left W).1 ->
  W.below V/\(∀ p∈E.parts,known V p/\Holds E.facts p V)/\E.hindered V=false
 | 0,_,_,_,_,_,h=>by cases h
 | f + 1, left,W,V,hlen,hd,h=>by
   simp only[told] at h;split at h
   . cases h
   rename_i hnh;split at h
   . rename_i h0
     subst h0;have hV:V=W:=by simpa using h
     subst hV
     have hall:∀ p∈E.parts,known V p/\Holds E.facts p V:=fun p hp=>by
      obtain⟨i,hi⟩:=List.getElem?_of_mem hp;exact hd i p hi (Nat.zero_testBit i)
     refine⟨jny _,hall,?_⟩
     have hst:E.settled V=true:=jfo.2 fun v hv=>by
      obtain⟨p,hp,s,hs,e⟩:=hE.cover v hv;have:=(hall p hp).1 s hs;unfold jau at this;rw[e] at this;exact this
     rw[hst,Bool.true_and] at hnh;simpa using hnh
   cases hc:E.choose left W with
   | none=>rw[hc] at h;cases h
   | some q =>
     obtain⟨i,l⟩:=q;rw[hc] at h;simp only at h;obtain⟨hbit,p,hp,hl⟩:=jh7 hc;rw[hp] at h;simp only at h;obtain⟨j,hj,a,ha,hm,hV⟩:=jfb h;have hs:∀ s∈p.slots,jb2 W.length s:=fun s hs=>by rw[hlen];exact hE.parts p (List.mem_of_getElem? hp) s hs
     obtain⟨h1,h2,h3,h4⟩:=jhm hs hm
     have hd2:E.Done (jaj left i) (jak p a W).1:=fun i' p' hp' hb'=>by
      rw[jdt hbit] at hb';by_cases e:i=i'
      . subst e
        have:p'=p:=Option.some.inj (hp'.symm.trans hp);subst this;exact⟨h3,a,List.mem_of_getElem? ha,h1.symm,h4.symm⟩
      have hb2:left.testBit i'=false:=by simpa [e] using hb'
      obtain⟨k1,k2⟩:=hd i' p' hp' hb2;exact jhl h2 k1 k2
     obtain⟨r1,r2,r3⟩:=ji6 hE f _ _ V (h2.1.symm.trans hlen) hd2 hV;exact⟨jhj h2 r1,r2,r3⟩
theorem ju7 {E:SE} {m:Nat} (hE:E.Ok m):∀ (f left:Nat) (W R:Words),W.length=m->(∀ i,left.testBit i=true->i<E.parts.length)->jh9 E.parts.length left<f->E.Done left W->W.below R ->
  (∀ p∈E.parts,known R p/\Holds E.facts p R)->E.hindered R=false->∃ V∈(told E f left W).1,∀ v,E.wanted[v]? = some true->V.at_ v=R.at_ v
 | 0,_,_,_,_,_,hf,_,_,_,_=>by omega
 | f + 1, left,W,R,hlen,hbits,hf,hd,hW,hR,hh=>by
   simp only[told];split
   . rename_i h
     rw[Bool.and_eq_true] at h;have:E.hindered W=E.hindered R:=jne hE fun v hv=>(hW.2 v (jfo.1 h.1 v hv)).symm
     rw[h.2,hh] at this;cases this
   split
   . rename_i h0
     subst h0;refine⟨W,by simp,fun v hv=>?_⟩;obtain⟨p,hp,s,hs,e⟩:=hE.cover v hv;obtain⟨i,hi⟩:=List.getElem?_of_mem hp;have:=(hd i p hi (Nat.zero_testBit i)).1 s hs;unfold jau at this;rw[e] at this;exact (hW.2 v this).symm
   rename_i h0;obtain⟨i0,hi0⟩:=j0k h0
   cases hc:E.choose left W with
   | none=>exact absurd hc (jtb (hbits i0 hi0) hi0)
   | some q =>
     obtain⟨i,l⟩:=q;simp only;obtain⟨hbit,p,hp,hl⟩:=jh7 hc;rw[hp];simp only;have hs:∀ s∈p.slots,jb2 W.length s:=fun s hs=>by rw[hlen];exact hE.parts p (List.mem_of_getElem? hp) s hs
     obtain⟨hk,a,ham,han,hargs⟩:=hR p (List.mem_of_getElem? hp);obtain⟨j,hj⟩:=List.getElem?_of_mem ham;have hjl:j∈l:=by rw[hl];exact j0j hW hj han hargs
     obtain⟨hm,hb⟩:=jqx hs han.symm hW (hE.facts a ham) hargs.symm;obtain⟨h1,h2,h3,h4⟩:=jhm hs hm
     have hd2:E.Done (jaj left i) (jak p a W).1:=fun i' p' hp' hb'=>by
      rw[jdt hbit] at hb';by_cases e:i=i'
      . subst e
        have:p'=p:=Option.some.inj (hp'.symm.trans hp);subst this;exact⟨h3,a,List.mem_of_getElem? hj,h1.symm,h4.symm⟩
      have hb2:left.testBit i'=false:=by simpa [e] using hb'
      obtain⟨k1,k2⟩:=hd i' p' hp' hb2;exact jhl h2 k1 k2
     have hb3:∀ i',(jaj left i).testBit i'=true->i'<E.parts.length:=fun i' h=>by
      rw[jdt hbit,Bool.and_eq_true] at h;exact hbits i' h.1
     have hcnt:=jgh (hbits i hbit) hbit;obtain⟨V,hV,hVR⟩:=ju7 hE f _ _ R (h2.1.symm.trans hlen) hb3 (by omega) hd2 hb hR hh
     cases hst:E.settled W with
     | false=>exact⟨V,jla hE.free hjl hj hm hV,hVR⟩
     | true =>
       have hne:=jh8 (settled:=true) (held:=false) (rec_:=told E f (jaj left i)) hE.free (jls E f _) hjl hj hm hV;rw[jej (jls E f _),Bool.false_or] at hne
       cases hq:(jaf E (told E f (jaj left i)) true p W l false).1 with
       | nil=>rw[hq] at hne;cases hne
       | cons U us =>
         refine⟨U,by simp,fun v hv=>?_⟩;obtain⟨j',hj',a',ha',hm',hU⟩:=jfb (by rw[hq];simp:U∈_);obtain⟨g1,g2,g3,g4⟩:=jhm hs hm'
         have hd3:E.Done (jaj left i) (jak p a' W).1:=fun i' p' hp' hb'=>by
          rw[jdt hbit] at hb';by_cases e:i=i'
          . subst e
            have:p'=p:=Option.some.inj (hp'.symm.trans hp);subst this;exact⟨g3,a',List.mem_of_getElem? ha',g1.symm,g4.symm⟩
          have hb2:left.testBit i'=false:=by simpa [e] using hb'
          obtain⟨k1,k2⟩:=hd i' p' hp' hb2;exact jhl g2 k1 k2
         have hUW:=(ji6 hE f _ _ U (g2.1.symm.trans hlen) hd3 hU).1;have hkw:=jfo.1 hst v hv;have e1:=(jhj g2 hUW).2 v hkw;exact e1.trans (hW.2 v hkw).symm
/-! ### Nothing is told twice -/
theorem jke (facts:List GA) (n:ByteArray) (size:Nat) (at_:Option (Nat × ByteArray)):(jal facts n size at_).Nodup:=List.Pairwise.filter _ List.nodup_range
theorem jwh (facts:List GA) (p:GPat) (W:Words):(candP facts p W).Nodup:=by
 unfold candP;refine jfa (I:=fun b:List Nat=>List.Nodup b) (fun b x _ hb=>?_) (jke _ _ _ _);unfold jb5;split
 . exact hb
 split
 . exact jke _ _ _ _
 exact hb
end Go.Proofs.YthiflhkcpanaaaaGreatDoor
