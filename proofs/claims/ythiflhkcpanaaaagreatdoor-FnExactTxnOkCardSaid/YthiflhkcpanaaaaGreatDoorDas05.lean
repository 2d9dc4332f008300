/- Own texts, joined. -/
import Derived.Test.YthiflhkcpanaaaaGreatDoorDas04
import Derived.Test.YthiflhkcpanaaaaGreatDoorDas03
set_option linter.unusedSimpArgs false
set_option linter.unusedVariables false
set_option maxHeartbeats 4000000
set_option maxRecDepth 100000
namespace Go.Proofs.YthiflhkcpanaaaaGreatDoor
open Go.RowKit Go.Shelf
attribute [local go_sem] Oper.semAt_some
theorem jid (A B:Option Addr) (n c m d:Nat) (w:World) :
  Calls Tryz.prog 131 #[.agg #[.slice A n c,.func (.func 194) #[] #[]],.agg #[.slice B m d,.func (.func 194) #[] #[]]] w fun e w' =>
   e=.returned (.func (.func 195) #[] #[.pointer (some ⟨w.heap.size,0,none⟩),.pointer (some ⟨w.heap.size+1,0,none⟩)]) /\
   w'=(w.alloc (.cells #[.slice A n c,.func (.func 194) #[] #[]] 166)).alloc (.cells #[.slice B m d,.func (.func 194) #[] #[]] 166):=by
 go_in;go_wp2;go_ret;exact⟨rfl,rfl⟩
theorem jad.low {S:Nat->Prop} {w:World} {v:Value} {xs:List GT} (h:jad S w v xs):jad (fun b=>b<w.heap.size) w v xs:=by
 obtain⟨A,c,hv,h1,h2,h3⟩:=h;exact⟨A,c,hv,h1,h2,fun h0=>let ⟨b,off,ha,hb,_,hc⟩:=h3 h0;⟨b,off,ha,hb,hb,hc⟩⟩
theorem jab.low {S:Nat->Prop} {w:World} {v:Value} {xs:List GA} (h:jab S w v xs):jab (fun b=>b<w.heap.size) w v xs:=by
 obtain⟨A,c,hv,h1,h2,h3⟩:=h;exact⟨A,c,hv,h1,h2,fun h0=>let ⟨b,off,ha,hb,_,hc⟩:=h3 h0;⟨b,off,ha,hb,hb,fun i x hx=>let ⟨cs,hl,hcs,u,e1,e2,e3⟩:=hc i x hx;⟨cs,hl,hcs,u,e1,e2,e3.low⟩⟩⟩
def jc3 (L:List ME):Bool:=L.all fun e=> !(e.s == 2)
theorem jqz (v u:Value) (xs ys:List GA) (w:World) {S T:Nat->Prop} (hv:jab S w v xs) (hu:jab T w u ys) :
  ∃ ps qs:List P2,ps.map (·.1)=xs/\qs.map (·.1)=ys /\
  Calls Tryz.prog 66 #[v,u] w fun e w'=>e=.returned (.bool (!jc3 (jah ps qs)))/\Ext w w':=by
 obtain⟨ps,hps,hp⟩:=hv.low.pairs;obtain⟨qs,hqs,hq⟩:=hu.low.pairs;refine⟨ps,qs,hps,hqs,?_⟩;clear hps hqs hv hu;obtain⟨A,c,rfl,hc1,hc2⟩:=jaa.form hp;obtain⟨B,d,rfl,hd1,hd2⟩:=jaa.form hq;have HP:=zh hp;have HQ:=zh hq;clear hp hq;refine (callsIn_wide (n:=5)).1 ?_;refine callsIn_of_wp_marks Tryz.func66 rfl trivial ?_ rfl;simp only[Tryz.ntmps66,List.size_toArray,List.length_cons,List.length_nil,Nat.reduceAdd,Nat.reduceSub,Array.replicate_succ,Array.replicate_zero,List.push_toArray,List.append_toArray,List.nil_append,List.cons_append];have tok:True:=trivial
 gi_wp2_with (first
  | (refine⟨trivial,?_⟩;gi_at_call 130;have _t:=tok;refine (callsIn_wide.2 (jc0 _ _ _ _)).mono ?_;clear tok _t;rintro e w1 ⟨rfl,hx1⟩)
  | (refine⟨trivial,?_⟩;gi_at_call 130;refine (callsIn_wide.2 (jc0 _ _ _ _)).mono ?_;rintro e w2 ⟨rfl,hx2⟩)
  | (refine⟨trivial,?_⟩;gi_at_call 131;refine (callsIn_wide.2 (jid _ _ _ _ _ _ _)).mono ?_;rintro e w3 ⟨rfl,rfl⟩))
 have hs1:=hx1.size;have hs2:=hx2.size;simp only[World.size_alloc] at hs1
 have hB0:Ext w ((w2.alloc (.cells #[.slice A ps.length c,.func (.func 194) #[] #[]] 166)).alloc (.cells #[.slice B qs.length d,.func (.func 194) #[] #[]] 166)) :=
  (((((Ext.refl w).alloc _).t hx1).t hx2).alloc _).alloc _
 have hB1:Ext (w.alloc (.cells #[.bool false] 4)) ((w2.alloc (.cells #[.slice A ps.length c,.func (.func 194) #[] #[]] 166)).alloc (.cells #[.slice B qs.length d,.func (.func 194) #[] #[]] 166)) :=
  ((hx1.t hx2).alloc _).alloc _
 have hr0:Blk (w.alloc (.cells #[.bool false] 4)) w.heap.size 4 #[.bool false]:=Blk.new _ _ _;have hr1:=hr0.ext hB1;have hb1:Blk ((w2.alloc (.cells #[.slice A ps.length c,.func (.func 194) #[] #[]] 166)).alloc (.cells #[.slice B qs.length d,.func (.func 194) #[] #[]] 166)) w2.heap.size 166 #[.slice A ps.length c,.func (.func 194) #[] #[]]:=(Blk.new _ _ _).alloc _
 have hb2:Blk ((w2.alloc (.cells #[.slice A ps.length c,.func (.func 194) #[] #[]] 166)).alloc (.cells #[.slice B qs.length d,.func (.func 194) #[] #[]] 166)) (w2.heap.size+1) 166 #[.slice B qs.length d,.func (.func 194) #[] #[]]:=by
  have:=Blk.new (w2.alloc (.cells #[.slice A ps.length c,.func (.func 194) #[] #[]] 166)) 166 #[.slice B qs.length d,.func (.func 194) #[] #[]]
  rwa [World.size_alloc] at this
 refine wpIn_rangeFunc_ownF (F:=Fence.wide) rfl (by omega) (gf:=195) (lb:= #[.pointer (some ⟨w2.heap.size,0,none⟩),.pointer (some ⟨w2.heap.size+1,0,none⟩)]) rfl trivial (enters_of Tryz.func195 (by kernel_rfl) rfl)
  (jkh 4 (by omega) w2.heap.size (w2.heap.size+1) (fun b=>b≠w.heap.size/\b<w2.heap.size+2) _ _ _ ps qs ⟨by omega,by omega⟩ ⟨by omega,by omega⟩
   (hb1.cell 0) (hb1.cell 1) (hb2.cell 0) (HP.o.imp (fun b hb=>⟨by omega,by omega⟩) (.of_ext hB0) hB0.size) (HQ.o.imp (fun b hb=>⟨by omega,by omega⟩) (.of_ext hB0) hB0.size))
  KeepR.trans (fun W l o o' hl ho _ _=>⟨by simp[World.putObj],fun b hb hlt=>(grownBy_putObj' W l o').block b hlt (fun e=>by injection e with e;simp only[World.size_alloc] at hl;omega)⟩) (Below.refl _ _) (fun _=>rfl)
  (fun pre W=>(jc3 pre=true/\W.cell? ⟨w.heap.size,0,none⟩=some (.bool false)/\W.frozen? ⟨w.heap.size,0,none⟩=false)/\Below w.heap.size w W)
  (fun c pre W=>(c=.ret/\jc3 pre=false/\W.cell? ⟨w.heap.size,0,none⟩=some (.bool true))/\Below w.heap.size w W)
  (OwnFrom.and (Own.from (fun s A B row hs hg hr=>⟨hs.1,cell_kept hs.2.1 hg hr,(frozen_kept hs.2.1 hg hr).trans hs.2.2⟩) _) (ownFrom_below (Nat.le_refl _) hB0.size))
  (fun c=>OwnFrom.and (Own.from (fun s A B row hs hg hr=>⟨hs.1,hs.2.1,cell_kept hs.2.2 hg hr⟩) _) (ownFrom_below (Nat.le_refl _) hB0.size))
  ⟨⟨rfl,hr1.cell 0,hr1.frozen 0⟩,hB0⟩
  (fun e=> { tmps:= #[.slice A ps.length c,.slice B qs.length d,undef,undef,.pointer (some ⟨w.heap.size,0,none⟩),undef,.int .i64 e.s,.slice A ps.length c,
   .agg #[.slice A ps.length c,.func (.func 194) #[] #[]],.slice B qs.length d,.agg #[.slice B qs.length d,.func (.func 194) #[] #[]],
   .func (.func 195) #[] #[.pointer (some ⟨w2.heap.size,0,none⟩),.pointer (some ⟨w2.heap.size+1,0,none⟩)],.agg #[.string e.x.n,e.v],.int .i64 e.s,undef,undef],defers:=[] }) ?assign ?body ?done ?stop
 case assign =>
  intro l x W K hK;simp only[encME]
  gi_wp2
  exact hK
 case body =>
  rintro l pre x W ⟨⟨hp,hcr,hfr⟩,hB⟩ _;have HX:=zh hp;clear hp;by_cases hs:x.s=2
  . have h1:((x.s:Int) == 2)=true:=by simp[hs]
    have HN:=zh (show jc3 (pre++[x])=false from by unfold jc3;rw[List.all_append];simp[hs]);clear hs
    gi_wp2
    exact⟨KeepsOthers.setCell _ _ _,⟨rfl,HN.o,World.cell?_setCell_same' _ _ _ (by rw[hcr];rfl)⟩,hB.setCell (p:=⟨w.heap.size,0,none⟩) (Nat.le_refl _) _⟩
  have h1:((x.s:Int) == 2)=false:=by simp[hs]
  have HN:=zh (show jc3 (pre++[x])=true from by have:=HX.o;unfold jc3 at this ⊢;rw[List.all_append,this];simp[hs]);clear hs
  gi_wp2
  exact⟨KeepsOthers.refl _,⟨Nat.le_refl _,.refl _ _⟩,⟨HN.o,hcr,hfr⟩,hB⟩
 case done =>
  rintro D L W hD rfl ⟨⟨hne,hcr,hfr⟩,hB⟩ hK;have HN:=zh hne;clear hne
  gi_wp2
  have hK':=(KeepsOthers.setCell W ⟨w.heap.size,0,none⟩ (.bool false)).same D _ hK rfl;refine⟨by simp,.inl ⟨_,_,rfl,run_takeDeferred hK',?_⟩⟩;have hc5:=cell_kept (World.cell?_setCell_same' W ⟨w.heap.size,0,none⟩ (.bool false) (by rw[hcr];rfl)) (grownBy_putObj' _ D (.deferred none)) (fun r e=>by cases e;exact⟨_,hK',rfl⟩);refine⟨.bool false,?_,by rw[HN.o];rfl,(hB.setCell (p:=⟨w.heap.size,0,none⟩) (Nat.le_refl _) _).trans (belowK_b (w:=w) (Nat.le_refl _) _ D _ _ (by simp only[World.size_alloc] at hD;omega) hK' rfl rfl)⟩;simp[results,Tryz.f66,go_sem,hc5]
 case stop =>
  rintro D c pre W hD hpre ⟨⟨rfl,hin,hcr⟩,hB⟩ hK
  have HN:=zh (show jc3 (jah ps qs)=false from by
   obtain⟨r,hr⟩:=hpre;rw[<- hr];unfold jc3 at hin ⊢;rw[List.all_append,hin];rfl)
  clear hpre hin
  gi_wp2
  refine⟨by simp,.inl ⟨_,_,rfl,run_takeDeferred hK,?_⟩⟩;have hc5:=cell_kept hcr (grownBy_putObj' _ D (.deferred none)) (fun r e=>by cases e;exact⟨_,hK,rfl⟩);refine⟨.bool true,?_,by rw[HN.o];rfl,hB.trans (belowK_b (w:=w) (Nat.le_refl _) W D _ _ (by simp only[World.size_alloc] at hD;omega) hK rfl rfl)⟩;simp[results,Tryz.f66,go_sem,hc5]
end Go.Proofs.YthiflhkcpanaaaaGreatDoor
namespace Go.Proofs.YthiflhkcpanaaaaGreatDoor
open Go.RowKit
structure Total {α:Type} (c:α->α->Int):Prop where
 eq:∀ a b,c a b=0↔a=b
 neg:∀ a b,c b a = - c a b
 trans:∀ a b d,c a b<0->c b d<0->c a d<0
def lexC {α:Type} (c:α->α->Int):List α->List α->Int
 | [],[]=>0
 | [],_ :: _=> -1
 | _ :: _,[]=>1
 | a :: x,b :: y=>if c a b=0 then lexC c x y else c a b
theorem j1t {α:Type} {c:α->α->Int} (h:Total c):∀ x y:List α,lexC c x y=0↔x=y
 | [],[]=>by simp[lexC]
 | [],_ :: _=>by simp[lexC]
 | _ :: _,[]=>by simp[lexC]
 | a :: x,b :: y=>by
   have ih:=j1t h x y;unfold lexC;by_cases hc:c a b=0
   . rw[if_pos hc,ih];have:=(h.eq a b).1 hc;subst this;simp
   rw[if_neg hc];have:a≠b:=fun e=>hc ((h.eq a b).2 e)
   simp[hc,this]
theorem jyd {α:Type} {c:α->α->Int} (h:Total c):∀ x y:List α,lexC c y x = - lexC c x y
 | [],[]=>by simp[lexC]
 | [],_ :: _=>by simp[lexC]
 | _ :: _,[]=>by simp[lexC]
 | a :: x,b :: y=>by
   have ih:=jyd h x y;unfold lexC;by_cases hc:c a b=0
   . rw[if_pos hc,if_pos (by rw[h.neg a b];omega),ih]
   rw[if_neg hc,if_neg (by rw[h.neg a b];omega),h.neg a b]
theorem jq0 {α:Type} {c:α->α->Int} (h:Total c):∀ x y z:List α,lexC c x y<0->lexC c y z<0->lexC c x z<0
 | [],[],z=>by simp[lexC]
 | [],_ :: _,[]=>by simp[lexC]
 | [],_ :: _,_ :: _=>by simp[lexC]
 | _ :: _,[],z=>by simp[lexC]
 | _ :: _,_ :: _,[]=>by simp[lexC]
 | a :: x,b :: y,d :: z=>by
   have ih:=jq0 h x y z;unfold lexC;intro h1 h2;by_cases e1:c a b=0
   . rw [if_pos e1] at h1
     have e1':=(h.eq a b).1 e1;subst e1';by_cases e2:c a d=0
     . rw[if_pos e2] at h2 ⊢;exact ih h1 h2
     rw[if_neg e2] at h2 ⊢;exact h2
   rw[if_neg e1] at h1;by_cases e2:c b d=0
   . have e2':=(h.eq b d).1 e2
     subst e2';rw[if_neg e1];exact h1
   rw[if_neg e2] at h2;have h3:=h.trans a b d h1 h2;rw[if_neg (by omega)];exact h3
theorem jgl {α:Type} {c:α->α->Int} (h:Total c):Total (lexC c):=⟨j1t h,fun a b=>jyd h a b,jq0 h⟩
def cByte (a b:UInt8):Int:=if a.toNat<b.toNat then -1 else if b.toNat<a.toNat then 1 else 0
theorem jtg:Total cByte where
 eq a b:=by
  unfold cByte;rw[<- UInt8.toNat_inj];split
  . constructor<;>intro h<;>omega
  split
  . constructor<;>intro h<;>omega
  constructor<;>intro h<;>omega
 neg a b:=by
  unfold cByte;split<;>split<;>omega
 trans a b d:=by
  unfold cByte;intro h1 h2;split at h1
  . split at h2
    . rw[if_pos (by omega)];omega
    split at h2<;>omega
  split at h1<;>omega
theorem j0m (a b:UInt8):cByte a b=if a<b then -1 else if b<a then 1 else 0:=by
 unfold cByte;by_cases h1:a<b
 . rw[if_pos h1,if_pos (UInt8.lt_iff_toNat_lt.1 h1)]
 rw[if_neg h1,if_neg (fun h=>h1 (UInt8.lt_iff_toNat_lt.2 h))];by_cases h2:b<a
 . rw[if_pos h2,if_pos (UInt8.lt_iff_toNat_lt.1 h2)]
 rw[if_neg h2,if_neg (fun h=>h2 (UInt8.lt_iff_toNat_lt.2 h))]
theorem jf3:∀ x y:List UInt8,Lib.compareBytes x y=lexC cByte x y
 | [],[]=>rfl
 | [],_ :: _=>rfl
 | _ :: _,[]=>rfl
 | a :: x,b :: y=>by
   have ih:=jf3 x y;simp only[Lib.compareBytes,lexC,j0m];by_cases h1:a<b
   . simp[h1]
   by_cases h2:b<a
   . simp[h1,h2]
   simp[h1,h2,ih]
theorem jb3:Total (Lib.compareBytes):=by
 have:=jgl jtg;rw[show Lib.compareBytes=lexC cByte from funext fun x=>funext fun y=>jf3 x y];exact this
def jlx (l:List GT):List (List UInt8):=l.map fun t=>t.n.data.toList
def keyA (a:GA):List (List UInt8):=a.n.data.toList :: jlx a.args
theorem jly:∀ x y:List GT,jdf x y=lexC Lib.compareBytes (jlx x) (jlx y)
 | [],[]=>rfl
 | [],_ :: _=>rfl
 | _ :: _,[]=>rfl
 | s :: x,t :: y=>by
   have ih:=jly x y;unfold jdf;simp only[jlx,List.map_cons,lexC] at ih ⊢;rw[ih];rfl
theorem jfq (a b:GA):cmpA a b=lexC Lib.compareBytes (keyA a) (keyA b):=by
 unfold cmpA keyA lexC;rw[jly];rfl
theorem jja (a b:GA):cmpA a b=0↔keyA a=keyA b:=by rw[jfq];exact (jgl jb3).eq _ _
theorem jec (a b:GA):cmpA b a = - cmpA a b:=by rw[jfq,jfq];exact (jgl jb3).neg _ _
theorem jdw {a b d:GA} (h1:cmpA a b<0) (h2:cmpA b d<0):cmpA a d<0:=by
 rw[jfq] at *;exact (jgl jb3).trans _ _ _ h1 h2
def Asc (l:List GA):Prop:=l.Pairwise fun a b=>cmpA a b<0
theorem j1u:∀ (l:List GA),ascB l=true->Asc l
 | [],_=>List.Pairwise.nil
 | [a],_=>List.pairwise_singleton _ _
 | a :: b :: l,h=>by
   simp only[ascB,Bool.and_eq_true] at h;have ih:=j1u (b :: l) h.2;have hab:cmpA a b<0:=of_decide_eq_true h.1;refine List.Pairwise.cons ?_ ih;intro z hz;rcases List.mem_cons.1 hz with rfl|hz
   . exact hab
   exact jdw hab ((List.pairwise_cons.1 ih).1 z hz)
theorem jki {y:GA} {m:List GA} {x:GA} (h:cmpA y x<0):hasA (y :: m) x=hasA m x:=by
 have hp:ja8 (y :: m) x=ja8 m x+1:=by
  unfold ja8;rw[List.takeWhile_cons,if_pos (show ltA y x=true from decide_eq_true h)];rfl
 unfold hasA;rw[hp];unfold isAt;rw[List.getElem?_cons_succ]
theorem jkj {y:GA} {m:List GA} {x:GA} (h:¬ cmpA y x<0):hasA (y :: m) x=decide (cmpA y x=0):=by
 have hp:ja8 (y :: m) x=0:=by
  unfold ja8;rw[List.takeWhile_cons,if_neg (by unfold ltA;simp;omega)];rfl
 unfold hasA;rw[hp];rfl
theorem jg0:∀ (m:List GA) (x:GA),Asc m->(hasA m x=true↔∃ y∈m,cmpA y x=0)
 | [],x,_=>by simp[hasA,isAt]
 | y :: m,x,h=>by
   have h1:=List.pairwise_cons.1 h;have ih:=jg0 m x h1.2;by_cases hlt:cmpA y x<0
   . rw [jki hlt,ih]
     constructor
     . rintro ⟨z,hz,e⟩;exact⟨z,List.mem_cons_of_mem _ hz,e⟩
     rintro ⟨z,hz,e⟩;rcases List.mem_cons.1 hz with rfl|hz
     . omega
     exact⟨z,hz,e⟩
   rw[jkj hlt]
   constructor
   . intro e;exact⟨y,by simp,of_decide_eq_true e⟩
   rintro ⟨z,hz,e⟩;rcases List.mem_cons.1 hz with rfl|hz
   . exact decide_eq_true e
   have hyz:=h1.1 z hz
   have hxz:cmpA y x<0:=by
    have e1:=(jja z x).1 e;have:cmpA y x=cmpA y z:=by rw[jfq,jfq,e1]
    omega
   exact absurd hxz hlt
theorem jek:∀ (xs:List P2),jah xs []=xs.map fun x=>⟨x.1,x.2,0⟩
 | []=>rfl
 | x :: xs=>by rw[jhn,jek xs];rfl
theorem jd9:∀ (ys:List P2),jah [] ys=ys.map fun y=>⟨y.1,y.2,1⟩
 | []=>rfl
 | y :: ys=>by rw[jgk,jd9 ys];rfl
theorem jjb:∀ (n:Nat) (xs ys:List P2),xs.length+ys.length<=n->Asc (xs.map (·.1))->Asc (ys.map (·.1)) ->
  (jc3 (jah xs ys)=true↔∀ x∈xs,∀ y∈ys,¬ cmpA x.1 y.1=0)
 | _,[],ys,_,_,_=>by
   rw[jd9];simp[jc3]
 | _,x :: xs,[],_,_,_=>by
   rw[jek];simp[jc3]
 | 0,_ :: _,_ :: _,h,_,_=>by simp at h
 | n + 1, x :: xs,y :: ys,h,hx,hy=>by
   have h1:=List.pairwise_cons.1 (show Asc (x.1 :: xs.map (·.1)) from hx);have h2:=List.pairwise_cons.1 (show Asc (y.1 :: ys.map (·.1)) from hy);have ltx:∀ z∈xs,cmpA x.1 z.1<0:=fun z hz=>h1.1 z.1 (List.mem_map_of_mem hz)
   have lty:∀ z∈ys,cmpA y.1 z.1<0:=fun z hz=>h2.1 z.1 (List.mem_map_of_mem hz)
   rcases Int.lt_trichotomy (cmpA x.1 y.1) 0 with hc|hc|hc
   . have ih:=jjb n xs (y :: ys) (by simp at h ⊢;omega) h1.2 hy
     rw[jia _ _ hc];have:jc3 (⟨x.1,x.2,0⟩ :: jah xs (y :: ys))=jc3 (jah xs (y :: ys)):=by simp[jc3]
     rw[this,ih]
     constructor
     . intro hh z hz w hw
       rcases List.mem_cons.1 hz with rfl|hz
       . rcases List.mem_cons.1 hw with rfl|hw
         . omega
         have:=jdw hc (lty w hw);omega
       exact hh z hz w hw
     intro hh z hz w hw;exact hh z (List.mem_cons_of_mem _ hz) w hw
   . rw [jic _ _ hc]
     have:jc3 (⟨x.1,x.2,2⟩ :: jah xs ys)=false:=by simp[jc3]
     rw[this]
     constructor
     . intro hh;cases hh
     intro hh;exact absurd hc (hh x (by simp) y (by simp))
   have ih:=jjb n (x :: xs) ys (by simp at h ⊢;omega) hx h2.2;rw[jib _ _ hc];have:jc3 (⟨y.1,y.2,1⟩ :: jah (x :: xs) ys)=jc3 (jah (x :: xs) ys):=by simp[jc3]
   rw[this,ih];have hc':cmpA y.1 x.1<0:=by rw[jec];omega
   constructor
   . intro hh z hz w hw
     rcases List.mem_cons.1 hw with rfl|hw
     . rcases List.mem_cons.1 hz with rfl|hz
       . omega
       have h3:=jdw hc' (ltx z hz);rw[jec] at h3;omega
     exact hh z hz w hw
   intro hh z hz w hw;exact hh z hz w (List.mem_cons_of_mem _ hw)
theorem jpb {ps qs:List P2} (hx:Asc (ps.map (·.1))) (hy:Asc (qs.map (·.1))):(!jc3 (jah ps qs))=jcd (ps.map (·.1)) (qs.map (·.1)):=by
 have h:=jjb _ ps qs (Nat.le_refl _) hx hy
 have hc:jcd (ps.map (·.1)) (qs.map (·.1))=true↔∃ x∈ps,∃ y∈qs,cmpA x.1 y.1=0:=by
  unfold jcd;rw[List.any_eq_true]
  constructor
  . rintro ⟨a,ha,hh⟩
    obtain⟨x,hx1,rfl⟩:=List.mem_map.1 ha;obtain⟨b,hb,e⟩:=(jg0 _ _ hy).1 hh;obtain⟨y,hy1,rfl⟩:=List.mem_map.1 hb;exact⟨x,hx1,y,hy1,by rw[jec] at e;omega⟩
  rintro ⟨x,hx1,y,hy1,e⟩;exact⟨x.1,List.mem_map_of_mem hx1,(jg0 _ _ hy).2 ⟨y.1,List.mem_map_of_mem hy1,by rw[jec];omega⟩⟩
 cases hn:jc3 (jah ps qs)
 . symm
   show jcd _ _=true;rw[hc];rw[hn] at h;apply Classical.byContradiction
   intro hne;have:false=true:=h.2 (fun x hx1 y hy1 e=>hne ⟨x,hx1,y,hy1,e⟩);cases this
 symm
 show jcd _ _=false;rw[Bool.eq_false_iff];intro ht;obtain⟨x,hx1,y,hy1,e⟩:=hc.1 ht;exact h.1 hn x hx1 y hy1 e
theorem jg1 {l:List GA} {n:Nat} (h:jbb l n=true):Asc l:=by
 unfold jbb at h;simp only[Bool.and_eq_true] at h;exact j1u l h.1.2
/-! ### Lists -/
theorem jel {α:Type} [DecidableEq α]:∀ (a b:List α),a.Nodup->(∀ x∈a,x∈b)->a.length<=b.length
 | [],_,_,_=>Nat.zero_le _
 | x :: a,b,h,hs=>by
   have hx:=hs x (by simp);obtain⟨h1,h2⟩:=List.nodup_cons.1 h;have ih:=jel a (b.erase x) h2 (fun y hy=>(List.mem_erase_of_ne (fun (e:y=x)=>h1 (by rw[<- e];exact hy))).2 (hs y (List.mem_cons_of_mem _ hy)));have hl:=List.length_erase_of_mem hx;have hp:0<b.length:=List.length_pos_of_mem hx;simp only[List.length_cons];omega
/-! ### Atoms of rules, and how many terms a name has -/
def jbd (r:GR):List GA:=r.head :: r.body.map (·.atom)
def jaq (l:List GR):List GA:=(l.map jbd).flatten
def jba (r:GR):Bool:=(r.body.all fun p=>jat p.atom) && (jat r.head && decide (r.body.length<=4))
def jay:List GA->ByteArray->Option Nat
 | [],_=>none
 | a :: l,x=>if a.n=x then some a.args.length else jay l x
def argsB (l:List GA):Bool:=l.all fun a=>decide (jay l a.n=some a.args.length)
theorem jc2:∀ (l:List GA) (a:GA) (x:ByteArray),jay (l++[a]) x=match jay l x with|some n=>some n|none=>if a.n=x then some a.args.length else none
 | [],a,x=>rfl
 | b :: l,a,x=>by
   simp only[List.cons_append,jay,jc2 l a x];by_cases h:b.n=x
   . simp[h]
   simp[h]
theorem jfr:∀ {l:List GA} {x:ByteArray} {n:Nat},jay l x=some n->∃ a∈l,a.n=x/\a.args.length=n
 | b :: l,x,n,h=>by
   simp only[jay] at h;split at h
   . injection h with h
     exact⟨b,by simp,by assumption,h⟩
   obtain⟨a,h1,h2⟩:=jfr h;exact⟨a,List.mem_cons_of_mem _ h1,h2⟩
theorem jgm:∀ {l:List GA} {a:GA},a∈l->∃ n,jay l a.n=some n
 | b :: l,a,h=>by
   simp only[jay];by_cases e:b.n=a.n
   . exact⟨_,if_pos e⟩
   rw[if_neg e];rcases List.mem_cons.1 h with rfl|h
   . exact absurd rfl e
   exact jgm h
theorem jwk (l:List GA) (a:GA):argsB (l++[a])=(argsB l && match jay l a.n with|some n=>n == a.args.length|none=>true):=by
 have key:∀ b∈l,jay (l++[a]) b.n=jay l b.n:=fun b hb=>by
  obtain⟨n,hn⟩:=jgm hb;rw[jc2,hn]
 have h1:(l.all fun b=>decide (jay (l++[a]) b.n=some b.args.length))=argsB l:=by
  unfold argsB;rw[Bool.eq_iff_iff,List.all_eq_true,List.all_eq_true];exact⟨fun h b hb=>by rw[<- key b hb];exact h b hb,fun h b hb=>by rw[key b hb];exact h b hb⟩
 unfold argsB at h1 ⊢;rw[List.all_append,h1]
 congr 1
 simp only[List.all_cons,List.all_nil,Bool.and_true];rw[jc2]
 cases jay l a.n with
 | none=>rw[if_pos rfl];exact decide_eq_true rfl
 | some n =>
   show decide (some n=some a.args.length)=(n == a.args.length)
   rw[Bool.eq_iff_iff,decide_eq_true_eq,beq_iff_eq,Option.some.injEq]
theorem jlz (l:List GA):argsB l=true↔∀ (i k:Nat) (a b:GA),l[i]? = some a->l[k]? = some b->k<i->a.n=b.n->a.args.length=b.args.length:=by
 have hall:argsB l=true↔∀ a∈l,∀ b∈l,a.n=b.n->a.args.length=b.args.length:=by
  unfold argsB;rw[List.all_eq_true]
  constructor
  . intro h a ha b hb e
    have h1:=of_decide_eq_true (h a ha);have h2:=of_decide_eq_true (h b hb);rw[e,h2] at h1;injection h1 with h1
    exact h1.symm
  intro h a ha;obtain⟨n,hn⟩:=jgm ha;obtain⟨b,hb,e1,e2⟩:=jfr hn;exact decide_eq_true (by rw[hn,<- e2,h b hb a ha e1])
 rw[hall]
 constructor
 . intro h i k a b ha hb _ e
   exact h a (List.mem_of_getElem? ha) b (List.mem_of_getElem? hb) e
 intro h a ha b hb e;obtain⟨i,hi,rfl⟩:=List.mem_iff_getElem.1 ha;obtain⟨k,hk,rfl⟩:=List.mem_iff_getElem.1 hb;rcases Nat.lt_trichotomy k i with hlt|rfl|hlt
 . exact h i k _ _ (List.getElem?_eq_getElem hi) (List.getElem?_eq_getElem hk) hlt e
 . rfl
 exact (h k i _ _ (List.getElem?_eq_getElem hk) (List.getElem?_eq_getElem hi) hlt e.symm).symm
/-! ### Loose variables -/
def jc4 (a:GA):List ByteArray:=(a.args.filter (·.v)).map (·.n)
def memS (x:ByteArray) (l:List ByteArray):Bool:=l.any fun y=>decide (y=x)
theorem jpc {x:ByteArray} {l:List ByteArray}:memS x l=true↔x∈l:=by
 unfold memS;rw[List.any_eq_true]
 constructor
 . rintro ⟨y,hy,h⟩
   exact of_decide_eq_true h▸hy
 intro h;exact⟨x,h,decide_eq_true rfl⟩
def jce (body:List GP) (x:ByteArray):Bool:=body.any fun p=> !p.no && memS x (jc4 p.atom)
def jca (r:GR):Bool:=(jbd r).all fun a=>(jc4 a).all (jce r.body)
def ltS (a b:ByteArray):Bool:=decide (Lib.compareBytes a.data.toList b.data.toList<0)
theorem jl0 (a:ByteArray):ltS a a=false:=by
 unfold ltS;rw[(jb3.eq _ _).2 rfl];rfl
theorem jgn {a b c:ByteArray} (h:ltS a b=true) (k:ltS b c=true):ltS a c=true:=decide_eq_true (jb3.trans _ _ _ (of_decide_eq_true h) (of_decide_eq_true k))
theorem jq1 {a b:ByteArray} (h:ltS a b=false) (hn:a≠b):ltS b a=true:=by
 have h1:¬ Lib.compareBytes a.data.toList b.data.toList<0:=of_decide_eq_false h
 have h2:Lib.compareBytes a.data.toList b.data.toList≠0:=fun e=>by
  have e2:=(jb3.eq _ _).1 e
  have e3:a.data=b.data:=by
   rw[<- Array.toList_inj];exact e2
  exact hn (by cases a;cases b;simp at e3;rw[e3])
 have h3:=jb3.neg b.data.toList a.data.toList;exact decide_eq_true (by omega)
def putS:List ByteArray->ByteArray->List ByteArray
 | [],s=>[s]
 | x :: l,s=>if ltS x s=true then x :: putS l s else if x=s then x :: l else s :: x :: l
def jd5:List ByteArray->ByteArray->Nat
 | [],_=>0
 | x :: l,s=>if ltS x s=true then jd5 l s+1 else 0
theorem jq2:∀ (l:List ByteArray) (s:ByteArray),jd5 l s<=l.length
 | [],_=>Nat.le_refl _
 | x :: l,s=>by
   have:=jq2 l s;unfold jd5;split<;>simp<;>omega
theorem jq3:∀ {l:List ByteArray} {s:ByteArray} {i:Nat} {x:ByteArray},i<jd5 l s->l[i]? = some x->ltS x s=true
 | y :: l,s,i,x,h,hx=>by
   unfold jd5 at h;split at h
   . cases i with
     | zero=>simp at hx;subst hx;assumption
     | succ i=>exact jq3 (l:=l) (s:=s) (i:=i) (by omega) (by simpa using hx)
   omega
theorem jn1:∀ {l:List ByteArray} {s:ByteArray} {x:ByteArray},l[jd5 l s]? = some x->ltS x s=false
 | y :: l,s,x,hx=>by
   unfold jd5 at hx;split at hx
   . exact jn1 (by simpa using hx)
   rename_i h;simp at hx;subst hx;exact Bool.not_eq_true _▸h
theorem jq4 {l:List ByteArray} {s:ByteArray} {k:Nat} (hk:k<=l.length) (h1:∀ i x,i<k->l[i]? = some x->ltS x s=true) (h2:∀ x,l[k]? = some x->ltS x s=false):jd5 l s=k:=by
 rcases Nat.lt_trichotomy (jd5 l s) k with h|h|h
 . have hl:jd5 l s<l.length:=by omega
   have e1:=h1 _ _ h (List.getElem?_eq_getElem hl);rw[jn1 (List.getElem?_eq_getElem hl)] at e1;cases e1
 . exact h
 have hl:k<l.length:=by have:=jq2 l s;omega
 have e1:=h2 _ (List.getElem?_eq_getElem hl);rw[jq3 h (List.getElem?_eq_getElem hl)] at e1;cases e1
theorem jth:∀ (l:List ByteArray) (s:ByteArray),putS l s=if l[jd5 l s]? = some s then l else l.take (jd5 l s)++[s]++l.drop (jd5 l s)
 | [],s=>rfl
 | x :: l,s=>by
   have ih:=jth l s;unfold putS jd5;by_cases h:ltS x s=true
   . rw [if_pos h,if_pos h,ih]
     simp only[List.getElem?_cons_succ,List.take_succ_cons,List.drop_succ_cons];split<;>simp
   rw[if_neg h,if_neg h];simp only[List.getElem?_cons_zero,Option.some.injEq,List.take_zero,List.drop_zero,List.nil_append]
   rfl
theorem jpd:∀ {l:List ByteArray} {s x:ByteArray},x∈putS l s↔x∈l∨x=s
 | [],s,x=>by simp[putS]
 | y :: l,s,x=>by
   have ih:=jpd (l:=l) (s:=s) (x:=x);unfold putS;split
   . simp only[List.mem_cons,ih,or_assoc]
   split
   . rename_i h;subst h;simp only[List.mem_cons]
     constructor
     . exact fun h=>.inl h
     rintro (h|h)
     . exact h
     exact .inl h
   simp only[List.mem_cons]
   constructor
   . rintro (h|h|h)
     . exact .inr h
     . exact .inl (.inl h)
     exact .inl (.inr h)
   rintro ((h|h)|h)
   . exact .inr (.inl h)
   . exact .inr (.inr h)
   exact .inl h
def AscS (l:List ByteArray):Prop:=l.Pairwise fun a b=>ltS a b=true
theorem AscS.put:∀ {l:List ByteArray} {s:ByteArray},AscS l->AscS (putS l s)
 | [],s,_=>by unfold putS;exact List.pairwise_singleton _ _
 | y :: l,s,h=>by
   obtain⟨h1,h2⟩:=List.pairwise_cons.1 h;unfold putS;split
   . rename_i hlt
     refine List.pairwise_cons.2 ⟨fun z hz=>?_,AscS.put h2⟩;rcases jpd.1 hz with hz|rfl
     . exact h1 z hz
     exact hlt
   rename_i hlt;split
   . exact h
   rename_i hne;have hsy:=jq1 (Bool.not_eq_true _▸hlt) hne;refine List.pairwise_cons.2 ⟨fun z hz=>?_,h⟩;rcases List.mem_cons.1 hz with rfl|hz
   . exact hsy
   exact jgn hsy (h1 z hz)
theorem AscS.nodup {l:List ByteArray} (h:AscS l):l.Nodup:=by
 refine List.Pairwise.imp (fun {a b} hab=>?_) h;intro e;rw[e,jl0] at hab;cases hab
def ja7 (out:List ByteArray) (a:GA):List ByteArray:=(jc4 a).foldl putS out
theorem jie:∀ {vs out:List ByteArray} {x:ByteArray},x∈vs.foldl putS out↔x∈out∨x∈vs
 | [],out,x=>by simp
 | v :: vs,out,x=>by rw[List.foldl_cons,jie,jpd,List.mem_cons,or_assoc]
theorem jif:∀ {vs out:List ByteArray},AscS out->AscS (vs.foldl putS out)
 | [],_,h=>h
 | v :: vs,out,h=>by rw[List.foldl_cons];exact jif h.put
def jjc (r:GR):List ByteArray:=r.body.foldl (fun o p=>ja7 o p.atom) (ja7 [] r.head)
def jem (r:GR):List ByteArray:=r.body.foldl (fun o p=>if p.no then o else ja7 o p.atom) []
theorem jlb:∀ (ps:List GP) (o:List ByteArray),AscS o->AscS (ps.foldl (fun o p=>ja7 o p.atom) o)/\∀ x,x∈ps.foldl (fun o p=>ja7 o p.atom) o↔x∈o∨∃ p∈ps,x∈jc4 p.atom
 | [],o,h=>⟨h,fun x=>by simp⟩
 | p :: ps,o,h=>by
   obtain⟨h1,h2⟩:=jlb ps (ja7 o p.atom) (jif h);refine⟨h1,fun x=>?_⟩;rw[List.foldl_cons,h2,ja7,jie,or_assoc];simp[or_and_right,exists_or]
theorem jjd:∀ (ps:List GP) (o:List ByteArray),AscS o->AscS (ps.foldl (fun o p=>if p.no then o else ja7 o p.atom) o)/\∀ x,x∈ps.foldl (fun o p=>if p.no then o else ja7 o p.atom) o↔x∈o∨jce ps x=true
 | [],o,h=>⟨h,fun x=>by simp[jce]⟩
 | p :: ps,o,h=>by
   have e:∀ x,jce (p :: ps) x=((!p.no && memS x (jc4 p.atom)) || jce ps x):=fun x=>rfl
   by_cases hn:p.no=true
   . obtain ⟨h1,h2⟩:=jjd ps o h
     rw[List.foldl_cons,if_pos hn];exact⟨h1,fun x=>by rw[h2,e,hn];simp⟩
   obtain⟨h1,h2⟩:=jjd ps (ja7 o p.atom) (jif h);rw[List.foldl_cons,if_neg hn];refine⟨h1,fun x=>?_⟩;have hn':p.no=false:=Bool.not_eq_true _▸hn;rw[h2,e,hn',ja7,jie,or_assoc,Bool.or_eq_true,Bool.not_false,Bool.true_and,jpc]
theorem jye (r:GR):jca r=((jjc r).length == (jem r).length):=by
 obtain⟨a1,a2⟩:=jlb r.body (ja7 [] r.head) (jif List.Pairwise.nil);obtain⟨b1,b2⟩:=jjd r.body [] List.Pairwise.nil
 have ha:∀ x,x∈jjc r↔∃ a∈jbd r,x∈jc4 a:=fun x=>by
  unfold jjc;rw[a2,ja7,jie]
  constructor
  . rintro ((h|h)|⟨p,hp,h⟩)
    . cases h
    . exact⟨r.head,by unfold jbd;simp,h⟩
    exact⟨p.atom,List.mem_cons_of_mem _ (List.mem_map_of_mem hp),h⟩
  rintro ⟨a,ha,h⟩;rcases List.mem_cons.1 ha with rfl|ha
  . exact .inl (.inr h)
  obtain⟨p,hp,rfl⟩:=List.mem_map.1 ha;exact .inr ⟨p,hp,h⟩
 have hb:∀ x,x∈jem r↔jce r.body x=true:=fun x=>by unfold jem;rw[b2];simp
 have hsub:∀ x∈jem r,x∈jjc r:=fun x hx=>by
  have h:=(hb x).1 hx;unfold jce at h;rw[List.any_eq_true] at h;obtain⟨p,hp,h⟩:=h;simp only[Bool.and_eq_true,jpc] at h;exact (ha x).2 ⟨p.atom,List.mem_cons_of_mem _ (List.mem_map_of_mem hp),h.2⟩
 have hN:(jjc r).Nodup:=AscS.nodup a1;have hM:(jem r).Nodup:=AscS.nodup b1;have hle:=jel _ _ hM hsub;rw[Bool.eq_iff_iff,beq_iff_eq];unfold jca;rw[List.all_eq_true]
 constructor
 . intro h
   have:=jel _ _ hN (fun x hx=>(hb x).2 (by
    obtain⟨a,h1,h2⟩:=(ha x).1 hx;exact List.all_eq_true.1 (h a h1) x h2))
   omega
 intro h a haa;rw[List.all_eq_true];intro x hx;have hxa:=(ha x).2 ⟨a,haa,hx⟩;by_cases hxb:x∈jem r
 . exact (hb x).1 hxb
 have:=jel (x :: jem r) (jjc r) (List.nodup_cons.2 ⟨hxb,hM⟩) (fun y hy=>by
   rcases List.mem_cons.1 hy with rfl|hy
   . exact hxa
   exact hsub y hy)
 simp only[List.length_cons] at this;omega
/-! ### Strata -/
def one (b:Bool):Nat:=if b then 1 else 0
def dep (l:List GR) (f:ByteArray->Nat):Prop:=∀ r∈l,∀ p∈r.body,(∃ r'∈l,r'.head.n=p.atom.n)->f p.atom.n+one p.no<=f r.head.n
def Strat (l:List GR):Prop:=∃ f,dep l f
def jkk (hs:List ByteArray) (f:ByteArray->Nat) (x:ByteArray):Nat:=((List.range (f x)).filter fun v=>decide (v∈hs.map f)).length
theorem jyf {hs:List ByteArray} {f:ByteArray->Nat} {x y:ByteArray} (h:f x<=f y):jkk hs f x<=jkk hs f y :=
 ((List.range_sublist.2 h).filter _).length_le
theorem j1z {hs:List ByteArray} {f:ByteArray->Nat} {x y:ByteArray} (hx:x∈hs) (h:f x<f y):jkk hs f x+1<=jkk hs f y:=by
 have h1:=((List.range_sublist.2 (show f x+1<=f y from h)).filter (fun v=>decide (v∈hs.map f))).length_le;rw[List.range_succ,List.filter_append,List.length_append] at h1
 have h2:([f x].filter fun v=>decide (v∈hs.map f)).length=1:=by
  rw[List.filter_cons_of_pos (by simpa using ⟨x,hx,rfl⟩)];rfl
 unfold jkk;omega
theorem jwl {hs:List ByteArray} {f:ByteArray->Nat} {x:ByteArray} (hx:x∈hs):jkk hs f x<hs.length:=by
 have h:=jel (f x :: (List.range (f x)).filter fun v=>decide (v∈hs.map f)) (hs.map f) (List.nodup_cons.2 ⟨fun hm=>by
  have:=(List.mem_filter.1 hm).1;rw[List.mem_range] at this;omega,List.nodup_range.filter _⟩) (fun y hy=>by
  rcases List.mem_cons.1 hy with rfl|hy
  . exact List.mem_map_of_mem hx
  exact of_decide_eq_true (List.mem_filter.1 hy).2)
 simp only[List.length_cons,List.length_map] at h;unfold jkk;omega
theorem jl1 {l:List GR} {hs:List ByteArray} (hh:∀ r∈l,r.head.n∈hs) (h:Strat l):∃ f,dep l f/\∀ x∈hs,f x<hs.length:=by
 obtain⟨f,hf⟩:=h;refine⟨jkk hs f,fun r hr p hp he=>?_,fun x hx=>jwl hx⟩;have h1:=hf r hr p hp he;obtain⟨r',hr',e⟩:=he;have hm:p.atom.n∈hs:=e▸hh r' hr';unfold one at h1 ⊢
 cases hn:p.no with
 | true =>
   rw[hn] at h1;have h2:f p.atom.n+1<=f r.head.n:=h1;exact j1z hm h2
 | false =>
   rw[hn] at h1;exact jyf (by simpa using h1)
/-! #### as the reference works them out -/
def at0 (o:List Nat) (i:Nat):Nat:=o.getD i 0
def stepH (a b:GR) (i k:Nat) (o:List Nat):List Nat:=if b.head.n=a.head.n/\at0 o i<at0 o k then o.set i (at0 o k) else o
def stepJ (n:Nat) (b:GR) (i k:Nat) (o:List Nat) (p:GP):List Nat:=if p.atom.n=b.head.n/\at0 o i<at0 o k+one p.no/\at0 o i<=n then o.set i (at0 o k+one p.no) else o
def stepK (l:List GR) (a:GR) (i:Nat) (o:List Nat) (k:Nat):List Nat:=match l[k]? with
 | none=>o
 | some b=>a.body.foldl (stepJ l.length b i k) (stepH a b i k o)
def stepI (l:List GR) (o:List Nat) (i:Nat):List Nat:=match l[i]? with
 | none=>o
 | some a=>(List.range l.length).foldl (stepK l a i) o
def passL (l:List GR) (o:List Nat):List Nat:=(List.range l.length).foldl (stepI l) o
def ja0 (l:List GR):Nat->List Nat
 | 0=>List.replicate l.length 0
 | n+1=>passL l (ja0 l n)
def jap (l:List GR):List Nat:=ja0 l ((l.length+1)*(l.length+2))
def Up (o o':List Nat):Prop:=o'.length=o.length/\∀ i,at0 o i<=at0 o' i
theorem Up.refl (o:List Nat):Up o o:=⟨rfl,fun _=>Nat.le_refl _⟩
theorem Up.trans {a b c:List Nat} (h:Up a b) (k:Up b c):Up a c:=⟨k.1.trans h.1,fun i=>Nat.le_trans (h.2 i) (k.2 i)⟩
theorem jdg {o:List Nat} {i:Nat} (h:i<o.length):o[i]? = some (at0 o i):=by
 unfold at0;rw[List.getD_eq_getElem?_getD,List.getElem?_eq_getElem h];rfl
theorem Up.antisymm {a b:List Nat} (h:Up a b) (k:Up b a):a=b:=by
 apply List.ext_getElem?
 intro i;by_cases hi:i<a.length
 . rw [jdg hi,jdg (by have:=h.1;omega)]
   have h1:=h.2 i;have h2:=k.2 i;rw[show at0 a i=at0 b i from by omega]
 rw[List.getElem?_eq_none (by omega),List.getElem?_eq_none (by have:=h.1;omega)]
theorem jfs {o:List Nat} {i j v:Nat} (h:i<o.length):at0 (o.set i v) j=if i=j then v else at0 o j:=by
 unfold at0;rw[List.getD_eq_getElem?_getD,List.getD_eq_getElem?_getD,List.getElem?_set];by_cases e:i=j
 . subst e;simp[h]
 simp[e]
theorem Up.set {o:List Nat} {i v:Nat} (h:at0 o i<=v):Up o (o.set i v):=by
 refine⟨List.length_set,fun j=>?_⟩;by_cases hi:i<o.length
 . rw [jfs hi]
   split
   . rename_i e;subst e;exact h
   exact Nat.le_refl _
 rw[List.set_eq_of_length_le (by omega)];exact Nat.le_refl _
theorem jlc (a b:GR) (i k:Nat) (o:List Nat):Up o (stepH a b i k o):=by
 unfold stepH;split
 . rename_i h;exact Up.set (by omega)
 exact Up.refl _
theorem jg2 (n:Nat) (b:GR) (i k:Nat) (o:List Nat) (p:GP):Up o (stepJ n b i k o p):=by
 unfold stepJ;split
 . rename_i h;exact Up.set (by omega)
 exact Up.refl _
theorem je5 {β:Type} {f:List Nat->β->List Nat} (hf:∀ o x,Up o (f o x)):∀ (xs:List β) (o:List Nat),Up o (xs.foldl f o)
 | [],o=>Up.refl _
 | x :: xs,o=>by rw[List.foldl_cons];exact (hf o x).trans (je5 hf xs _)
theorem jdx {β:Type} {f:List Nat->β->List Nat} (hf:∀ o x,Up o (f o x)):∀ (xs:List β) (o:List Nat),xs.foldl f o=o->∀ x∈xs,f o x=o
 | x :: xs,o,h,y,hy=>by
   rw[List.foldl_cons] at h;have h1:=hf o x;have h2:=je5 hf xs (f o x);rw[h] at h2;have e:f o x=o:=h2.antisymm h1;rcases List.mem_cons.1 hy with rfl|hy
   . exact e
   rw[e] at h;exact jdx hf xs o h y hy
theorem jld (l:List GR) (a:GR) (i:Nat) (o:List Nat) (k:Nat):Up o (stepK l a i o k):=by
 unfold stepK;split
 . exact Up.refl _
 exact (jlc _ _ _ _ _).trans (je5 (jg2 _ _ _ _) _ _)
theorem jle (l:List GR) (o:List Nat) (i:Nat):Up o (stepI l o i):=by
 unfold stepI;split
 . exact Up.refl _
 exact je5 (jld _ _ _) _ _
theorem jpe (l:List GR) (o:List Nat):Up o (passL l o):=je5 (jle l) _ _
theorem jje (l:List GR):∀ {m n:Nat},m<=n->Up (ja0 l m) (ja0 l n)
 | m,0,h=>by rw[show m=0 from by omega];exact Up.refl _
 | m,n+1,h=>by
   rcases Nat.lt_or_ge m (n+1) with h1|h1
   . exact (jje l (show m<=n from by omega)).trans (jpe l _)
   rw[show m=n+1 from by omega];exact Up.refl _
theorem jcp (l:List GR) (n:Nat):(ja0 l n).length=l.length:=by
 have:=(jje l (Nat.zero_le n)).1;rw[this];exact List.length_replicate
def Under (l:List GR) (f:ByteArray->Nat) (o:List Nat):Prop:=o.length=l.length/\∀ i a,l[i]? = some a->at0 o i<=f a.head.n
theorem Under.set {l:List GR} {f:ByteArray->Nat} {o:List Nat} {i v:Nat} {a:GR} (h:Under l f o) (ha:l[i]? = some a) (hv:v<=f a.head.n):Under l f (o.set i v):=by
 refine⟨List.length_set.trans h.1,fun j b hb=>?_⟩;have hi:=(List.getElem?_eq_some_iff.1 ha).1;rw[jfs (by rw[h.1];exact hi)];split
 . rename_i e;subst e
   rw[ha] at hb;injection hb with hb;subst hb;exact hv
 exact h.2 j b hb
theorem jlf {β:Type} {f:List Nat->β->List Nat} {I:List Nat->Prop}:∀ (xs:List β) (o:List Nat),(∀ o x,x∈xs->I o->I (f o x))->I o->I (xs.foldl f o)
 | [],o,_,h=>h
 | x :: xs,o,hf,h=>by rw[List.foldl_cons];exact jlf xs _ (fun o y hy=>hf o y (List.mem_cons_of_mem _ hy)) (hf o x (by simp) h)
theorem Under.pass {l:List GR} {f:ByteArray->Nat} (hd:dep l f) {o:List Nat} (h:Under l f o):Under l f (passL l o):=by
 refine jlf _ _ (fun o i _ h=>?_) h;unfold stepI;split
 . exact h
 rename_i a ha;refine jlf _ _ (fun o k _ h=>?_) h;unfold stepK;split
 . exact h
 rename_i b hb;refine jlf _ _ (fun o p hp h=>?_) ?_
 . unfold stepJ
   split
   . rename_i hc
     refine h.set ha ?_;have h1:=hd a (List.mem_of_getElem? ha) p hp ⟨b,List.mem_of_getElem? hb,hc.1.symm⟩;have h2:=h.2 k b hb;rw[hc.1] at h1;omega
   exact h
 unfold stepH;split
 . rename_i hc
   refine h.set ha ?_;have h2:=h.2 k b hb;rw[hc.1] at h2;exact h2
 exact h
theorem jex {l:List GR} {f:ByteArray->Nat} (hd:dep l f):∀ n,Under l f (ja0 l n)
 | 0 => ⟨List.length_replicate,fun i a _=>by
     show at0 (List.replicate l.length 0) i<=_;unfold at0;rw[List.getD_eq_getElem?_getD,List.getElem?_replicate];split<;>simp⟩
 | n+1=>(jex hd n).pass hd
theorem jti {l:List GR} {o:List Nat} (hl:o.length=l.length) (hs:passL l o=o) (hlow:∀ i,i<l.length->at0 o i<l.length):Strat l:=by
 have hi:=jdx (jle l) _ o hs
 have key:∀ (i:Nat) (a:GR) (k:Nat) (b:GR),l[i]? = some a->l[k]? = some b->stepH a b i k o=o/\∀ p∈a.body,stepJ l.length b i k o p=o:=by
  intro i a k b ha hb;have hil:=(List.getElem?_eq_some_iff.1 ha).1;have hkl:=(List.getElem?_eq_some_iff.1 hb).1;have h1:=hi i (by simpa using hil);unfold stepI at h1;rw[ha] at h1;have h2:=jdx (jld l a i) _ o h1 k (by simpa using hkl);unfold stepK at h2;rw[hb] at h2;have h3:Up o (stepH a b i k o):=jlc _ _ _ _ _;have h4:=je5 (jg2 l.length b i k) a.body (stepH a b i k o);have h2':a.body.foldl (stepJ l.length b i k) (stepH a b i k o)=o:=h2;rw[h2'] at h4;have e:=h4.antisymm h3;rw[e] at h2';exact⟨e,jdx (jg2 l.length b i k) _ o h2'⟩
 have hH:∀ (i:Nat) (a:GR) (k:Nat) (b:GR),l[i]? = some a->l[k]? = some b->b.head.n=a.head.n->at0 o k<=at0 o i:=by
  intro i a k b ha hb e;have hil:=(List.getElem?_eq_some_iff.1 ha).1;have h1:=(key i a k b ha hb).1;unfold stepH at h1;split at h1
  . have h2:=congrArg (fun x=>at0 x i) h1
    simp only[jfs (show i<o.length from by omega),if_pos] at h2;omega
  rename_i h; 
  have:¬ at0 o i<at0 o k:=fun hc=>h ⟨e,hc⟩
  omega
 have hf:∀ (i:Nat) (a:GR),l[i]? = some a->∃ k b,l.findIdx? (fun r=>decide (r.head.n=a.head.n))=some k/\l[k]? = some b/\b.head.n=a.head.n:=by
  intro i a ha
  cases hfi:l.findIdx? (fun r=>decide (r.head.n=a.head.n)) with
  | none =>
    rw[List.findIdx?_eq_none_iff] at hfi;have:=hfi a (List.mem_of_getElem? ha);simp at this
  | some k =>
    rw[List.findIdx?_eq_some_iff_getElem] at hfi;obtain⟨hk,h1,_⟩:=hfi;exact⟨k,l[k],rfl,List.getElem?_eq_getElem hk,of_decide_eq_true h1⟩
 let f:ByteArray->Nat:=fun x=>match l.findIdx? (fun r=>decide (r.head.n=x)) with|some k=>at0 o k|none=>0
 have hfa:∀ (i:Nat) (a:GR),l[i]? = some a->f a.head.n=at0 o i:=by
  intro i a ha;obtain⟨k,b,h1,h2,h3⟩:=hf i a ha;show (match l.findIdx? (fun r=>decide (r.head.n=a.head.n)) with|some k=>at0 o k|none=>0)=_;rw[h1];have h4:=hH i a k b ha h2 h3;have h5:=hH k b i a h2 ha h3.symm;show at0 o k=at0 o i;omega
 refine⟨f,fun r hr p hp ⟨r',hr',e⟩=>?_⟩;obtain⟨i,hil,rfl⟩:=List.mem_iff_getElem.1 hr;obtain⟨k,hkl,rfl⟩:=List.mem_iff_getElem.1 hr';have ha:=List.getElem?_eq_getElem hil;have hb:=List.getElem?_eq_getElem hkl;rw[<- e,hfa k _ hb,hfa i _ ha];have h1:=(key i _ k _ ha hb).2 p hp;unfold stepJ at h1;split at h1
 . have h2:=congrArg (fun x=>at0 x i) h1
   simp only[jfs (show i<o.length from by omega),if_pos] at h2;omega
 rename_i h;have h2:=hlow i hil;have:¬ at0 o i<at0 o k+one p.no:=fun hc=>h ⟨e.symm,hc,by omega⟩
 omega
theorem j1v {o o':List Nat} (h:Up o o'):o.sum<=o'.sum/\(o.sum=o'.sum->o'=o):=by
 induction o generalizing o' with
 | nil =>
   have:o'=[]:=List.eq_nil_of_length_eq_zero h.1;subst this;exact⟨Nat.le_refl _,fun _=>rfl⟩
 | cons x o ih =>
   cases o' with
   | nil=>exact absurd h.1 (by simp)
   | cons y o' =>
     have h0:x<=y:=h.2 0;have hr:Up o o':=⟨by have:=h.1;simpa using this,fun i=>by have:=h.2 (i+1);simpa [at0] using this⟩
     obtain⟨h1,h2⟩:=ih hr;simp only[List.sum_cons];refine⟨by omega,fun e=>?_⟩;rw[h2 (by omega),show y=x from by omega]
theorem jpf {n:Nat}:∀ {o:List Nat},(∀ x∈o,x<n)->o.sum<=o.length*n
 | [],_=>by simp
 | x :: o,h=>by
   have h1:=jpf (o:=o) (fun y hy=>h y (List.mem_cons_of_mem _ hy));have h2:=h x (by simp);simp only[List.sum_cons,List.length_cons,Nat.add_mul];omega
theorem jq5 (l:List GR):((jap l).any fun x=>decide (l.length<=x))=true↔¬ Strat l:=by
 constructor
 . intro h hs
   obtain⟨f,hd,hb⟩:=jl1 (hs:=l.map (·.head.n)) (fun r hr=>List.mem_map_of_mem hr) hs;rw[List.any_eq_true] at h;obtain⟨x,hx,hge⟩:=h;obtain⟨i,hi,rfl⟩:=List.mem_iff_getElem.1 hx;have hil:i<l.length:=by have:=jcp l ((l.length+1)*(l.length+2));unfold jap at hi;omega
   have h1:=(jex hd ((l.length+1)*(l.length+2))).2 i _ (List.getElem?_eq_getElem hil);have h2:=hb l[i].head.n (List.mem_map_of_mem (List.getElem_mem hil));rw[List.length_map] at h2;have h3:=jdg hi;rw[List.getElem?_eq_getElem hi] at h3;injection h3 with h3
   have h4:=of_decide_eq_true hge;unfold jap at h3 h4;omega
 intro hs;by_cases h:((jap l).any fun x=>decide (l.length<=x))=true
 . exact h
 exfalso
 apply hs
 have hlow:∀ x∈jap l,x<l.length:=fun x hx=>by
  rcases Nat.lt_or_ge x l.length with h1|h1
  . exact h1
  exact absurd (List.any_eq_true.2 ⟨x,hx,decide_eq_true h1⟩) h
 have hlowN:∀ n,n<=(l.length+1)*(l.length+2)->∀ i,i<l.length->at0 (ja0 l n) i<l.length:=fun n hn i hi=>by
  have h1:=(jje l hn).2 i;have h2:at0 (jap l) i<l.length:=hlow _ (List.mem_of_getElem? (jdg (by unfold jap;rw[jcp];exact hi)));unfold jap at h2;omega
 -- some pass leaves all as it is
 have hex:∃ n,n<(l.length+1)*(l.length+2)/\passL l (ja0 l n)=ja0 l n:=by
  apply Classical.byContradiction
  intro hno
  have hgrow:∀ n,n<=(l.length+1)*(l.length+2)->n<=(ja0 l n).sum:=by
   intro n
   induction n with
   | zero=>intro _;exact Nat.zero_le _
   | succ n ih =>
     intro hn;have h1:=ih (by omega);obtain⟨h2,h3⟩:=j1v (jpe l (ja0 l n));have h4:(ja0 l n).sum≠(passL l (ja0 l n)).sum:=fun e=>hno ⟨n,by omega,h3 e⟩
     show n+1<=(passL l (ja0 l n)).sum;omega
  have h1:=hgrow _ (Nat.le_refl _);have h2:(jap l).sum<=(jap l).length*l.length:=jpf hlow;unfold jap at h2;rw[jcp] at h2
  have h3:(l.length+1)*(l.length+2)=l.length*l.length+3*l.length+2:=by
   rw[Nat.add_mul,Nat.mul_add];omega
  omega
 obtain⟨n,hn,he⟩:=hex;exact jti (jcp l n) he (hlowN n (by omega))
open Classical in
noncomputable def jdp (l:List GR):Bool:=decide (¬ Strat l)
theorem jig (l:List GR):((jap l).any fun x=>decide (l.length<=x))=jdp l:=by
 rw[Bool.eq_iff_iff,jq5];unfold jdp;simp
noncomputable def jag (l:List GR):Nat :=
 if l.all jba=false then 1 else if 8<l.length then 2 else if argsB (jaq l)=false then 3 else if l.all jca=false then 4 else if jdp l=true then 5 else 0
end Go.Proofs.YthiflhkcpanaaaaGreatDoor
