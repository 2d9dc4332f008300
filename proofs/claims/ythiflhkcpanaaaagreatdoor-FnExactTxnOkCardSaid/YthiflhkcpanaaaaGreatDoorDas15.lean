/- Own texts, joined. -/
import Derived.Test.YthiflhkcpanaaaaGreatDoorDas14
import Derived.Lib.ItoaNum
import Derived.WideKeyEntry
import Derived.DeepKeys4
set_option linter.unusedSimpArgs false
set_option linter.unusedVariables false
set_option maxHeartbeats 8000000
set_option maxRecDepth 100000
namespace Go.Proofs.YthiflhkcpanaaaaGreatDoor
open Go.RowKit
theorem Later.self (W:World):∃ n:Later W,W=n.at_:=⟨⟨W,Ext.refl W⟩,rfl⟩
theorem later {P:Program} {f:FuncId} {args:Array Value} {W:World} {n:Later W} {R:Ending->World->Prop} (h:Calls P f args n.at_ fun e w'=>R e w'/\Ext n.at_ w') :
  Calls P f args n.at_ fun e w'=>∃ m:Later W,w'=m.at_/\Ext n.at_ m.at_/\R e m.at_ :=
 h.mono fun _ w' ⟨h1,h2⟩=>⟨⟨w',n.ext.t h2⟩,rfl,h2,h1⟩
def BT (a b c:Value) (t:Int) (f:Int) (x y:Value) (g:Nat) (W:World):Prop :=
 Blk W g 27 #[a,.int .i64 t,b,c]/\Blk W (g+1) 52 #[.int .i64 f,x,y]
section
variable {a b c x y:Value} {t f:Int} {g:Nat} {w W V:World}
theorem BT.new (w:World):BT a b c t f x y w.heap.size ((w.alloc (.cells #[a,.int .i64 t,b,c] 27)).alloc (.cells #[.int .i64 f,x,y] 52)) :=
 ⟨(Blk.new _ _ _).alloc _,Blk.at_new (by simp)⟩
theorem BT.ext (h:BT a b c t f x y g W) (hx:Ext W V):BT a b c t f x y g V:=⟨h.1.ext hx,h.2.ext hx⟩
theorem BT.alloc (h:BT a b c t f x y g W) (o:Obj):BT a b c t f x y g (W.alloc o):=h.ext ((Ext.refl _).alloc o)
theorem BT.cells (h:BT a b c t f x y g W):W.cell? ⟨g,0,none⟩=some a/\W.cell? ⟨g,1,none⟩=some (.int .i64 t)/\W.cell? ⟨g,2,none⟩=some b/\W.cell? ⟨g,3,none⟩=some c /\
  W.cell? ⟨g+1,0,none⟩=some (.int .i64 f)/\W.cell? ⟨g+1,1,none⟩=some x/\W.cell? ⟨g+1,2,none⟩=some y/\g<W.heap.size/\g+1<W.heap.size :=
 ⟨h.1.cell 0,h.1.cell 1,h.1.cell 2,h.1.cell 3,h.2.cell 0,h.2.cell 1,h.2.cell 2,h.1.lt,h.2.lt⟩
end
theorem Blk.three {w:World} {g:Nat} {t:TypeId} {a b c:Value} (h:Blk w g t #[a,b,c]):w.cell? ⟨g,0,none⟩=some a/\w.cell? ⟨g,1,none⟩=some b/\w.cell? ⟨g,2,none⟩=some c /\
 w.frozen? ⟨g,0,none⟩=false/\w.frozen? ⟨g,1,none⟩=false/\w.frozen? ⟨g,2,none⟩=false/\g<w.heap.size:=⟨h.cell 0,h.cell 1,h.cell 2,h.frozen 0,h.frozen 1,h.frozen 2,h.lt⟩
def Mute (w:World) (g:Nat):Prop:=∀ i u,w.cell? ⟨g,i,none⟩=some u->(∀ s,u≠ .string s)/\∀ b,u≠ .bool b
theorem jad.offM {S:Nat->Prop} {w:World} {v:Value} {xs:List GT} {g:Nat} (h:jad S w v xs) (hg:Mute w g):jad (fun b=>S b/\b≠g) w v xs:=by
 obtain⟨A,c,h1,h2,h3,h4⟩:=h;refine⟨A,c,h1,h2,h3,fun h0=>?_⟩;obtain⟨b,off,ha,hb,hs,hc⟩:=h4 h0;refine⟨b,off,ha,hb,⟨hs,fun e=>?_⟩,hc⟩;obtain⟨cs,_,hcs,rfl,_⟩:=hc 0 xs[0] (List.getElem?_eq_getElem h0);exact (hg _ _ (e▸hcs 0 _ rfl)).2 _ rfl
theorem jab.offM {S:Nat->Prop} {w:World} {v:Value} {xs:List GA} {g:Nat} (h:jab S w v xs) (hg:Mute w g):jab (fun b=>S b/\b≠g) w v xs:=by
 obtain⟨A,c,h1,h2,h3,h4⟩:=h;refine⟨A,c,h1,h2,h3,fun h0=>?_⟩;obtain⟨b,off,ha,hb,hs,hc⟩:=h4 h0;refine⟨b,off,ha,hb,⟨hs,fun e=>?_⟩,fun i x hx=>?_⟩
 . obtain ⟨cs,_,hcs,_,rfl,_⟩:=hc 0 xs[0] (List.getElem?_eq_getElem h0)
   exact (hg _ _ (e▸hcs 0 _ rfl)).1 _ rfl
 obtain⟨cs,h5,h6,u,h7,h8,h9⟩:=hc i x hx;exact⟨cs,h5,h6,u,h7,h8,h9.offM hg⟩
theorem jab.store {S:Nat->Prop} {w:World} {v:Value} {xs:List GA} {g:Nat} (h:jab S w v xs) (hg:Mute w g) (i:Nat) (u:Value):jab S (w.setCell ⟨g,i,none⟩ u) v xs :=
 ((h.offM hg).imp (S':=fun b=>S b/\b≠g) (fun _ h=>h) ((Agree.refl _ _).setCell (fun h=>h.2 rfl) u) (by simp[World.setCell])).sub fun _ h=>h.1
theorem jab.store3 {S:Nat->Prop} {w:World} {v:Value} {xs:List GA} {g:Nat} (h:jab S w v xs) (hg:Mute w g) (a b c:Value):jab S (((w.setCell ⟨g,0,none⟩ a).setCell ⟨g,1,none⟩ b).setCell ⟨g,2,none⟩ c) v xs :=
 ((h.offM hg).imp (S':=fun b=>S b/\b≠g) (fun _ h=>h) ((((Agree.refl _ _).setCell (fun h=>h.2 rfl) a).setCell (fun h=>h.2 rfl) b).setCell (fun h=>h.2 rfl) c) (by simp[World.setCell])).sub fun _ h=>h.1
theorem Blk.mute {w:World} {g:Nat} {t:TypeId} {cs:Array Value} (h:Blk w g t cs) (hc:∀ u∈cs.toList,(∀ s,u≠ .string s)/\∀ b,u≠ .bool b):Mute w g:=fun i u hu=>by
 rw[h.cell] at hu;exact hc u (Array.mem_toList_iff.2 (Array.mem_of_getElem? hu))
theorem jg7 {w:World} {g:Nat} {t:TypeId} {A B C:Option Addr} {a b c a' b' c':Nat} (h:Blk w g t #[.slice A a a',.slice B b b',.slice C c c']):Mute w g :=
 h.mute (by simp)
end Go.Proofs.YthiflhkcpanaaaaGreatDoor
namespace Go.Proofs.YthiflhkcpanaaaaGreatDoor
open Go.RowKit
noncomputable def txnB (B:GB) (t:GX):Bool :=
 (atL B t.from_).2 && jas t.change && t.change.comes.all (fun a=> !hasA (atL B t.from_).1 a) && t.change.goes.all (hasA (atL B t.from_).1) && fineB B.rules (doL (atL B t.from_).1 t.change)
theorem jy6 (B:GB) (t:GX) (v u:Value) (w:World) {S T:Nat->Prop} (hv:BaseR S w v B) (hu:TxnR T w u t) (hB:LiteB B) :
  Calls Tryz.prog 77 #[v,u] w fun e w'=>e=.returned (.bool (txnB B t))/\Ext w w':=by
 obtain⟨A1,c1,A2,c2,A3,c3,rfl⟩:=hv.form;obtain⟨ta,tb,rfl,ha,hb⟩:=hu;obtain⟨X,cx,rfl,_,_⟩:=jaa.form ha;obtain⟨Y,cy,rfl,_,_⟩:=jaa.form hb;obtain⟨W,hW⟩:=nm ((w.alloc (.cells #[.slice A1 B.rules.length c1,.int .i64 B.time,.slice A2 B.given.length c2,.slice A3 B.hist.length c3] 27)).alloc (.cells #[.int .i64 t.from_,.slice X t.change.comes.length cx,.slice Y t.change.goes.length cy] 52));have HB1:=zh (show Blk W w.heap.size 27 #[.slice A1 B.rules.length c1,.int .i64 B.time,.slice A2 B.given.length c2,.slice A3 B.hist.length c3] from by rw[hW];exact (Blk.new _ _ _).alloc _);have HB2:=zh (show Blk W (w.heap.size+1) 52 #[.int .i64 t.from_,.slice X t.change.comes.length cx,.slice Y t.change.goes.length cy] from by rw[hW];exact Blk.at_new (by simp));have HX:=zh (show Ext w W from by rw[hW];exact ((Ext.refl _).alloc _).alloc _)
 have hrl:∃ Z2:Nat->Prop,jam Z2 w (.slice A1 B.rules.length c1) B.rules:=by
  obtain⟨p,q,r,h1,h2,_,_⟩:=hv;injection h1 with h1
  simp only[Array.mk.injEq,List.cons.injEq] at h1;exact⟨_,by rw[h1.1];exact h2⟩
 obtain⟨Z2,hrl⟩:=hrl;have HRL:=zh (hrl.ext HX.o);have HC1:=zh (ha.ext HX.o);have HC2:=zh (hb.ext HX.o);have HAT:=zh (jvk B t.from_ _ W (hv.ext HX.o) hB);have hal:=jy5 hB t.from_;have HTB:=zh (show txnB B t=((atL B t.from_).2 && jas t.change && t.change.comes.all (fun a=> !hasA (atL B t.from_).1 a) && t.change.goes.all (hasA (atL B t.from_).1) && fineB B.rules (doL (atL B t.from_).1 t.change)) from rfl);obtain⟨al,hale⟩:=nm ((atL B t.from_).1);obtain⟨ab,habe⟩:=nm ((atL B t.from_).2);rw[<- hale,<- habe] at HAT HTB;rw[<- hale] at hal;have HCO:=zh (fun (W':World) (hW':Ext W W')=>jf2 t.change _ _ W' (HC1.o.ext hW') (HC2.o.ext hW'));obtain⟨co,hcoe⟩:=nm (jas t.change)
 have hlc:co=true->lite t.change.comes:=fun h=>by
  rw[hcoe] at h;unfold jas at h;simp only[Bool.and_eq_true] at h;exact jg6 h.1.1 (by omega)
 rw[<- hcoe] at HCO HTB;have HDO:=zh (fun (v':Value) (W':World) (Z:Nat->Prop) (hW':Ext W W') (hv':jab Z W' v' al) (hl:lite t.change.comes)=>jpp al t.change v' _ _ W' hv' (HC1.o.ext hW') (HC2.o.ext hW') ⟨by omega,hal.2⟩ hl);have HFN:=zh (fun (v':Value) (W':World) (Z:Nat->Prop) (hW':Ext W W') (hv':jab Z W' v' (doL al t.change))=>jjo B.rules (doL al t.change) _ v' W' (HRL.o.ext hW') hv');have HHA:=zh (fun (x:GA) (v' u':Value) (W':World) (Z Z':Nat->Prop) (hv':jab Z W' v' al) (hu':jad Z' W' u' x.args)=>jd3 v' u' al x W' hv' hu')
 have HSW:=zh (fun (W':World) (hW':Ext W W')=>(show W'.cell? ⟨w.heap.size,0,none⟩=some (.slice A1 B.rules.length c1)/\W'.cell? ⟨w.heap.size+1,1,none⟩=some (.slice X t.change.comes.length cx)/\W'.cell? ⟨w.heap.size+1,2,none⟩=some (.slice Y t.change.goes.length cy) from
  ⟨(HB1.o.ext hW').cell 0,(HB2.o.ext hW').cell 1,(HB2.o.ext hW').cell 2⟩))
 have p0:=HB1.o.cell 0;have p1:=HB1.o.cell 1;have p2:=HB1.o.cell 2;have p3:=HB1.o.cell 3;have pl:=HB1.o.lt;have q0:=HB2.o.cell 0;have q1:=HB2.o.cell 1;have q2:=HB2.o.cell 2;have ql:=HB2.o.lt;clear hv ha hb hale habe hcoe hrl;rcases (show (ab=false∨(ab=true/\co=false))∨(ab=true/\co=true) from by cases ab<;>cases co<;>simp) with (rfl|⟨rfl,rfl⟩)|⟨rfl,rfl⟩
 rotate_right
 . have HLC := zh (hlc rfl)
   clear hlc
   go_in
   go_upto_region 1 with fail
   rw[<- hW];clear hW
   go_wp2_with (first
    | (go_at_call 60;refine HAT.o.mono ?_;rintro e w1 ⟨⟨v1,rfl,hv1⟩,hx1⟩
       obtain⟨O1,o1,rfl,_,_⟩:=jaa.form hv1;have HV1:=zh hv1;have HX1:=zh hx1;have r1:=(HSW.o _ hx1).2.1;have r2:=(HSW.o _ hx1).2.2;have rl:=Nat.lt_of_lt_of_le ql hx1.size;clear hv1 hx1 p0 p1 p2 p3 q0 q1 q2)
    | (go_at_call 69;refine (HCO.o _ HX1.o).mono ?_;rintro e w2 ⟨rfl,hx2⟩
       have HX2:=zh (HX1.o.t hx2);have HV2:=zh (HV1.o.ext hx2);clear hx2 r1 r2 rl)
    | fail)
   go_loopw [7] (fun i wr=>∃ k:Nat,k<=t.change.comes.length/\i=.int .i64 k/\J1 (∀ (i:Nat) (x:GA),i<k->t.change.comes[i]? = some x->hasA al x=false)/\Ext w2 wr) (fun i _=>t.change.comes.length-(intOf i).toNat)
   case atStart=>exact⟨0,Nat.zero_le _,rfl,zh (fun i x h=>absurd h (Nat.not_lt_zero _)),Ext.refl _⟩
   case round =>
    obtain⟨k,hk,rfl,hp,hx⟩:=hrel;have hk0:(0:Int)<=(k:Int):=by omega
    have hxx:=HX2.o.t hx;have r0:=(HSW.o _ hxx).1;have r1:=(HSW.o _ hxx).2.1;have r2:=(HSW.o _ hxx).2.2;have rl:=Nat.lt_of_lt_of_le ql hxx.size;have rl0:=Nat.lt_of_lt_of_le pl hxx.size;have HXX:=zh hxx;clear hxx;by_cases hlt:k<t.change.comes.length
    . have hlt':(k:Int)<(t.change.comes.length:Int):=by omega
      obtain⟨bb,off,x,v2,rfl,hbl,hxk,hxs,hxt,hc0,hc1'⟩:=jab.at_ (HC1.o.ext HXX.o) hlt;obtain⟨Z,cz,rfl,_,_⟩:=jaa.form hxt;have HH:=zh (HHA.o x _ _ wr _ _ (HV2.o.ext hx) hxt);have HXK:=zh hxk;obtain⟨hb',hbe⟩:∃ hb',hb'=hasA al x:=⟨_,rfl⟩
      rw[<- hbe] at HH;have HBE:=zh hbe;clear hxk hxt hbe;cases hb'
      . go_wp2_with (first
          | (go_at_call 135;refine HH.o.mono ?_;rintro e w3 ⟨rfl,hx3⟩
             have HX3:=zh (hx.t hx3);clear hx3)
          | fail)
        go_roundw
        case rel =>
         exact ⟨k+1,by omega,by go_num,zh (fun i y hi hy=>by
          rcases Nat.lt_or_ge i k with h|h
          . exact hp.o i y h hy
          have e:i=k:=by omega
          subst e;have h1:=HXK.o;rw[hy] at h1;injection h1 with h1
          subst h1;exact HBE.o.symm),HX3.o⟩
        case measure=>simp[intOf];omega
      have HF:=zh (show txnB B t=false from by rw[HTB.o,jli (p:=fun a=> !hasA al a) HXK.o (by rw[<- HBE.o];rfl)];rfl)
      go_wp2_with (first
       | (go_at_call 135;refine HH.o.mono ?_;rintro e w3 ⟨rfl,hx3⟩
          have HX3:=zh (HXX.o.t hx3);clear hx3)
       | fail)
      go_ret;rw[HF.o];exact⟨rfl,HX.o.t HX3.o⟩
    have hlt':¬ (k:Int)<(t.change.comes.length:Int):=by omega
    have HAC:=zh (show t.change.comes.all (fun a=> !hasA al a)=true from jlj (fun i x hi hx=>by simp[hp.o i x (by omega) hx]));clear hp;go_wp2_with fail
    rename World=>w5
    go_loopw [8] (fun i wr=>∃ q:Nat,q<=t.change.goes.length/\i=.int .i64 q/\J1 (∀ (i:Nat) (x:GA),i<q->t.change.goes[i]? = some x->hasA al x=true)/\Ext w5 wr) (fun i _=>t.change.goes.length-(intOf i).toNat)
    case atStart=>exact⟨0,Nat.zero_le _,rfl,zh (fun i x h=>absurd h (Nat.not_lt_zero _)),Ext.refl _⟩
    case round =>
     obtain⟨q,hq,rfl,hp,hxq⟩:=hrel;have hq0:(0:Int)<=(q:Int):=by omega
     have hxx:=HXX.o.t hxq;clear r0 r1 r2 rl rl0;have r0:=(HSW.o _ hxx).1;have r1:=(HSW.o _ hxx).2.1;have r2:=(HSW.o _ hxx).2.2;have rl:=Nat.lt_of_lt_of_le ql hxx.size;have rl0:=Nat.lt_of_lt_of_le pl hxx.size;have HXQ:=zh hxx;have HVQ:=zh (HV2.o.ext (hx.t hxq));clear hxx;by_cases hlq:q<t.change.goes.length
     . have hlq':(q:Int)<(t.change.goes.length:Int):=by omega
       obtain⟨bb,off,x,v2,rfl,hbl,hxk,hxs,hxt,hc0,hc1'⟩:=jab.at_ (HC2.o.ext HXQ.o) hlq;obtain⟨Z,cz,rfl,_,_⟩:=jaa.form hxt;have HH:=zh (HHA.o x _ _ wr _ _ HVQ.o hxt);have HXK:=zh hxk;obtain⟨hb',hbe⟩:∃ hb',hb'=hasA al x:=⟨_,rfl⟩
       rw[<- hbe] at HH;have HBE:=zh hbe;clear hxk hxt hbe;cases hb'
       . have HF:=zh (show txnB B t=false from by rw[HTB.o,HAC.o,jli (p:=hasA al) HXK.o HBE.o.symm];rfl)
         go_wp2_with (first
          | (go_at_call 135;refine HH.o.mono ?_;rintro e w3 ⟨rfl,hx3⟩
             have HX3:=zh (HXQ.o.t hx3);clear hx3)
          | fail)
         go_ret;rw[HF.o];exact⟨rfl,HX.o.t HX3.o⟩
       go_wp2_with (first
         | (go_at_call 135;refine HH.o.mono ?_;rintro e w3 ⟨rfl,hx3⟩
            have HX3:=zh (hxq.t hx3);clear hx3)
         | fail)
       go_roundw
       case rel =>
        exact ⟨q+1,by omega,by go_num,zh (fun i y hi hy=>by
         rcases Nat.lt_or_ge i q with h|h
         . exact hp.o i y h hy
         have e:i=q:=by omega
         subst e;have h1:=HXK.o;rw[hy] at h1;injection h1 with h1
         subst h1;exact HBE.o.symm),HX3.o⟩
       case measure=>simp[intOf];omega
     have hlq':¬ (q:Int)<(t.change.goes.length:Int):=by omega
     have HF:=zh (show txnB B t=fineB B.rules (doL al t.change) from by
      rw[HTB.o,HAC.o,jlj (p:=hasA al) (fun i x hi hx=>hp.o i x (by omega) hx)];rfl)
     clear hp;go_wp2_with fail
     go_upto_region 14 with fail
     go_region_held3 (fun W'=>W'.cell? ⟨w.heap.size,0,none⟩=some (.slice A1 B.rules.length c1)/\W'.cell? ⟨w.heap.size+1,1,none⟩=some (.slice X t.change.comes.length cx)/\W'.cell? ⟨w.heap.size+1,2,none⟩=some (.slice Y t.change.goes.length cy))
      (first|exact HSW.o _ HX7.o|exact HSW.o _ HX6.o|exact HSW.o _ (HXQ.o.t (Ext.refl wr).drew))
      (first
       | (go_at_call 136;refine (HDO.o _ _ _ (HXQ.o.t (Ext.refl wr).drew) (HVQ.o.ext (Ext.refl wr).drew) HLC.o).mono ?_;rintro e w6 ⟨⟨v6,rfl,hv6⟩,hx6⟩
          obtain⟨O6,o6,rfl,_,_⟩:=jaa.form hv6;have HX6:=zh ((HXQ.o.t (Ext.refl wr).drew).t hx6);have HV6:=zh hv6;clear hv6 hx6)
       | (go_at_call 68;refine (HFN.o _ _ _ HX6.o HV6.o).mono ?_;rintro e w7 ⟨rfl,hx7⟩
          have HX7:=zh (HX6.o.t hx7);clear hx7))
     all_goals go_wp2_with fail
     all_goals
      go_ret;rw[HF.o];exact⟨rfl,HX.o.t HX7.o⟩
 . have HF:=zh (show txnB B t=false from HTB.o)
   clear hlc
   go_in
   go_upto_region 1 with fail
   rw[<- hW];clear hW
   go_wp2_with (first
    | (go_at_call 60;refine HAT.o.mono ?_;rintro e w1 ⟨⟨v1,rfl,hv1⟩,hx1⟩
       obtain⟨O1,o1,rfl,_,_⟩:=jaa.form hv1;have HX1:=zh hx1;clear hv1 hx1)
    | fail)
   go_ret;rw[HF.o];exact⟨rfl,HX.o.t HX1.o⟩
 have HF:=zh (show txnB B t=false from HTB.o);clear hlc
 go_in
 go_upto_region 1 with fail
 rw[<- hW];clear hW
 go_wp2_with (first
  | (go_at_call 60;refine HAT.o.mono ?_;rintro e w1 ⟨⟨v1,rfl,hv1⟩,hx1⟩
     obtain⟨O1,o1,rfl,_,_⟩:=jaa.form hv1;have HX1:=zh hx1;have r1:=(HSW.o _ hx1).2.1;have r2:=(HSW.o _ hx1).2.2;have rl:=Nat.lt_of_lt_of_le ql hx1.size;clear hv1 hx1 p0 p1 p2 p3 q0 q1 q2)
  | (go_at_call 69;refine (HCO.o _ HX1.o).mono ?_;rintro e w2 ⟨rfl,hx2⟩
     have HX2:=zh (HX1.o.t hx2);clear hx2)
  | fail)
 go_ret;rw[HF.o];exact⟨rfl,HX.o.t HX2.o⟩
end Go.Proofs.YthiflhkcpanaaaaGreatDoor
namespace Go.Proofs.YthiflhkcpanaaaaGreatDoor
open Go.RowKit
/-! ### Strictly ascending -/
section
variable {α:Type} {c:α->α->Int}
def AscC (c:α->α->Int) (l:List α):Prop:=l.Pairwise fun a b=>c a b<0
theorem jrp (h:Total c) (a:α):c a a=0:=(h.eq a a).2 rfl
theorem jy7 (h:Total c):∀ {l m:List α},AscC c l->AscC c m->(∀ x,x∈l↔x∈m)->l=m
 | [],[],_,_,_=>rfl
 | [],y :: m,_,_,hm=>absurd ((hm y).2 (by simp)) (by simp)
 | x :: l,[],_,_,hm=>absurd ((hm x).1 (by simp)) (by simp)
 | x :: l,y :: m,hl,hm,he=>by
   obtain⟨h1,h2⟩:=List.pairwise_cons.1 hl;obtain⟨k1,k2⟩:=List.pairwise_cons.1 hm
   have hxy:x=y:=by
    rcases List.mem_cons.1 ((he x).1 (by simp)) with e|e
    . exact e
    rcases List.mem_cons.1 ((he y).2 (by simp)) with e2|e2
    . exact e2.symm
    have a1:=k1 x e;have a2:=h1 y e2;rw[h.neg] at a1;omega
   subst hxy
   congr 1
   refine jy7 h h2 k2 fun z=>?_
   constructor
   . intro hz
     rcases List.mem_cons.1 ((he z).1 (List.mem_cons_of_mem _ hz)) with e|e
     . subst e
       have:=h1 z hz;rw[jrp h] at this;omega
     exact e
   intro hz;rcases List.mem_cons.1 ((he z).2 (List.mem_cons_of_mem _ hz)) with e|e
   . subst e
     have:=k1 z hz;rw[jrp h] at this;omega
   exact e
end
/-! ### Rows -/
theorem jww:Total cmpS where
 eq a b:=by
  unfold cmpS;rw[jb3.eq];exact⟨fun h=>jgp h,fun h=>by rw[h]⟩
 neg a b:=by unfold cmpS;exact jb3.neg _ _
 trans a b d h1 h2:=by unfold cmpS at *;exact jb3.trans _ _ _ h1 h2
end Go.Proofs.YthiflhkcpanaaaaGreatDoor
namespace Go.Proofs.YthiflhkcpanaaaaGreatDoor
open Go.RowKit
def varsN (body:List GP):List ByteArray:=body.foldl (fun o p=>ja7 o p.atom) []
theorem jgq (body:List GP):AscS (varsN body):=(jlb body [] List.Pairwise.nil).1
theorem jfh {body:List GP} {x:ByteArray}:x∈varsN body↔∃ p∈body,x∈jc4 p.atom:=by
 unfold varsN;rw[(jlb body [] List.Pairwise.nil).2];simp
theorem jdz {a:GA} {x:ByteArray}:x∈jc4 a↔∃ t∈a.args,t.v=true/\t.n=x:=by
 unfold jc4;simp only[List.mem_map,List.mem_filter]
 constructor
 . rintro ⟨t,⟨h1,h2⟩,h3⟩;exact⟨t,h1,h2,h3⟩
 rintro ⟨t,h1,h2,h3⟩;exact⟨t,⟨h1,h2⟩,h3⟩
theorem jtx {s:ByteArray} (h:jaz s=true):isNo s=false:=by
 unfold jaz jbu inB at h;simp only[Bool.and_eq_true,decide_eq_true_eq] at h;unfold isNo;refine decide_eq_false fun e=>?_
 have:=h.1.2.1;rw[e] at this;omega
theorem jwx {s:ByteArray} (h:jcj s=true):isNo s=false:=by
 unfold jcj at h;simp only[Bool.and_eq_true] at h;unfold isNo;refine decide_eq_false fun e=>?_
 have h1:=h.1.1;unfold capB at h1;have:s.data.toList=[]:=List.eq_nil_of_length_eq_zero (by simpa using e);rw[this] at h1;cases h1
theorem jmh {t:GT} (h:ja3 t=true):isNo t.n=false:=by
 unfold ja3 at h;split at h
 . exact jwx h
 exact jtx h
theorem jmi {a:GA} (h:jat a=true):∀ t∈a.args,isNo t.n=false:=fun t ht=>by
 unfold jat at h;simp only[Bool.and_eq_true] at h;exact jmh (List.all_eq_true.1 h.2 t ht)
theorem jpr {a:GA} (h:factB a=true):jlr a:=fun t ht=>by
 unfold factB at h;simp only[Bool.and_eq_true] at h;have h2:=List.all_eq_true.1 h.2 t ht;exact⟨by simpa using h2,jmi h.1 t ht⟩
theorem jwy {body:List GP} (h:∀ p∈body,p.atom.args.length<=3):(body.flatMap fun p=>jc4 p.atom).length<=3*body.length:=by
 induction body with
 | nil=>simp
 | cons p body ih =>
   have h1:=ih (fun q hq=>h q (List.mem_cons_of_mem _ hq));have h2:=h p (by simp)
   have h3:(jc4 p.atom).length<=p.atom.args.length:=by
    unfold jc4;rw[List.length_map];exact List.length_filter_le _ _
   rw[List.flatMap_cons,List.length_append,List.length_cons];omega
theorem jjp {a:GA} (h:jat a=true):a.args.length<=3:=by
 unfold jat at h;simp only[Bool.and_eq_true,decide_eq_true_eq] at h;exact h.1.2
theorem jy8 {body:List GP} (h:∀ p∈body,p.atom.args.length<=3) (hb:body.length<=4):(varsN body).length<=12:=by
 have h1:=jel (varsN body) (body.flatMap fun p=>jc4 p.atom) (jgq body).nodup (fun x hx=>by
  obtain⟨p,hp,hx⟩:=jfh.1 hx;exact List.mem_flatMap.2 ⟨p,hp,hx⟩)
 have h2:=jwy h;omega
end Go.Proofs.YthiflhkcpanaaaaGreatDoor
namespace Go.Proofs.YthiflhkcpanaaaaGreatDoor
open Go.RowKit
structure jac (S:Nat->Prop) (w w':World):Prop where
 os:w'.os=w.os
 tape:w'.tape=w.tape
 output:w'.output=w.output
 size:w.heap.size<=w'.heap.size
 block:∀ b,b<w.heap.size->¬ S b->w'.heap[b]? = w.heap[b]?
section
variable {S T:Nat->Prop} {a b c:World}
theorem jac.refl (S:Nat->Prop) (w:World):jac S w w:=⟨rfl,rfl,rfl,Nat.le_refl _,fun _ _ _=>rfl⟩
theorem jac.of_ext (h:Ext a b):jac S a b:=⟨h.os,h.tape,h.output,h.size,fun k hk _=>h.block k hk⟩
theorem jac.t (h:jac S a b) (k:jac S b c):jac S a c :=
 ⟨k.os.trans h.os,k.tape.trans h.tape,k.output.trans h.output,Nat.le_trans h.size k.size,fun i hi hn=>(k.block i (Nat.lt_of_lt_of_le hi h.size) hn).trans (h.block i hi hn)⟩
theorem jac.sub (h:jac S a b) (hS:∀ i,S i->i<a.heap.size->T i):jac T a b:=⟨h.os,h.tape,h.output,h.size,fun k hk hn=>h.block k hk (fun hs=>hn (hS k hs hk))⟩
theorem jac.set (w:World) (p:Addr) (u:Value) (h:S p.block):jac S w (w.setCell p u) :=
 ⟨rfl,rfl,rfl,by simp[World.setCell],fun k _ hn=>Below.heap_setCell w p u k (fun e=>hn (e▸h))⟩
theorem jac.toExt (h:jac S b c) (hx:Ext a b) (hS:∀ i,S i->a.heap.size<=i):Ext a c :=
 ⟨h.os.trans hx.os,h.tape.trans hx.tape,h.output.trans hx.output,Nat.le_trans hx.size h.size,fun k hk=>(h.block k (Nat.lt_of_lt_of_le hk hx.size) (fun hs=>absurd (hS k hs) (Nat.not_le.2 hk))).trans (hx.block k hk)⟩
theorem jac.blk {g:Nat} {t:TypeId} {cs:Array Value} (h:jac S a b) (hb:Blk a g t cs) (hg:¬ S g):Blk b g t cs:=(h.block g hb.lt hg).trans hb
end
end Go.Proofs.YthiflhkcpanaaaaGreatDoor
namespace Go.Proofs.YthiflhkcpanaaaaGreatDoor
open Go.RowKit
/-! ### Slots, patterns, numbers -/
def GS.num (s:GS):Int:=match s.v with
 | none=> -1
 | some v=>(v:Int)
def SlotE (_:World) (cs:List Value) (s:GS):Prop:=cs=[.int .i64 s.num,.string s.w]/\s.w.size<=maxLen
def ja9 (S:Nat->Prop):World->Value->List GS->Prop:=jaa S 2 SlotE
def kSlot:Kind GS:=⟨2,fun _=>SlotE,by decide,fun h _ _ _=>h,fun h=>by obtain⟨rfl,_⟩:=h;intro u hu;simp at hu;rcases hu with rfl|rfl<;>rfl,fun h=>by obtain⟨rfl,_⟩:=h;rfl⟩
theorem ja9.impL {S S':Nat->Prop} {w w':World} {v:Value} {xs:List GS} (h:ja9 S w v xs) (hS:∀ b,S b->b<w.heap.size->S' b) (he:Agree S w w') (hsz:w.heap.size<=w'.heap.size):ja9 S' w' v xs:=ListK.imp (k:=kSlot) h hS he hsz
theorem ja9.ext {S:Nat->Prop} {w w':World} {v:Value} {xs:List GS} (h:ja9 S w v xs) (he:Ext w w'):ja9 S w' v xs:=h.impL (fun _ h _=>h) (.of_ext he) he.size
theorem ja9.at_ {S:Nat->Prop} {w:World} {A:Option Addr} {n c:Nat} {xs:List GS} (h:ja9 S w (.slice A n c) xs) {k:Nat} (hk:k<n) :
  ∃ (b off:Nat) (x:GS),A=some ⟨b,off,none⟩/\b<w.heap.size/\xs[k]? = some x/\x.w.size<=maxLen /\
    w.cell? ⟨b,off+k*2,none⟩=some (.int .i64 x.num)/\w.cell? ⟨b,off+k*2+1,none⟩=some (.string x.w):=by
 obtain⟨b,off,x,cs,hA,hb,hx,_,hc,rfl,hs⟩:=jaa.at_ h hk;exact⟨b,off,x,hA,hb,hx,hs,hc 0 _ rfl,hc 1 _ rfl⟩
def PatE (S:Nat->Prop) (w:World) (cs:List Value) (p:GPat):Prop:=∃ v,cs=[.string p.n,v]/\p.n.size<=maxLen/\ja9 S w v p.slots
def kPat:Kind GPat:=⟨2,PatE,by decide,fun h hS he hsz=>by obtain⟨v,h1,h2,h3⟩:=h;exact⟨v,h1,h2,h3.impL hS he hsz⟩,
 fun {_ _ l x} h=>by obtain⟨v,rfl,_,ht⟩:=h;intro y hy;simp at hy;rcases hy with rfl|rfl<;>first|rfl|exact ListK.one (k:=kSlot) ht,fun h=>by obtain⟨v,rfl,_⟩:=h;rfl⟩
def PatsR (S:Nat->Prop):World->Value->List GPat->Prop:=jaa S 2 (PatE S)
theorem PatsR.impL {S S':Nat->Prop} {w w':World} {v:Value} {xs:List GPat} (h:PatsR S w v xs) (hS:∀ b,S b->b<w.heap.size->S' b) (he:Agree S w w') (hsz:w.heap.size<=w'.heap.size):PatsR S' w' v xs:=ListK.imp (k:=kPat) h hS he hsz
theorem PatsR.ext {S:Nat->Prop} {w w':World} {v:Value} {xs:List GPat} (h:PatsR S w v xs) (he:Ext w w'):PatsR S w' v xs:=h.impL (fun _ h _=>h) (.of_ext he) he.size
theorem PatsR.at_ {S:Nat->Prop} {w:World} {A:Option Addr} {n c:Nat} {xs:List GPat} (h:PatsR S w (.slice A n c) xs) {k:Nat} (hk:k<n) :
  ∃ (b off:Nat) (x:GPat) (v:Value),A=some ⟨b,off,none⟩/\b<w.heap.size/\xs[k]? = some x/\x.n.size<=maxLen/\ja9 S w v x.slots /\
    w.cell? ⟨b,off+k*2,none⟩=some (.string x.n)/\w.cell? ⟨b,off+k*2+1,none⟩=some v:=by
 obtain⟨b,off,x,cs,hA,hb,hx,_,hc,v,rfl,hs,ht⟩:=jaa.at_ h hk;exact⟨b,off,x,v,hA,hb,hx,hs,ht,hc 0 _ rfl,hc 1 _ rfl⟩
def NumE (_:World) (cs:List Value) (n:Nat):Prop:=cs=[.int .i64 (n:Int)]
def kNum:Kind Nat:=⟨1,fun _=>NumE,by decide,fun h _ _ _=>h,fun h=>by obtain rfl:=h;intro u hu;simp at hu;subst hu;rfl,fun h=>by obtain rfl:=h;rfl⟩
def NumsR (S:Nat->Prop):World->Value->List Nat->Prop:=jaa S 1 NumE
theorem NumsR.impL {S S':Nat->Prop} {w w':World} {v:Value} {xs:List Nat} (h:NumsR S w v xs) (hS:∀ b,S b->b<w.heap.size->S' b) (he:Agree S w w') (hsz:w.heap.size<=w'.heap.size):NumsR S' w' v xs:=ListK.imp (k:=kNum) h hS he hsz
theorem NumsR.ext {S:Nat->Prop} {w w':World} {v:Value} {xs:List Nat} (h:NumsR S w v xs) (he:Ext w w'):NumsR S w' v xs:=h.impL (fun _ h _=>h) (.of_ext he) he.size
theorem NumsR.at_ {S:Nat->Prop} {w:World} {A:Option Addr} {n c:Nat} {xs:List Nat} (h:NumsR S w (.slice A n c) xs) {k:Nat} (hk:k<n) :
  ∃ (b off x:Nat),A=some ⟨b,off,none⟩/\b<w.heap.size/\xs[k]? = some x/\w.cell? ⟨b,off+k,none⟩=some (.int .i64 (x:Int)):=by
 obtain⟨b,off,x,cs,hA,hb,hx,_,hc,rfl⟩:=jaa.at_ h hk;exact⟨b,off,x,hA,hb,hx,by simpa using hc 0 _ rfl⟩
/-! ### The search's block -/
structure Sea where
 st:Value
 q0:Value
 q1:Value
 q2:Value
 wanted:List Bool
 inOrd:Bool
 ahead:Int
 W:Words
 bd:List Nat
 cnt:Nat
 tell:Value
def Sea.f (s:Sea) (i:Nat):Value :=
 if i=0 then s.st else if i=1 then s.q0 else if i=2 then s.q1 else if i=3 then s.q2
 else if i<16 then .bool (s.wanted.getD (i-4) false)
 else if i=16 then .bool s.inOrd else if i=17 then .int .i64 s.ahead
 else if i<30 then .string (s.W.at_ (i-18))
 else if i<42 then .int .i64 ((s.bd.getD (i-30) 0:Nat):Int)
 else if i=42 then .int .i64 (s.cnt:Int) else s.tell
def Sea.cells (s:Sea):Array Value:=Array.ofFn (n:=44) fun i=>s.f i.val
theorem Sea.size (s:Sea):s.cells.size=44:=by simp[Sea.cells]
theorem Sea.at_ (s:Sea) {i:Nat} (h:i<44):s.cells[i]? = some (s.f i):=by simp[Sea.cells,h]
theorem Sea.set_ (s t:Sea) {j:Nat} {u:Value} (hj:j<44) (h1:t.f j=u) (h2:∀ i,i<44->i≠j->t.f i=s.f i):s.cells.setIfInBounds j u=t.cells:=by
 apply Array.ext_getElem?
 intro i;rw[Array.getElem?_setIfInBounds];by_cases hi:i<44
 . rw [t.at_ hi]
   by_cases hij:j=i
   . subst hij;rw[if_pos rfl,if_pos (by rw[s.size];exact hj),h1]
   rw[if_neg hij,s.at_ hi,h2 i hi (fun e=>hij e.symm)]
 have e1:t.cells[i]? = none:=Array.getElem?_eq_none (by rw[t.size];omega);have e2:s.cells[i]? = none:=Array.getElem?_eq_none (by rw[s.size];omega);rw[e1,e2,if_neg (by omega:¬ j=i)]
structure SeaAt (w:World) (sb:Nat) (s:Sea):Prop where
 blk:Blk w sb 256 s.cells
 lW:s.W.length=12
 lB:s.bd.length=12
 lw:s.wanted.length=12
 small:∀ x∈s.W,x.size<=maxLen
section
variable {w w':World} {sb:Nat} {s:Sea}
theorem SeaAt.lt (h:SeaAt w sb s):sb<w.heap.size:=h.blk.lt
theorem SeaAt.ext (h:SeaAt w sb s) (hx:Ext w w'):SeaAt w' sb s:=⟨h.blk.ext hx,h.lW,h.lB,h.lw,h.small⟩
theorem SeaAt.inside {S:Nat->Prop} (h:SeaAt w sb s) (hx:jac S w w') (hS:¬ S sb):SeaAt w' sb s:=⟨hx.blk h.blk hS,h.lW,h.lB,h.lw,h.small⟩
theorem SeaAt.cell (h:SeaAt w sb s) {i:Nat} (hi:i<44):w.cell? ⟨sb,i,none⟩=some (s.f i):=by rw[h.blk.cell,s.at_ hi]
theorem SeaAt.frozen (h:SeaAt w sb s) (i:Nat):w.frozen? ⟨sb,i,none⟩=false:=h.blk.frozen i
theorem SeaAt.word (h:SeaAt w sb s) {v:Nat} (hv:v<12):w.cell? ⟨sb,18+v,none⟩=some (.string (s.W.at_ v)):=by
 rw[h.cell (by omega)];unfold Sea.f;rw[if_neg (by omega),if_neg (by omega),if_neg (by omega),if_neg (by omega),if_neg (by omega),if_neg (by omega),if_neg (by omega),if_pos (by omega)];rw[show 18+v-18=v by omega]
theorem SeaAt.bound (h:SeaAt w sb s) {c:Nat} (hc:c<12):w.cell? ⟨sb,30+c,none⟩=some (.int .i64 ((s.bd.getD c 0:Nat):Int)):=by
 rw[h.cell (by omega)];unfold Sea.f;rw[if_neg (by omega),if_neg (by omega),if_neg (by omega),if_neg (by omega),if_neg (by omega),if_neg (by omega),if_neg (by omega),if_neg (by omega),if_pos (by omega)];rw[show 30+c-30=c by omega]
theorem SeaAt.want (h:SeaAt w sb s) {c:Nat} (hc:c<12):w.cell? ⟨sb,4+c,none⟩=some (.bool (s.wanted.getD c false)):=by
 rw[h.cell (by omega)];unfold Sea.f;rw[if_neg (by omega),if_neg (by omega),if_neg (by omega),if_neg (by omega),if_pos (by omega)];rw[show 4+c-4=c by omega]
theorem SeaAt.st (h:SeaAt w sb s):w.cell? ⟨sb,0,none⟩=some s.st:=h.cell (i:=0) (by omega)
theorem SeaAt.q0 (h:SeaAt w sb s):w.cell? ⟨sb,1,none⟩=some s.q0:=h.cell (i:=1) (by omega)
theorem SeaAt.q1 (h:SeaAt w sb s):w.cell? ⟨sb,2,none⟩=some s.q1:=h.cell (i:=2) (by omega)
theorem SeaAt.inOrd (h:SeaAt w sb s):w.cell? ⟨sb,16,none⟩=some (.bool s.inOrd):=h.cell (i:=16) (by omega)
theorem SeaAt.ahead (h:SeaAt w sb s):w.cell? ⟨sb,17,none⟩=some (.int .i64 s.ahead):=h.cell (i:=17) (by omega)
theorem SeaAt.cnt (h:SeaAt w sb s):w.cell? ⟨sb,42,none⟩=some (.int .i64 (s.cnt:Int)):=h.cell (i:=42) (by omega)
theorem SeaAt.tell (h:SeaAt w sb s):w.cell? ⟨sb,43,none⟩=some s.tell:=h.cell (i:=43) (by omega)
theorem SeaAt.setW (h:SeaAt w sb s) {v:Nat} (hv:v<12) {x:ByteArray} (hx:x.size<=maxLen):SeaAt (w.setCell ⟨sb,18+v,none⟩ (.string x)) sb { s with W:=s.W.set v x }:=by
 refine⟨?_,by rw[List.length_set];exact h.lW,h.lB,h.lw,fun y hy=>?_⟩
 . have h1:=h.blk.set_ (18+v) (.string x)
   rwa [s.set_ { s with W:=s.W.set v x } (by omega) (by
    unfold Sea.f;rw[if_neg (by omega),if_neg (by omega),if_neg (by omega),if_neg (by omega),if_neg (by omega),if_neg (by omega),if_neg (by omega),if_pos (by omega)];rw[show 18+v-18=v by omega];show Value.string (Words.at_ (s.W.set v x) v)=_;rw[jkd,if_pos ⟨rfl,by rw[h.lW];exact hv⟩]) (fun i hi hne=>by
    unfold Sea.f;by_cases h18:18<=i/\i<30
    . rw [if_neg (by omega),if_neg (by omega),if_neg (by omega),if_neg (by omega),if_neg (by omega),if_neg (by omega),if_neg (by omega),if_pos (by omega)]
      rw[if_neg (by omega),if_neg (by omega),if_neg (by omega),if_neg (by omega),if_neg (by omega),if_neg (by omega),if_neg (by omega),if_pos (by omega)];show Value.string (Words.at_ (s.W.set v x) (i-18))=_;rw[jkd,if_neg (by omega)]
    rcases (by omega:i=0∨i=1∨i=2∨i=3∨i=4∨i=5∨i=6∨i=7∨i=8∨i=9∨i=10∨i=11∨i=12∨i=13∨i=14∨i=15∨i=16∨i=17∨i=30∨i=31∨i=32∨i=33∨i=34∨i=35∨i=36∨i=37∨i=38∨i=39∨i=40∨i=41∨i=42∨i=43) with rfl|rfl|rfl|rfl|rfl|rfl|rfl|rfl|rfl|rfl|rfl|rfl|rfl|rfl|rfl|rfl|rfl|rfl|rfl|rfl|rfl|rfl|rfl|rfl|rfl|rfl|rfl|rfl|rfl|rfl|rfl|rfl<;>rfl)] at h1
 rcases List.mem_or_eq_of_mem_set hy with h1|h1
 . exact h.small y h1
 rw[h1];exact hx
theorem SeaAt.setB (h:SeaAt w sb s) {c:Nat} (hc:c<12) (n:Nat):SeaAt (w.setCell ⟨sb,30+c,none⟩ (.int .i64 (n:Int))) sb { s with bd:=s.bd.set c n }:=by
 refine⟨?_,h.lW,by rw[List.length_set];exact h.lB,h.lw,h.small⟩;have h1:=h.blk.set_ (30+c) (.int .i64 (n:Int))
 rwa [s.set_ { s with bd:=s.bd.set c n } (by omega) (by
  unfold Sea.f;rw[if_neg (by omega),if_neg (by omega),if_neg (by omega),if_neg (by omega),if_neg (by omega),if_neg (by omega),if_neg (by omega),if_neg (by omega),if_pos (by omega)];rw[show 30+c-30=c by omega];show Value.int .i64 (((s.bd.set c n).getD c 0:Nat):Int)=_;rw[List.getD_eq_getElem?_getD,List.getElem?_set_self (by rw[h.lB];exact hc)];rfl) (fun i hi hne=>by
  unfold Sea.f;by_cases h18:30<=i/\i<42
  . rw [if_neg (by omega),if_neg (by omega),if_neg (by omega),if_neg (by omega),if_neg (by omega),if_neg (by omega),if_neg (by omega),if_neg (by omega),if_pos (by omega)]
    rw[if_neg (by omega),if_neg (by omega),if_neg (by omega),if_neg (by omega),if_neg (by omega),if_neg (by omega),if_neg (by omega),if_neg (by omega),if_pos (by omega)];show Value.int .i64 (((s.bd.set c n).getD (i-30) 0:Nat):Int)=_;rw[List.getD_eq_getElem?_getD,List.getElem?_set_ne (by omega),<- List.getD_eq_getElem?_getD]
  rcases (by omega:i=0∨i=1∨i=2∨i=3∨i=4∨i=5∨i=6∨i=7∨i=8∨i=9∨i=10∨i=11∨i=12∨i=13∨i=14∨i=15∨i=16∨i=17∨i=18∨i=19∨i=20∨i=21∨i=22∨i=23∨i=24∨i=25∨i=26∨i=27∨i=28∨i=29∨i=42∨i=43) with rfl|rfl|rfl|rfl|rfl|rfl|rfl|rfl|rfl|rfl|rfl|rfl|rfl|rfl|rfl|rfl|rfl|rfl|rfl|rfl|rfl|rfl|rfl|rfl|rfl|rfl|rfl|rfl|rfl|rfl|rfl|rfl<;>rfl)] at h1
theorem SeaAt.setC (h:SeaAt w sb s) (n:Nat):SeaAt (w.setCell ⟨sb,42,none⟩ (.int .i64 (n:Int))) sb { s with cnt:=n }:=by
 refine⟨?_,h.lW,h.lB,h.lw,h.small⟩;have h1:=h.blk.set_ 42 (.int .i64 (n:Int))
 rwa [s.set_ { s with cnt:=n } (j:=42) (u:=.int .i64 (n:Int)) (by omega) rfl (fun i hi hne=>by
  rcases (by omega:i=0∨i=1∨i=2∨i=3∨i=4∨i=5∨i=6∨i=7∨i=8∨i=9∨i=10∨i=11∨i=12∨i=13∨i=14∨i=15∨i=16∨i=17∨i=18∨i=19∨i=20∨i=21∨i=22∨i=23∨i=24∨i=25∨i=26∨i=27∨i=28∨i=29∨i=30∨i=31∨i=32∨i=33∨i=34∨i=35∨i=36∨i=37∨i=38∨i=39∨i=40∨i=41∨i=43) with rfl|rfl|rfl|rfl|rfl|rfl|rfl|rfl|rfl|rfl|rfl|rfl|rfl|rfl|rfl|rfl|rfl|rfl|rfl|rfl|rfl|rfl|rfl|rfl|rfl|rfl|rfl|rfl|rfl|rfl|rfl|rfl|rfl|rfl|rfl|rfl|rfl|rfl|rfl|rfl|rfl|rfl|rfl<;>rfl)] at h1
theorem jwz (h:SeaAt w sb s) (v:Nat):(s.W.at_ v).size<=maxLen:=by
 unfold Words.at_;rw[List.getD_eq_getElem?_getD]
 cases hg:s.W[v]? with
 | none=>exact Nat.zero_le _
 | some x=>exact h.small x (List.mem_of_getElem? hg)
theorem jkq (h:SeaAt w sb s) {t:GS} (ht:t.w.size<=maxLen):(jau s.W t).size<=maxLen:=by
 unfold jau;split
 . exact ht
 exact jwz h _
end
/-! ### What a match has bound -/
def jdi:List GS->List GT->Words->List Nat
 | s :: ss,t :: ts,W =>
   if t.v || isNo t.n then []
   else if isNo (jau W s) then s.v.toList++jdi ss ts (bindW W s t.n)
   else if jau W s=t.n then jdi ss ts W else []
 | _,_,_=>[]
def jeq (p:GPat) (a:GA) (W:Words):List Nat:=if p.n=a.n/\p.slots.length=a.args.length then jdi p.slots a.args W else []
def jgr (W:Words):List Nat->Words
 | []=>W
 | v :: vs=>(jgr W vs).set v jcr
theorem jhu:∀ (ss:List GS) (ts:List GT) (W:Words),(∀ s∈ss,jb2 W.length s)->jgr (jb9 ss ts W).1 (jdi ss ts W)=W
 | [],ts,W,_=>by simp[jb9,jdi,jgr]
 | s :: ss,[],W,_=>by simp[jb9,jdi,jgr]
 | s :: ss,t :: ts,W,h=>by
   have hs:=h s List.mem_cons_self;simp only[jb9,jdi];split
   . rfl
   split
   . rename_i h1 h2
     cases hv:s.v with
     | none =>
       unfold jb2 at hs;rw[hv] at hs;unfold jau at h2;rw[hv] at h2;simp only at hs h2;rw[hs] at h2;cases h2
     | some v =>
       have hvl:v<W.length:=by unfold jb2 at hs;rw[hv] at hs;exact hs
       have hw:isNo (W.at_ v)=true:=by unfold jau at h2;rw[hv] at h2;exact h2
       have hb:bindW W s t.n=W.set v t.n:=by unfold bindW;rw[hv]
       have ih:=jhu ss ts (W.set v t.n) (fun q hq=>by rw[List.length_set];exact h q (List.mem_cons_of_mem _ hq));show jgr (jb9 ss ts (bindW W s t.n)).1 (v :: jdi ss ts (bindW W s t.n))=W;rw[hb];simp only[jgr];rw[ih,List.set_set];apply List.ext_getElem?
       intro i;rw[List.getElem?_set];by_cases hi:v=i
       . subst hi
         rw[if_pos rfl,if_pos hvl];have:=ju6.1 hw;unfold Words.at_ at this;rw[List.getD_eq_getElem?_getD,List.getElem?_eq_getElem hvl] at this;rw[List.getElem?_eq_getElem hvl,<- this];rfl
       rw[if_neg hi]
   split
   . exact jhu ss ts W (fun q hq=>h q (List.mem_cons_of_mem _ hq))
   rfl
theorem jrq {p:GPat} {a:GA} {W:Words} (h:∀ s∈p.slots,jb2 W.length s):jgr (jak p a W).1 (jeq p a W)=W:=by
 unfold jak jeq;split
 . exact jhu _ _ _ h
 rfl
theorem jjq:∀ (l m:List Nat),l.Nodup->(∀ x∈l,x∈m)->l.length<=m.length
 | [],_,_,_=>Nat.zero_le _
 | x :: l,m,h,hs=>by
   obtain⟨hx,hl⟩:=List.nodup_cons.1 h;have hm:=hs x List.mem_cons_self;have ih:=jjq l (m.erase x) hl (fun y hy=>(List.mem_erase_of_ne (fun (e:y=x)=>hx (by rw[<- e];exact hy))).2 (hs y (List.mem_cons_of_mem _ hy)));rw[List.length_erase_of_mem hm] at ih;have:0<m.length:=List.length_pos_of_mem hm;rw[List.length_cons];omega
def Bok (W:Words) (l:List Nat):Prop:=l.Nodup/\∀ v∈l,v<12/\isNo (W.at_ v)=false
theorem Bok.len {W:Words} {l:List Nat} (h:Bok W l):l.length<=12:=by
 have:=jjq l (List.range 12) h.1 (fun v hv=>List.mem_range.2 (h.2 v hv).1);simpa using this
theorem Bok.snoc {W:Words} {l:List Nat} {v:Nat} {x:ByteArray} (h:Bok W l) (hW:W.length=12) (hv:v<12) (hn:isNo (W.at_ v)=true) (hx:isNo x=false):Bok (W.set v x) (l++[v]):=by
 have hm:v ∉ l:=fun hm=>by rw[(h.2 v hm).2] at hn;cases hn
 refine⟨List.nodup_append.2 ⟨h.1,by simp,fun a ha b hb=>by simp at hb;subst hb;exact fun e=>hm (e▸ha)⟩,fun u hu=>?_⟩;rcases List.mem_append.1 hu with hu|hu
 . refine ⟨(h.2 u hu).1,?_⟩
   rw[jkd,if_neg (fun (e:v=u/\v<W.length)=>hm (e.1▸hu))];exact (h.2 u hu).2
 simp at hu;subst hu;exact⟨hv,by rw[jkd,if_pos ⟨rfl,by omega⟩];exact hx⟩
theorem Bok.room {W:Words} {l:List Nat} {v:Nat} (h:Bok W l) (hW:W.length=12) (hv:v<12) (hn:isNo (W.at_ v)=true):l.length<12:=by
 have:=(h.snoc (x:=⟨#[0]⟩) hW hv hn rfl).len;simp at this;omega
end Go.Proofs.YthiflhkcpanaaaaGreatDoor
namespace Go.Proofs.YthiflhkcpanaaaaGreatDoor
open Go.RowKit
open Go.ChangeMaps (setBlock heap_setBlock_same heap_setBlock_other)
def nilS:Value:=.slice none 0 0
def idR (v:Value):Option (DataW Value × List MemPlace):=some (.held v,[])
theorem wkRow:(315:TypeId)<Tryz.prog.types.size:=of_decide_eq_true (by kernel_rfl)
theorem j2m:(match Tryz.prog.underlying 315 with|some (.array _ _)|some (.struct _)=>true|_=>false)=true:=by kernel_rfl
theorem j2n:laidOutB Tryz.prog=true:=by kernel_rfl
theorem wkLaw:WideMaps.KeyLaw Tryz.prog 315:=deep_law_laid j2n (m:=3) (by omega) wkRow (by kernel_rfl) j2m
theorem jjr:Go.Maps.Keyed Tryz.prog 315:=Go.Maps.Keyed.of_law wkLaw
theorem jy9 (w:World):(zeroValue 149).run Tryz.prog w=.ok nilS w:=by kernel_rfl
def wkey (n:ByteArray) (size:Nat) (at_:Int) (s:ByteArray):Value:=.agg #[.string n,.int .i64 (size:Int),.int .i64 at_,.string s]
theorem j12:Tryz.prog.keyType 315=true:=by kernel_rfl
theorem j02:Tryz.prog.cellsOf 315=4/\Tryz.prog.cellsOf 9=1/\Tryz.prog.cellsOf 3=1:=⟨by kernel_rfl,by kernel_rfl,by kernel_rfl⟩
theorem j03:∃ d,Tryz.prog.types.size+1=d+1+1:=by
 have h:(315:Nat)<Tryz.prog.types.size:=wkRow;exact⟨Tryz.prog.types.size-1,by omega⟩
theorem j2o {P:Program} {k ts ti:TypeId} {f0 f1 f2 f3:Field} (hk:P.underlying k=some (.struct #[f0,f1,f2,f3])) (hs:P.underlying ts=some .string) (hi:P.underlying ti=some (.int .i64))
  (t0:f0.type=ts/\f0.offset=0/\(f0.name != "_")=true) (t1:f1.type=ti/\f1.offset=1/\(f1.name != "_")=true) (t2:f2.type=ti/\f2.offset=2/\(f2.name != "_")=true) (t3:f3.type=ts/\f3.offset=3/\(f3.name != "_")=true)
  (hkt:P.keyType k=true) (c4:P.cellsOf k=4) (c1:P.cellsOf ts=1) (c2:P.cellsOf ti=1) {d:Nat} (hd:P.types.size+1=d+1+1)
  {n s:ByteArray} {a b:Int} (hn:n.size<=maxLen) (hss:s.size<=maxLen) (h1:(Lit.int .i64 a).wf=true) (h2:(Lit.int .i64 b).wf=true):∃ kl,keyOf P k (.agg #[.string n,.int .i64 a,.int .i64 b,.string s])=some kl:=by
 obtain⟨q0,r0,n0⟩:=t0;obtain⟨q1,r1,n1⟩:=t1;obtain⟨q2,r2,n2⟩:=t2;obtain⟨q3,r3,n3⟩:=t3;have hd':P.types.size=d+1:=by omega
 unfold keyOf;simp only[bne_iff_ne,ne_eq] at n0 n1 n2 n3;simp[hk,hkt,Value.formed,c4,hd',Program.keyLits,hs,hi,c1,c2,hn,hss,h1,h2,q0,q1,q2,q3,r0,r1,r2,r3,n0,n1,n2,n3,Value.cells]
theorem jvl {n s:ByteArray} {size:Nat} {at_:Int} (hn:n.size<=maxLen) (hs:s.size<=maxLen) (hz:size<=1000000) (ha1: -1<=at_) (ha2:at_<=1000000):∃ kl,keyOf Tryz.prog 315 (wkey n size at_ s)=some kl:=by
 obtain⟨d,hd⟩:=j03;obtain⟨c1,c2,c3⟩:=j02;exact j2o Tryz.underlying315 Tryz.underlying9 Tryz.underlying3 ⟨rfl,rfl,by decide⟩ ⟨rfl,rfl,by decide⟩ ⟨rfl,rfl,by decide⟩ ⟨rfl,rfl,by decide⟩ j12 c1 c2 c3 hd hn hs (WalkArith.wf_i64 (by omega)) (WalkArith.wf_i64 (by omega))
def MapV (w:World) (B n:Nat) (f:Value->Value):Prop :=
 ∃ D:DataW Value,w.ownsMap Tryz.prog 315 idR B n D/\∀ key kl,keyOf Tryz.prog 315 key=some kl->D.atKey kl (.held nilS)=.held (f key)
section
variable {w w':World} {B n:Nat} {f:Value->Value}
theorem MapV.made (w:World):MapV (w.alloc (.map #[] 0)) w.heap.size 0 (fun _=>nilS):=⟨.map [],World.ownsMap_made _ _ _ _,fun _ _ _=>rfl⟩
theorem MapV.lt (h:MapV w B n f):B<w.heap.size:=by obtain⟨D,h1,_⟩:=h;exact h1.lt
theorem MapV.same (h:MapV w B n f) (hx:w'.heap[B]? = w.heap[B]?):MapV w' B n f:=by
 obtain⟨D,⟨es,clock,hb,r⟩,h2⟩:=h;exact⟨D,⟨es,clock,hx.trans hb,r⟩,h2⟩
theorem MapV.kept {row:Option Nat} (h:MapV w B n f) (hg:w.grownBy w' row) (hne:some B≠row):MapV w' B n f:=h.same (hg.block B h.lt hne)
theorem MapV.ext (h:MapV w B n f) (hx:Ext w w'):MapV w' B n f:=h.same (hx.block B h.lt)
theorem MapV.inside {S:Nat->Prop} (h:MapV w B n f) (hx:jac S w w') (hS:¬ S B):MapV w' B n f:=h.same (hx.block B h.lt hS)
theorem MapV.set (h:MapV w B n f) {p:Addr} (hp:B≠p.block) (u:Value):MapV (w.setCell p u) B n f:=h.same (Below.heap_setCell w p u B hp)
theorem MapV.look (h:MapV w B n f) {key:Value} {kl:Lit} (hkey:keyOf Tryz.prog 315 key=some kl):(Instr.lookup 266 (.map (some B)) key false).run Tryz.prog w=.ok (f key) w:=by
 obtain⟨D,h1,h2⟩:=h;obtain⟨v,ps,hr,hv⟩:=h1.lookup jjr Tryz.underlying266 (jy9 w) (zd:=.held nilS) (zp:=[]) rfl hkey;rw[h2 key kl hkey] at hv;unfold idR at hv;injection hv with hv
 injection hv with hv _
 injection hv with hv
 rw[hr,hv]
theorem MapV.entry (h:MapV w B n f) (hn:n<maxLen) {key:Value} {kl:Lit} (hkey:keyOf Tryz.prog 315 key=some kl) :
  ∃ (st:Nat) (w1:World),(Instr.mapEntry 266 (.map (some B)) key).run Tryz.prog w=.ok (.tuple #[f key,.int .i64 (st:Int)]) w1/\w.grownBy w1 (some B)/\w1.heap.size=w.heap.size /\
    ∀ (w2:World) (val:Value),w2.heap[B]? = w1.heap[B]? ->∃ w3,(Instr.entryStore 266 (.map (some B)) (.int .i64 (st:Int)) val).run Tryz.prog w2=.ok () w3/\(∃ f',f' key=val/\(∀ k,k≠key->f' k=f k)/\MapV w3 B (n+1) f')/\w2.grownBy w3 (some B)/\w3.heap.size=w2.heap.size:=by
 have hl:=h.look hkey;obtain⟨D,h1,h2⟩:=h;obtain⟨es,clock,hb,F,hs,hD⟩:=id h1;obtain⟨v0,st,es1,clock1,hr,hv,hst⟩:=WideElems.entry_then_store (R:=idR) wkLaw Tryz.underlying266 (fun u=>jy9 u) hb F hkey
 have hg:∀ (u:World) (o:Obj) (es0:Array MapEntry) (c0:Nat),u.heap[B]? = some (.map es0 c0)->(u.grownBy (setBlock u B o) (some B)/\(setBlock u B o).heap.size=u.heap.size):=fun u o es0 c0 hu =>
  ⟨⟨rfl,rfl,rfl,by simp[setBlock],fun i _ hi=>heap_setBlock_other hu _ (fun e=>hi (by rw[e]))⟩,by simp[setBlock]⟩
 have hv0:v0=f key:=by
  rcases Maps.fit_look false jjr Tryz.underlying266 (jy9 w) hb F hkey with ⟨k1,k2,_⟩|⟨e0,y,k1,k2,k3,_⟩
  . rw [hl] at k1
    injection k1 with k1 _
    rcases hv with ⟨e1,g1,g2,_⟩|⟨_,g⟩
    . exact absurd g2 (k2 e1 g1)
    rw[g];exact k1.symm
  rw[hl] at k3;injection k3 with k3 _
  rcases hv with ⟨e1,g1,g2,g3⟩|⟨g,_⟩
  . -- one entry alone bears the key
    have he:e1=e0:=by
     apply Classical.byContradiction
     intro he;obtain⟨i,hi⟩:=List.getElem?_of_mem g1;obtain⟨j,hj⟩:=List.getElem?_of_mem k1;have hp:=Maps.fit_apart jjr F;rw[List.pairwise_map] at hp;have hij:i≠j:=fun e=>he (by rw[e,hj] at hi;injection hi with hi;exact hi.symm)
     obtain⟨y1,hy1⟩:=F.reads e1 g1;obtain⟨y0,hy0⟩:=F.reads e0 k1;have hk1:=WideElems.rd_key hy1;have hk0:=WideElems.rd_key hy0;rw[g2,<- k2] at hk1;have hyy:y1.1=y0.1:=by rw[hk1] at hk0;injection hk0
     rcases Nat.lt_or_gt_of_ne hij with h|h
     . have:=List.pairwise_iff_getElem.1 hp i j (List.getElem?_eq_some_iff.1 hi).1 (List.getElem?_eq_some_iff.1 hj).1 h
       rw[(List.getElem?_eq_some_iff.1 hi).2,(List.getElem?_eq_some_iff.1 hj).2,WideElems.rg_of hy1,WideElems.rg_of hy0] at this;exact this hyy
     have:=List.pairwise_iff_getElem.1 hp j i (List.getElem?_eq_some_iff.1 hj).1 (List.getElem?_eq_some_iff.1 hi).1 h;rw[(List.getElem?_eq_some_iff.1 hi).2,(List.getElem?_eq_some_iff.1 hj).2,WideElems.rg_of hy1,WideElems.rg_of hy0] at this;exact this hyy.symm
    rw[g3,he];exact k3.symm
  exact absurd k2 (g e0 k1)
 refine⟨st,_,by rw[hr,hv0];rfl,(hg w _ _ _ hb).1,(hg w _ _ _ hb).2,fun w2 val hw2=>?_⟩;rw[heap_setBlock_same hb] at hw2;obtain⟨es',clock',r1,r2⟩:=hst w2 val hw2;obtain⟨w4,r3,r4,r5⟩:=h1.update jjr Tryz.underlying266 hn (val:=val) (d:=.held val) (ps:=[]) hkey rfl;rw[r2] at r3;injection r3 with _ r3
 subst r3
 classical
 refine⟨_,r1,⟨fun k=>if k=key then val else f k,if_pos rfl,fun k hk=>if_neg hk,D.put kl (.held val),?_,fun k l hk=>?_⟩,(hg w2 _ _ _ hw2).1,(hg w2 _ _ _ hw2).2⟩
 . obtain ⟨es3,clock3,q1,q2,q3,q4⟩:=r4
   rw[heap_setBlock_same hb] at q1;injection q1 with q1
   injection q1 with q1 q5
   subst q1;subst q5;exact⟨_,_,heap_setBlock_same hw2 _,q2,q3,q4⟩
 by_cases e:k=key
 . subst e
   rw[hk] at hkey;injection hkey with hkey
   subst hkey;rw[Maps.atKey_put_same h1.isMap (jjr.key hk)];show _=DataW.held (if k=k then val else f k);rw[if_pos rfl]
 have hne:l≠kl:=fun e2=>e (jjr.inj hk (by rw[e2];exact hkey))
 rw[Maps.atKey_put_other hne];show _=DataW.held (if k=key then val else f k);rw[if_neg e];exact h2 k l hk
end
theorem MapN.look_ok {w:World} {B n:Nat} {f:ByteArray->Option Nat} (h:MapN w B n f) {s:ByteArray} (hs:s.size<=maxLen):(Instr.lookup 187 (.map (some B)) (.string s) true).run Tryz.prog w=.ok (.tuple #[.int .i64 (((f s).getD 0:Nat):Int),.bool (f s).isSome]) w:=by
 obtain⟨D,h1,h2,h3⟩:=h;obtain⟨v,ps,hr,hv⟩:=h1.look_ok jl3 Tryz.underlying187 (jtj w) (plainElem_int Tryz.underlying3 (by decide)) (Go.WideMaps.keyOf_string_mk Tryz.underlying9 hs);rw[(h3 s).2] at hv;obtain⟨c,rfl,hc,_⟩:=plainElem_int_inv Tryz.underlying3 hv;simp only[Prod.mk.injEq] at hc;have hc1:=hc.1;injection hc1 with hc1
 injection hc1 with _ hc1
 rw[hr,(h3 s).1,hc1]
end Go.Proofs.YthiflhkcpanaaaaGreatDoor
