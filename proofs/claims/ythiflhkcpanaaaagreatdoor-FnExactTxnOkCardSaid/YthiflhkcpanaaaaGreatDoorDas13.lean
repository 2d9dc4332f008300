/- Own texts, joined. -/
import Derived.Test.YthiflhkcpanaaaaGreatDoorDas12
import Derived.Laws.BitsAllLaws
import Derived.Laws.BitsLemmas
set_option linter.unusedSimpArgs false
set_option linter.unusedVariables false
set_option maxHeartbeats 8000000
set_option maxRecDepth 100000
namespace Go.Proofs.YthiflhkcpanaaaaGreatDoor
open Go.RowKit
/-! ### Slices of numbers -/
def NatE (_:World) (cs:List Value) (n:Nat):Prop:=cs=[.int .i64 ((n:Nat):Int)]
def kNat:Kind Nat:=⟨1,fun _=>NatE,by decide,fun h _ _ _=>h,fun h=>by unfold NatE at h;subst h;intro u hu;simp at hu;subst hu;rfl,fun h=>by unfold NatE at h;subst h;rfl⟩
def NatsR (S:Nat->Prop):World->Value->List Nat->Prop:=jaa S 1 NatE
theorem NatsR.impL {S S':Nat->Prop} {w w':World} {v:Value} {xs:List Nat} (h:NatsR S w v xs) (hS:∀ b,S b->b<w.heap.size->S' b) (he:Agree S w w') (hsz:w.heap.size<=w'.heap.size):NatsR S' w' v xs:=ListK.imp (k:=kNat) h hS he hsz
theorem NatsR.ext {S:Nat->Prop} {w w':World} {v:Value} {xs:List Nat} (h:NatsR S w v xs) (he:Ext w w'):NatsR S w' v xs:=h.impL (fun _ h _=>h) (.of_ext he) he.size
theorem NatsR.sub {S S':Nat->Prop} {w:World} {v:Value} {xs:List Nat} (h:NatsR S w v xs) (hS:∀ b,S b->S' b):NatsR S' w v xs:=h.impL (fun b hb _=>hS b hb) (.refl _ _) (Nat.le_refl _)
theorem OwnK.num {N n:Nat} {e:TypeId} {w:World} (hb:N<=w.heap.size):OwnK kNat N e None (w.alloc (.cells #[.int .i64 n] e)) (.slice (some ⟨w.heap.size,0,none⟩) 1 1) [n] :=
 ⟨[.int .i64 n],fun _=>False,⟨rfl,.inr ⟨w.heap.size,1,#[.int .i64 n],rfl,hb,Blk.new w e _,Nat.le_refl _,by unfold maxLen;omega,rfl,rfl⟩⟩,RowsE.one rfl rfl,fun _ h=>h.elim,fun _ _ h=>h⟩
def RputI (r:RL) (a:GA) (n k n0:Nat) (va vb u:Value) (D:Option Addr) (d:Nat) (P0:Nat->Prop) (w1:World) (f:Nat->Bool) (act:Act) (w':World):Prop :=
 ∃ (t18 t19 t20 t21 t22 t23 t24 t25 t26 t27 t28 t29 t30 t31 t32 t33 t34 t35 t36:Value) (L:Lot Nat) (w2:World),act = { tmps:= #[.agg #[va,vb],.agg #[.string a.n,u],.int .i64 n,.pointer (some ⟨n0,0,none⟩),.pointer (some ⟨n0+1,0,none⟩),undef,.pointer (some ⟨n0+1+1,0,none⟩),.int .i64 k,.bool false,.tuple #[.int .i64 k,.bool false],.pointer (some ⟨n0,0,none⟩),va,.agg #[.string a.n,u],.tuple #[.int .i64 k,.bool false],.int .i64 k,.bool false,.bool false,undef,t18,t19,t20,t21,t22,t23,t24,t25,t26,t27,t28,t29,t30,t31,t32,t33,t34,t35,t36],defers:=[] } /\
   (f 19=false->w'=w2)/\(f 19=true->w'=(w2.setCell ⟨n0+1+1,0,none⟩ t21).setCell ⟨n0+1+1,1,none⟩ t35)/\Ext w1 w2/\SepZ kNat w1.heap.size 3 P0 w2 L t21 (putA r.list a) (f 3) /\
   (f 0=true->t18=.pointer (some ⟨n0,0,none⟩)) /\
   (f 1=true->t19=va) /\
   (f 2=true->t20=.agg #[.string a.n,u]) /\
   (f 3=true->∃ A c,t21=.slice A (putA r.list a).length c) /\
   (f 4=true->f 9=false->L 0=some (t22,[])) /\
   (f 5=true->t23=.pointer (some ⟨n0,1,none⟩)) /\
   (f 6=true->t24=.slice D r.round.length d) /\
   (f 7=true->t25=.int .i64 k) /\
   (f 8=true->t26=.slice D k d) /\
   (f 9=true->f 12=false->L 0=some (t27,r.round.take k)) /\
   (f 10=true->t28=.int .i64 n) /\
   (f 11=true->f 12=false->L 1=some (t29,[n])) /\
   (f 12=true->f 17=false->L 0=some (t30,r.round.take k++[n])) /\
   (f 13=true->t31=.pointer (some ⟨n0,1,none⟩)) /\
   (f 14=true->t32=.slice D r.round.length d) /\
   (f 15=true->t33=.int .i64 k) /\
   (f 16=true->t34=.slice (if d=k then D else D.map (·.add k)) (r.round.length-k) (d-k)) /\
   (f 17=true->L 0=some (t35,r.round.take k++[n]++r.round.drop k)) /\
   (f 18=true->t36=.agg #[t21,t35])
theorem jyw (r:RL) (a:GA) (n:Nat) (v rv u:Value) (w:World) {S R T:Nat->Prop} (hv:jab S w v r.list) (hrv:NatsR R w rv r.round) (hu:jad T w u a.args) (hs:a.n.size<=maxLen) (hl:r.list.length<=100000000000) (hrl:r.round.length=r.list.length) :
  Calls Tryz.prog 214 #[.agg #[v,rv],.agg #[.string a.n,u],.int .i64 n] w fun e w' =>
   (∃ v' rv',e=.returned (.agg #[v',rv'])/\jab (fun b=>w.heap.size<=b∨S b∨T b) w' v' (r.put n a).list/\NatsR (fun b=>w.heap.size<=b∨R b) w' rv' (r.put n a).round)/\Ext w w':=by
 obtain⟨A,c,rfl,hc1,hc2⟩:=jaa.form hv;obtain⟨D,d,rfl,hd1,hd2⟩:=jaa.form hrv;obtain⟨B,f0,rfl,hf1,hf2⟩:=jaa.form hu;obtain⟨i0,hi0,hz0,hz1,hz2⟩:∃ i0,Tryz.prog.info? 3=some i0/\i0.zero=some (.int .i64 0)/\i0.size=1/\i0.bytes=8:=⟨_,rfl,rfl,rfl,rfl⟩
 obtain⟨W0,hW0⟩:=nm (((w.alloc (.cells #[.slice A r.list.length c,.slice D r.round.length d] 196)).alloc (.cells #[.string a.n,.slice B a.args.length f0] 69)).alloc (.cells #[.slice none 0 0,.slice none 0 0] 196));have HB0:=zh (show Blk W0 w.heap.size 196 #[.slice A r.list.length c,.slice D r.round.length d] from by rw[hW0];exact ((Blk.new _ _ _).alloc _).alloc _);have HB1:=zh (show Blk W0 (w.heap.size+1) 69 #[.string a.n,.slice B a.args.length f0] from by rw[hW0];exact (Blk.at_new (by simp)).alloc _);have HB2:=zh (show Blk W0 (w.heap.size+1+1) 196 #[.slice none 0 0,.slice none 0 0] from by rw[hW0];exact Blk.at_new (by simp));have HE0:=zh (show Ext w W0 from by rw[hW0];exact (((Ext.refl _).alloc _).alloc _).alloc _);have hz:W0.heap.size=w.heap.size+1+1+1:=by rw[hW0];simp
 have HW0:=zh hW0;have HV:=zh hv;have HR:=zh hrv;have HU:=zh hu;have t0:=HB0.o.cell 0;have t1:=HB0.o.cell 1;have tl:=HB0.o.lt;have s0:=HB1.o.cell 0;have s1:=HB1.o.cell 1;have sl:=HB1.o.lt;have hk:=jgf r.list a;obtain⟨k,hke⟩:=nm (ja8 r.list a);have HAT:=zh (jk9 _ _ r.list a W0 (hv.ext HE0.o) (hu.ext HE0.o));rw[<- hke] at HAT hk;have HK:=zh hke;obtain⟨has,hhe⟩:=nm (hasA r.list a);rw[<- hhe] at HAT;have HH:=zh hhe;have hk0:(0:Int)<=(k:Int):=by omega
 have hk1:(k:Int)<=(d:Int):=by omega
 have hk2:(k:Int)<=(r.round.length:Int):=by omega
 have hk3:k<=r.round.length:=by omega
 have HRL:=zh hrl;clear hv hrv hu hke hhe hrl
 go_in;go_wp2_with fail
 rw[<- HW0.o];clear hW0
 go_wp2_with (first
  | (go_at_call 197;refine HAT.o.mono ?_;rintro e w1 ⟨rfl,hx1⟩
     have HX1:=zh hx1;have HY1:=zh (HE0.o.t hx1);have HC0:=zh (HB0.o.ext hx1);have HC1:=zh (HB1.o.ext hx1);have HC2:=zh (HB2.o.ext hx1);have p0:=HC0.o.cell 0;have p1:=HC0.o.cell 1;have pl:=HC0.o.lt;have y0:=HC1.o.cell 0;have y1:=HC1.o.cell 1;have yl:=HC1.o.lt;have x0:=HC2.o.cell 0;have x1:=HC2.o.cell 1;have xl:=HC2.o.lt;have xf0:=HC2.o.frozen 0;have xf1:=HC2.o.frozen 1;clear hx1 t0 t1 tl s0 s1 sl HAT)
  | fail)
 . -- it is there
   have hh:has=true:=by assumption
   have HP:=zh (show r.put n a=r from by unfold RL.put;rw[<- HH.o,hh];rfl);refine bodyPost_ret (v:=.agg #[.slice A r.list.length c,.slice D r.round.length d]) (by simp[results,Tryz.results214,go_sem,x0,x1,xf0,xf1]) rfl ?_;have hA:∀ (S:Nat->Prop),(¬ S (w.heap.size+1+1))->Agree S w1 ((w1.setCell ⟨w.heap.size+1+1,0,none⟩ (.slice A r.list.length c)).setCell ⟨w.heap.size+1+1,1,none⟩ (.slice D r.round.length d)):=fun S hS=>((Agree.refl _ _).setCell hS _).setCell hS _
   have hsz:=HY1.o.size;rw[HP.o];exact⟨⟨_,_,rfl,jab.sub (S:=fun b=>S b) ((HV.o.ext (Ext.setNew (Ext.setNew HY1.o (show w.heap.size<=w.heap.size+1+1 by omega) _) (show w.heap.size<=w.heap.size+1+1 by omega) _))) (fun b hb=>.inr (.inl hb)),NatsR.sub (HR.o.ext (Ext.setNew (Ext.setNew HY1.o (show w.heap.size<=w.heap.size+1+1 by omega) _) (show w.heap.size<=w.heap.size+1+1 by omega) _)) (fun b hb=>.inr hb)⟩,Ext.setNew (Ext.setNew HY1.o (show w.heap.size<=w.heap.size+1+1 by omega) _) (show w.heap.size<=w.heap.size+1+1 by omega) _⟩
 -- it is put
 have hh:has=false:=by assumption
 have HP:=zh (show r.put n a=⟨putA r.list a,r.round.take k++[n]++r.round.drop k⟩ from by unfold RL.put;rw[<- HH.o,hh,HK.o];rfl);subst hh;have hw1:w.heap.size+1+1+1<=w1.heap.size:=by omega
 have HVL:=zh (show jab (fun b=>S b/\b<w.heap.size) w (.slice A r.list.length c) r.list from ListK.low (k:=kAtom) HV.o);have HUL:=zh (show jad (fun b=>T b/\b<w.heap.size) w (.slice B a.args.length f0) a.args from ListK.low (k:=kTerm) HU.o);have HPU:=zh (fun (W:World) (hW:Ext w1 W)=>jjl (.slice A r.list.length c) (.slice B a.args.length f0) r.list a W (HVL.o.ext (HY1.o.t hW)) (HUL.o.ext (HY1.o.t hW)) hs hl)
 have HE1:=zh (show ∀ W,Ext w1 W->jar kNat None W (.slice D k d) (r.round.take k) from fun W hW=>jar.ext (by
  have h:=jaa.fst (HR.o.ext HY1.o) k (by omega);exact jaa.impL (fun _ _ _ h=>h) (fun _ _ _=>trivial) h (.refl _ _) (Nat.le_refl _)) hW)
 have HE3:=zh (show ∀ W,Ext w1 W->jar kNat None W (.slice (if d=k then D else D.map (·.add k)) (r.round.length-k) (d-k)) (r.round.drop k) from fun W hW=>jar.ext (by
  have h:=jaa.drop (HR.o.ext HY1.o) k (by omega);rw[Nat.mul_one] at h;exact jaa.impL (fun _ _ _ h=>h) (fun _ _ _=>trivial) h (.refl _ _) (Nat.le_refl _)) hW)
 have hlk:(r.round.take k).length=k:=by rw[List.length_take];omega
 have HLK:=zh hlk;have HRL2:=zh (show r.round.length<=100000000000 from by rw[HRL.o];exact hl);have hrl2:=HRL2.o;clear hlk HRL;refine je3 (by decide) (RputI r a n k w.heap.size (.slice A r.list.length c) (.slice D r.round.length d) (.slice B a.args.length f0) D d (fun b=>(S b/\b<w.heap.size)∨(T b/\b<w.heap.size)) w1) ?_ ?_ ?_ ?_
 . intro i o ho
   have hi:i<20:=(Array.getElem?_eq_some_iff.1 ho).1;rcases (by omega:i=0∨i=1∨i=2∨i=3∨i=4∨i=5∨i=6∨i=7∨i=8∨i=9∨i=10∨i=11∨i=12∨i=13∨i=14∨i=15∨i=16∨i=17∨i=18∨i=19) with rfl|rfl|rfl|rfl|rfl|rfl|rfl|rfl|rfl|rfl|rfl|rfl|rfl|rfl|rfl|rfl|rfl|rfl|rfl|rfl<;>(cases ho;decide)
 . intro i o f a1 w' ho hfi hcl haf hI
   obtain⟨t18,t19,t20,t21,t22,t23,t24,t25,t26,t27,t28,t29,t30,t31,t32,t33,t34,t35,t36,L,w2,rfl,hw0,hw1,hxt,hsep,G0,G1,G2,G3,G4,G5,G6,G7,G8,G9,G10,G11,G12,G13,G14,G15,G16,G17,G18⟩:=hI;have hi:i<20:=(Array.getElem?_eq_some_iff.1 ho).1;have F0:=zh G0;have F1:=zh G1;have F2:=zh G2;have F3:=zh G3;have F4:=zh G4;have F5:=zh G5;have F6:=zh G6;have F7:=zh G7;have F8:=zh G8;have F9:=zh G9;have F10:=zh G10;have F11:=zh G11;have F12:=zh G12;have F13:=zh G13;have F14:=zh G14;have F15:=zh G15;have F16:=zh G16;have F17:=zh G17;have F18:=zh G18;clear G0 G1 G2 G3 G4 G5 G6 G7 G8 G9 G10 G11 G12 G13 G14 G15 G16 G17 G18;have e1_0:f 1=true->f 0=true:=fun h=>hcl 1 _ rfl h ⟨0,.data⟩ (Array.mem_of_getElem? (i:=0) rfl) rfl
   have e3_1:f 3=true->f 1=true:=fun h=>hcl 3 _ rfl h ⟨1,.data⟩ (Array.mem_of_getElem? (i:=0) rfl) rfl
   have e3_2:f 3=true->f 2=true:=fun h=>hcl 3 _ rfl h ⟨2,.data⟩ (Array.mem_of_getElem? (i:=1) rfl) rfl
   have e6_5:f 6=true->f 5=true:=fun h=>hcl 6 _ rfl h ⟨5,.data⟩ (Array.mem_of_getElem? (i:=0) rfl) rfl
   have e8_6:f 8=true->f 6=true:=fun h=>hcl 8 _ rfl h ⟨6,.data⟩ (Array.mem_of_getElem? (i:=0) rfl) rfl
   have e8_7:f 8=true->f 7=true:=fun h=>hcl 8 _ rfl h ⟨7,.data⟩ (Array.mem_of_getElem? (i:=1) rfl) rfl
   have e9_4:f 9=true->f 4=true:=fun h=>hcl 9 _ rfl h ⟨4,.data⟩ (Array.mem_of_getElem? (i:=0) rfl) rfl
   have e9_8:f 9=true->f 8=true:=fun h=>hcl 9 _ rfl h ⟨8,.data⟩ (Array.mem_of_getElem? (i:=1) rfl) rfl
   have e9_3:f 9=true->f 3=true:=fun h=>hcl 9 _ rfl h ⟨3,.chain⟩ (Array.mem_of_getElem? (i:=2) rfl) rfl
   have e11_10:f 11=true->f 10=true:=fun h=>hcl 11 _ rfl h ⟨10,.data⟩ (Array.mem_of_getElem? (i:=0) rfl) rfl
   have e12_9:f 12=true->f 9=true:=fun h=>hcl 12 _ rfl h ⟨9,.data⟩ (Array.mem_of_getElem? (i:=0) rfl) rfl
   have e12_11:f 12=true->f 11=true:=fun h=>hcl 12 _ rfl h ⟨11,.data⟩ (Array.mem_of_getElem? (i:=1) rfl) rfl
   have e14_13:f 14=true->f 13=true:=fun h=>hcl 14 _ rfl h ⟨13,.data⟩ (Array.mem_of_getElem? (i:=0) rfl) rfl
   have e16_14:f 16=true->f 14=true:=fun h=>hcl 16 _ rfl h ⟨14,.data⟩ (Array.mem_of_getElem? (i:=0) rfl) rfl
   have e16_15:f 16=true->f 15=true:=fun h=>hcl 16 _ rfl h ⟨15,.data⟩ (Array.mem_of_getElem? (i:=1) rfl) rfl
   have e17_12:f 17=true->f 12=true:=fun h=>hcl 17 _ rfl h ⟨12,.data⟩ (Array.mem_of_getElem? (i:=0) rfl) rfl
   have e17_16:f 17=true->f 16=true:=fun h=>hcl 17 _ rfl h ⟨16,.data⟩ (Array.mem_of_getElem? (i:=1) rfl) rfl
   have e18_3:f 18=true->f 3=true:=fun h=>hcl 18 _ rfl h ⟨3,.data⟩ (Array.mem_of_getElem? (i:=0) rfl) rfl
   have e18_17:f 18=true->f 17=true:=fun h=>hcl 18 _ rfl h ⟨17,.data⟩ (Array.mem_of_getElem? (i:=1) rfl) rfl
   have e19_0:f 19=true->f 0=true:=fun h=>hcl 19 _ rfl h ⟨0,.phase⟩ (Array.mem_of_getElem? (i:=2) rfl) rfl
   have e19_1:f 19=true->f 1=true:=fun h=>hcl 19 _ rfl h ⟨1,.phase⟩ (Array.mem_of_getElem? (i:=3) rfl) rfl
   have e19_2:f 19=true->f 2=true:=fun h=>hcl 19 _ rfl h ⟨2,.phase⟩ (Array.mem_of_getElem? (i:=4) rfl) rfl
   have e19_3:f 19=true->f 3=true:=fun h=>hcl 19 _ rfl h ⟨3,.phase⟩ (Array.mem_of_getElem? (i:=5) rfl) rfl
   have e19_4:f 19=true->f 4=true:=fun h=>hcl 19 _ rfl h ⟨4,.phase⟩ (Array.mem_of_getElem? (i:=6) rfl) rfl
   have e19_5:f 19=true->f 5=true:=fun h=>hcl 19 _ rfl h ⟨5,.phase⟩ (Array.mem_of_getElem? (i:=7) rfl) rfl
   have e19_6:f 19=true->f 6=true:=fun h=>hcl 19 _ rfl h ⟨6,.phase⟩ (Array.mem_of_getElem? (i:=8) rfl) rfl
   have e19_7:f 19=true->f 7=true:=fun h=>hcl 19 _ rfl h ⟨7,.phase⟩ (Array.mem_of_getElem? (i:=9) rfl) rfl
   have e19_8:f 19=true->f 8=true:=fun h=>hcl 19 _ rfl h ⟨8,.phase⟩ (Array.mem_of_getElem? (i:=10) rfl) rfl
   have e19_9:f 19=true->f 9=true:=fun h=>hcl 19 _ rfl h ⟨9,.phase⟩ (Array.mem_of_getElem? (i:=11) rfl) rfl
   have e19_10:f 19=true->f 10=true:=fun h=>hcl 19 _ rfl h ⟨10,.phase⟩ (Array.mem_of_getElem? (i:=12) rfl) rfl
   have e19_11:f 19=true->f 11=true:=fun h=>hcl 19 _ rfl h ⟨11,.phase⟩ (Array.mem_of_getElem? (i:=13) rfl) rfl
   have e19_12:f 19=true->f 12=true:=fun h=>hcl 19 _ rfl h ⟨12,.phase⟩ (Array.mem_of_getElem? (i:=14) rfl) rfl
   have e19_13:f 19=true->f 13=true:=fun h=>hcl 19 _ rfl h ⟨13,.phase⟩ (Array.mem_of_getElem? (i:=15) rfl) rfl
   have e19_14:f 19=true->f 14=true:=fun h=>hcl 19 _ rfl h ⟨14,.phase⟩ (Array.mem_of_getElem? (i:=16) rfl) rfl
   have e19_15:f 19=true->f 15=true:=fun h=>hcl 19 _ rfl h ⟨15,.phase⟩ (Array.mem_of_getElem? (i:=17) rfl) rfl
   have e19_16:f 19=true->f 16=true:=fun h=>hcl 19 _ rfl h ⟨16,.phase⟩ (Array.mem_of_getElem? (i:=18) rfl) rfl
   have e19_17:f 19=true->f 17=true:=fun h=>hcl 19 _ rfl h ⟨17,.phase⟩ (Array.mem_of_getElem? (i:=19) rfl) rfl
   have e19_18:f 19=true->f 18=true:=fun h=>hcl 19 _ rfl h ⟨18,.phase⟩ (Array.mem_of_getElem? (i:=20) rfl) rfl
   have hsz:w1.heap.size<=w2.heap.size:=hxt.size;have hb0:=HC0.o.ext hxt;have hb1:=HC1.o.ext hxt;have hb2:=HC2.o.ext hxt;rcases (by omega:i=0∨i=1∨i=2∨i=3∨i=4∨i=5∨i=6∨i=7∨i=8∨i=9∨i=10∨i=11∨i=12∨i=13∨i=14∨i=15∨i=16∨i=17∨i=18∨i=19) with rfl|rfl|rfl|rfl|rfl|rfl|rfl|rfl|rfl|rfl|rfl|rfl|rfl|rfl|rfl|rfl|rfl|rfl|rfl|rfl
   . -- 0
     cases ho
     have h19:f 19=false:=by cases h:f 19 with|false=>rfl|true=>exact absurd (e19_0 h) (by rw[hfi];decide)
     obtain rfl:w'=w2:=hw0 h19;refine jax rfl rfl ?_;go_simp;exact⟨_,_,_,_,_,_,_,_,_,_,_,_,_,_,_,_,_,_,_,L,w',rfl,fun _=>rfl,fun h=>absurd h (by show ¬ f 19=true;rw[h19];decide),hxt,hsep,(fun _=>rfl),F1.o,F2.o,F3.o,F4.o,F5.o,F6.o,F7.o,F8.o,F9.o,F10.o,F11.o,F12.o,F13.o,F14.o,F15.o,F16.o,F17.o,F18.o⟩
   . -- 1
     cases ho
     have a0:f 0=true:=haf ⟨0,.data⟩ (Array.mem_of_getElem? (i:=0) rfl) rfl
     have h19:f 19=false:=by cases h:f 19 with|false=>rfl|true=>exact absurd (e19_1 h) (by rw[hfi];decide)
     obtain rfl:w'=w2:=hw0 h19;refine jax rfl rfl ?_;obtain rfl:=F0.o a0;have q0:=hb0.cell 0;have q1:=hb0.lt;go_simp;exact⟨_,_,_,_,_,_,_,_,_,_,_,_,_,_,_,_,_,_,_,L,w',rfl,fun _=>rfl,fun h=>absurd h (by show ¬ f 19=true;rw[h19];decide),hxt,hsep,F0.o,(fun _=>rfl),F2.o,F3.o,F4.o,F5.o,F6.o,F7.o,F8.o,F9.o,F10.o,F11.o,F12.o,F13.o,F14.o,F15.o,F16.o,F17.o,F18.o⟩
   . -- 2
     cases ho
     have h19:f 19=false:=by cases h:f 19 with|false=>rfl|true=>exact absurd (e19_2 h) (by rw[hfi];decide)
     obtain rfl:w'=w2:=hw0 h19;refine jax rfl rfl ?_;have q0:=hb1.cell 0;have q2:=hb1.cell 1;have q1:=hb1.lt;go_simp;exact⟨_,_,_,_,_,_,_,_,_,_,_,_,_,_,_,_,_,_,_,L,w',rfl,fun _=>rfl,fun h=>absurd h (by show ¬ f 19=true;rw[h19];decide),hxt,hsep,F0.o,F1.o,(fun _=>rfl),F3.o,F4.o,F5.o,F6.o,F7.o,F8.o,F9.o,F10.o,F11.o,F12.o,F13.o,F14.o,F15.o,F16.o,F17.o,F18.o⟩
   . -- 3
     cases ho
     have a1:f 1=true:=haf ⟨1,.data⟩ (Array.mem_of_getElem? (i:=0) rfl) rfl;have a2:f 2=true:=haf ⟨2,.data⟩ (Array.mem_of_getElem? (i:=1) rfl) rfl
     have h19:f 19=false:=by cases h:f 19 with|false=>rfl|true=>exact absurd (e19_3 h) (by rw[hfi];decide)
     obtain rfl:w'=w2:=hw0 h19;refine jax rfl rfl ?_;obtain rfl:=F1.o a1;obtain rfl:=F2.o a2;go_simp
     go_at_call 148
     refine (HPU.o w' hxt).mono ?_;rintro e w3 ⟨⟨v2,rfl,hv2⟩,hx2⟩;obtain⟨A2,c2,rfl,hc21,hc22⟩:=jaa.form hv2
     have hs3:SepZ kNat w1.heap.size 3 (fun b=>(S b/\b<w.heap.size)∨(T b/\b<w.heap.size)) w3 L (.slice A2 (putA r.list a).length c2) (putA r.list a) true:=by
      have h3:f 3=false:=hfi;rw[h3] at hsep;exact hsep.call hx2 hsz hv2 (fun b hb=>by rcases hb with ⟨_,hb⟩|⟨_,hb⟩<;>omega)
     exact⟨_,_,_,_,_,_,_,_,_,_,_,_,_,_,_,_,_,_,_,L,w3,rfl,fun _=>rfl,fun h=>absurd h (by show ¬ f 19=true;rw[h19];decide),hxt.t hx2,hs3,F0.o,F1.o,F2.o,(fun _=>⟨_,_,rfl⟩),F4.o,F5.o,F6.o,F7.o,F8.o,F9.o,F10.o,F11.o,F12.o,F13.o,F14.o,F15.o,F16.o,F17.o,(fun h=>absurd (e18_3 h) (by rw[hfi];decide))⟩
   . -- 4
     cases ho
     have h19:f 19=false:=by cases h:f 19 with|false=>rfl|true=>exact absurd (e19_4 h) (by rw[hfi];decide)
     obtain rfl:w'=w2:=hw0 h19;refine jax rfl rfl ?_;go_simp;exact⟨_,_,_,_,_,_,_,_,_,_,_,_,_,_,_,_,_,_,_,L.upd 0 ((.slice (some ⟨w'.heap.size,0,none⟩) 0 0),[]),w'.alloc (.cells #[] 3),rfl,fun _=>rfl,fun h=>absurd h (by show ¬ f 19=true;rw[h19];decide),hxt.alloc _,hsep.put ((Ext.refl _).alloc _) 0 (OwnK.empty rfl hsz) (fun g h=>by cases h;exact Nat.le_refl _),F0.o,F1.o,F2.o,F3.o,(fun _ _=>rfl),F5.o,F6.o,F7.o,F8.o,(fun h=>absurd (e9_4 h) (by rw[hfi];decide)),F10.o,F11.o,(fun h=>absurd (e9_4 (e12_9 h)) (by rw[hfi];decide)),F13.o,F14.o,F15.o,F16.o,(fun h=>absurd (e9_4 (e12_9 (e17_12 h))) (by rw[hfi];decide)),F18.o⟩
   . -- 5
     cases ho
     have h19:f 19=false:=by cases h:f 19 with|false=>rfl|true=>exact absurd (e19_5 h) (by rw[hfi];decide)
     obtain rfl:w'=w2:=hw0 h19;refine jax rfl rfl ?_;go_simp;exact⟨_,_,_,_,_,_,_,_,_,_,_,_,_,_,_,_,_,_,_,L,w',rfl,fun _=>rfl,fun h=>absurd h (by show ¬ f 19=true;rw[h19];decide),hxt,hsep,F0.o,F1.o,F2.o,F3.o,F4.o,(fun _=>rfl),F6.o,F7.o,F8.o,F9.o,F10.o,F11.o,F12.o,F13.o,F14.o,F15.o,F16.o,F17.o,F18.o⟩
   . -- 6
     cases ho
     have a5:f 5=true:=haf ⟨5,.data⟩ (Array.mem_of_getElem? (i:=0) rfl) rfl
     have h19:f 19=false:=by cases h:f 19 with|false=>rfl|true=>exact absurd (e19_6 h) (by rw[hfi];decide)
     obtain rfl:w'=w2:=hw0 h19;refine jax rfl rfl ?_;obtain rfl:=F5.o a5;have q0:=hb0.cell 1;have q1:=hb0.lt;go_simp;exact⟨_,_,_,_,_,_,_,_,_,_,_,_,_,_,_,_,_,_,_,L,w',rfl,fun _=>rfl,fun h=>absurd h (by show ¬ f 19=true;rw[h19];decide),hxt,hsep,F0.o,F1.o,F2.o,F3.o,F4.o,F5.o,(fun _=>rfl),F7.o,F8.o,F9.o,F10.o,F11.o,F12.o,F13.o,F14.o,F15.o,F16.o,F17.o,F18.o⟩
   . -- 7
     cases ho
     have h19:f 19=false:=by cases h:f 19 with|false=>rfl|true=>exact absurd (e19_7 h) (by rw[hfi];decide)
     obtain rfl:w'=w2:=hw0 h19;refine jax rfl rfl ?_;go_simp;exact⟨_,_,_,_,_,_,_,_,_,_,_,_,_,_,_,_,_,_,_,L,w',rfl,fun _=>rfl,fun h=>absurd h (by show ¬ f 19=true;rw[h19];decide),hxt,hsep,F0.o,F1.o,F2.o,F3.o,F4.o,F5.o,F6.o,(fun _=>rfl),F8.o,F9.o,F10.o,F11.o,F12.o,F13.o,F14.o,F15.o,F16.o,F17.o,F18.o⟩
   . -- 8
     cases ho
     have a6:f 6=true:=haf ⟨6,.data⟩ (Array.mem_of_getElem? (i:=0) rfl) rfl;have a7:f 7=true:=haf ⟨7,.data⟩ (Array.mem_of_getElem? (i:=1) rfl) rfl
     have h19:f 19=false:=by cases h:f 19 with|false=>rfl|true=>exact absurd (e19_8 h) (by rw[hfi];decide)
     obtain rfl:w'=w2:=hw0 h19;refine jax rfl rfl ?_;obtain rfl:=F6.o a6;obtain rfl:=F7.o a7;go_simp;exact⟨_,_,_,_,_,_,_,_,_,_,_,_,_,_,_,_,_,_,_,L,w',rfl,fun _=>rfl,fun h=>absurd h (by show ¬ f 19=true;rw[h19];decide),hxt,hsep,F0.o,F1.o,F2.o,F3.o,F4.o,F5.o,F6.o,F7.o,(fun _=>rfl),F9.o,F10.o,F11.o,F12.o,F13.o,F14.o,F15.o,F16.o,F17.o,F18.o⟩
   . -- 9
     cases ho
     have a4:f 4=true:=haf ⟨4,.data⟩ (Array.mem_of_getElem? (i:=0) rfl) rfl;have a8:f 8=true:=haf ⟨8,.data⟩ (Array.mem_of_getElem? (i:=1) rfl) rfl;have a3:f 3=true:=haf ⟨3,.chain⟩ (Array.mem_of_getElem? (i:=2) rfl) rfl
     have h19:f 19=false:=by cases h:f 19 with|false=>rfl|true=>exact absurd (e19_9 h) (by rw[hfi];decide)
     obtain rfl:w'=w2:=hw0 h19;refine jax rfl rfl ?_;obtain rfl:=F8.o a8;have hl:=F4.o a4 hfi;refine jfm w' (k:=kNat) (S:=None) (T:=None) (base:=w1.heap.size) (xs:=[]) (ys:=r.round.take k) (.tmp 22) (.tmp 26) 149 rfl i0 _ 8 rfl hi0 hz0 hz1 hz2 rfl rfl (hsep.1.at_ hl) _ _ _ rfl (HE1.o _ hxt) (fun _ h=>h.elim) (fun _ _ h=>h) (by unfold maxLen;simp;omega) (by simp;omega) hsz ?_;intro v1 w3 ha;exact⟨_,_,_,_,_,_,_,_,_,_,_,_,_,_,_,_,_,_,_,L.upd 0 (v1,r.round.take k),w3,rfl,fun _=>rfl,fun h=>absurd h (by show ¬ f 19=true;rw[h19];decide),ha.toExt hxt (Nat.le_refl _),hsep.app hl ha,F0.o,F1.o,F2.o,F3.o,(fun _ h=>by simp at h),F5.o,F6.o,F7.o,F8.o,(fun _ _=>rfl),F10.o,F11.o,(fun h=>absurd (e12_9 h) (by rw[hfi];decide)),F13.o,F14.o,F15.o,F16.o,(fun h=>absurd (e12_9 (e17_12 h)) (by rw[hfi];decide)),F18.o⟩
   . -- 10
     cases ho
     have h19:f 19=false:=by cases h:f 19 with|false=>rfl|true=>exact absurd (e19_10 h) (by rw[hfi];decide)
     obtain rfl:w'=w2:=hw0 h19;refine jax rfl rfl ?_;go_simp;exact⟨_,_,_,_,_,_,_,_,_,_,_,_,_,_,_,_,_,_,_,L,w',rfl,fun _=>rfl,fun h=>absurd h (by show ¬ f 19=true;rw[h19];decide),hxt,hsep,F0.o,F1.o,F2.o,F3.o,F4.o,F5.o,F6.o,F7.o,F8.o,F9.o,(fun _=>rfl),F11.o,F12.o,F13.o,F14.o,F15.o,F16.o,F17.o,F18.o⟩
   . -- 11
     cases ho
     have a10:f 10=true:=haf ⟨10,.data⟩ (Array.mem_of_getElem? (i:=0) rfl) rfl
     have h19:f 19=false:=by cases h:f 19 with|false=>rfl|true=>exact absurd (e19_11 h) (by rw[hfi];decide)
     obtain rfl:w'=w2:=hw0 h19;refine jax rfl rfl ?_;obtain rfl:=F10.o a10;go_simp;exact⟨_,_,_,_,_,_,_,_,_,_,_,_,_,_,_,_,_,_,_,L.upd 1 ((.slice (some ⟨w'.heap.size,0,none⟩) 1 1),[n]),w'.alloc (.cells #[.int .i64 n] 3),rfl,fun _=>rfl,fun h=>absurd h (by show ¬ f 19=true;rw[h19];decide),hxt.alloc _,hsep.put ((Ext.refl _).alloc _) 1 (OwnK.num hsz) (fun g h=>by cases h;exact Nat.le_refl _),F0.o,F1.o,F2.o,F3.o,F4.o,F5.o,F6.o,F7.o,F8.o,F9.o,F10.o,(fun _ _=>rfl),F12.o,F13.o,F14.o,F15.o,F16.o,F17.o,F18.o⟩
   . -- 12
     cases ho
     have a9:f 9=true:=haf ⟨9,.data⟩ (Array.mem_of_getElem? (i:=0) rfl) rfl;have a11:f 11=true:=haf ⟨11,.data⟩ (Array.mem_of_getElem? (i:=1) rfl) rfl
     have h19:f 19=false:=by cases h:f 19 with|false=>rfl|true=>exact absurd (e19_12 h) (by rw[hfi];decide)
     obtain rfl:w'=w2:=hw0 h19;refine jax rfl rfl ?_;have hl:=F9.o a9 hfi;have hm:=F11.o a11 hfi;obtain⟨E1,ce,rfl,_,_⟩:=(hsep.1.at_ hm).form;refine jfm w' (k:=kNat) (S:=None) (T:=None) (base:=w1.heap.size) (xs:=r.round.take k) (ys:=[n]) (.tmp 27) (.tmp 29) 149 rfl i0 _ 8 rfl hi0 hz0 hz1 hz2 rfl rfl (hsep.1.at_ hl) E1 _ ce rfl ((hsep.1.at_ hm).list (S':=Any) (fun _ _=>trivial) (fun _ _=>trivial)).elems (fun _ h=>h.elim) (fun _ _ h=>h) (by unfold maxLen;simp;omega) (by simp;omega) hsz ?_;intro v1 w3 ha;exact⟨_,_,_,_,_,_,_,_,_,_,_,_,_,_,_,_,_,_,_,L.upd 0 (v1,r.round.take k++[n]),w3,rfl,fun _=>rfl,fun h=>absurd h (by show ¬ f 19=true;rw[h19];decide),ha.toExt hxt (Nat.le_refl _),hsep.app hl ha,F0.o,F1.o,F2.o,F3.o,(fun _ h=>by have h':f 9=false:=h;rw[a9] at h';cases h'),F5.o,F6.o,F7.o,F8.o,(fun _ h=>by simp at h),F10.o,(fun _ h=>by simp at h),(fun _ _=>rfl),F13.o,F14.o,F15.o,F16.o,(fun h=>absurd (e17_12 h) (by rw[hfi];decide)),F18.o⟩
   . -- 13
     cases ho
     have h19:f 19=false:=by cases h:f 19 with|false=>rfl|true=>exact absurd (e19_13 h) (by rw[hfi];decide)
     obtain rfl:w'=w2:=hw0 h19;refine jax rfl rfl ?_;go_simp;exact⟨_,_,_,_,_,_,_,_,_,_,_,_,_,_,_,_,_,_,_,L,w',rfl,fun _=>rfl,fun h=>absurd h (by show ¬ f 19=true;rw[h19];decide),hxt,hsep,F0.o,F1.o,F2.o,F3.o,F4.o,F5.o,F6.o,F7.o,F8.o,F9.o,F10.o,F11.o,F12.o,(fun _=>rfl),F14.o,F15.o,F16.o,F17.o,F18.o⟩
   . -- 14
     cases ho
     have a13:f 13=true:=haf ⟨13,.data⟩ (Array.mem_of_getElem? (i:=0) rfl) rfl
     have h19:f 19=false:=by cases h:f 19 with|false=>rfl|true=>exact absurd (e19_14 h) (by rw[hfi];decide)
     obtain rfl:w'=w2:=hw0 h19;refine jax rfl rfl ?_;obtain rfl:=F13.o a13;have q0:=hb0.cell 1;have q1:=hb0.lt;go_simp;exact⟨_,_,_,_,_,_,_,_,_,_,_,_,_,_,_,_,_,_,_,L,w',rfl,fun _=>rfl,fun h=>absurd h (by show ¬ f 19=true;rw[h19];decide),hxt,hsep,F0.o,F1.o,F2.o,F3.o,F4.o,F5.o,F6.o,F7.o,F8.o,F9.o,F10.o,F11.o,F12.o,F13.o,(fun _=>rfl),F15.o,F16.o,F17.o,F18.o⟩
   . -- 15
     cases ho
     have h19:f 19=false:=by cases h:f 19 with|false=>rfl|true=>exact absurd (e19_15 h) (by rw[hfi];decide)
     obtain rfl:w'=w2:=hw0 h19;refine jax rfl rfl ?_;go_simp;exact⟨_,_,_,_,_,_,_,_,_,_,_,_,_,_,_,_,_,_,_,L,w',rfl,fun _=>rfl,fun h=>absurd h (by show ¬ f 19=true;rw[h19];decide),hxt,hsep,F0.o,F1.o,F2.o,F3.o,F4.o,F5.o,F6.o,F7.o,F8.o,F9.o,F10.o,F11.o,F12.o,F13.o,F14.o,(fun _=>rfl),F16.o,F17.o,F18.o⟩
   . -- 16
     cases ho
     have a14:f 14=true:=haf ⟨14,.data⟩ (Array.mem_of_getElem? (i:=0) rfl) rfl;have a15:f 15=true:=haf ⟨15,.data⟩ (Array.mem_of_getElem? (i:=1) rfl) rfl
     have h19:f 19=false:=by cases h:f 19 with|false=>rfl|true=>exact absurd (e19_16 h) (by rw[hfi];decide)
     obtain rfl:w'=w2:=hw0 h19;refine jax rfl rfl ?_;obtain rfl:=F14.o a14;obtain rfl:=F15.o a15;go_simp;exact⟨_,_,_,_,_,_,_,_,_,_,_,_,_,_,_,_,_,_,_,L,w',rfl,fun _=>rfl,fun h=>absurd h (by show ¬ f 19=true;rw[h19];decide),hxt,hsep,F0.o,F1.o,F2.o,F3.o,F4.o,F5.o,F6.o,F7.o,F8.o,F9.o,F10.o,F11.o,F12.o,F13.o,F14.o,F15.o,(fun _=>rfl),F17.o,F18.o⟩
   . -- 17
     cases ho
     have a12:f 12=true:=haf ⟨12,.data⟩ (Array.mem_of_getElem? (i:=0) rfl) rfl;have a16:f 16=true:=haf ⟨16,.data⟩ (Array.mem_of_getElem? (i:=1) rfl) rfl
     have h19:f 19=false:=by cases h:f 19 with|false=>rfl|true=>exact absurd (e19_17 h) (by rw[hfi];decide)
     obtain rfl:w'=w2:=hw0 h19;refine jax rfl rfl ?_;obtain rfl:=F16.o a16;have hl:=F12.o a12 hfi;refine jfm w' (k:=kNat) (S:=None) (T:=None) (base:=w1.heap.size) (xs:=r.round.take k++[n]) (ys:=r.round.drop k) (.tmp 30) (.tmp 34) 149 rfl i0 _ 8 rfl hi0 hz0 hz1 hz2 rfl rfl (hsep.1.at_ hl) _ _ _ rfl (HE3.o _ hxt) (fun _ h=>h.elim) (fun _ _ h=>h) (by unfold maxLen;simp;omega) (by simp;omega) hsz ?_;intro v1 w3 ha;exact⟨_,_,_,_,_,_,_,_,_,_,_,_,_,_,_,_,_,_,_,L.upd 0 (v1,r.round.take k++[n]++r.round.drop k),w3,rfl,fun _=>rfl,fun h=>absurd h (by show ¬ f 19=true;rw[h19];decide),ha.toExt hxt (Nat.le_refl _),hsep.app hl ha,F0.o,F1.o,F2.o,F3.o,(fun _ h=>by have h':f 9=false:=h;rw[e12_9 (a12)] at h';cases h'),F5.o,F6.o,F7.o,F8.o,(fun _ h=>by have h':f 12=false:=h;rw[a12] at h';cases h'),F10.o,F11.o,(fun _ h=>by simp at h),F13.o,F14.o,F15.o,F16.o,(fun _=>rfl),(fun h=>absurd (e18_17 h) (by rw[hfi];decide))⟩
   . -- 18
     cases ho
     have a3:f 3=true:=haf ⟨3,.data⟩ (Array.mem_of_getElem? (i:=0) rfl) rfl;have a17:f 17=true:=haf ⟨17,.data⟩ (Array.mem_of_getElem? (i:=1) rfl) rfl
     have h19:f 19=false:=by cases h:f 19 with|false=>rfl|true=>exact absurd (e19_18 h) (by rw[hfi];decide)
     obtain rfl:w'=w2:=hw0 h19;refine jax rfl rfl ?_;obtain⟨A1,c1,rfl⟩:=F3.o a3;obtain⟨A2,n2,c2,rfl,_,_⟩:=(hsep.1.at_ (F17.o a17)).form2;go_simp;exact⟨_,_,_,_,_,_,_,_,_,_,_,_,_,_,_,_,_,_,_,L,w',rfl,fun _=>rfl,fun h=>absurd h (by show ¬ f 19=true;rw[h19];decide),hxt,hsep,F0.o,F1.o,F2.o,F3.o,F4.o,F5.o,F6.o,F7.o,F8.o,F9.o,F10.o,F11.o,F12.o,F13.o,F14.o,F15.o,F16.o,F17.o,(fun _=>rfl)⟩
   -- 19
   cases ho
   have a3:f 3=true:=haf ⟨3,.phase⟩ (Array.mem_of_getElem? (i:=5) rfl) rfl;have a17:f 17=true:=haf ⟨17,.phase⟩ (Array.mem_of_getElem? (i:=19) rfl) rfl;have a18:f 18=true:=haf ⟨18,.phase⟩ (Array.mem_of_getElem? (i:=20) rfl) rfl;obtain rfl:w'=w2:=hw0 hfi;refine jax rfl rfl ?_;obtain rfl:=F18.o a18;have o0:=hb2.cell 0;have of0:=hb2.frozen 0;have o1:=hb2.cell 1;have of1:=hb2.frozen 1;have hs0:=hb2.lt;obtain⟨A1,c1,rfl⟩:=F3.o a3;obtain⟨A2,n2,c2,rfl,_,_⟩:=(hsep.1.at_ (F17.o a17)).form2;go_simp;exact⟨_,_,_,_,_,_,_,_,_,_,_,_,_,_,_,_,_,_,_,L,w',rfl,fun h=>by simp at h,fun _=>rfl,hxt,hsep,F0.o,F1.o,F2.o,F3.o,F4.o,F5.o,F6.o,F7.o,F8.o,F9.o,F10.o,F11.o,F12.o,F13.o,F14.o,F15.o,F16.o,F17.o,(fun _=>rfl)⟩
 . intro f a1 w' hall hI
   obtain⟨t18,t19,t20,t21,t22,t23,t24,t25,t26,t27,t28,t29,t30,t31,t32,t33,t34,t35,t36,L,w2,rfl,hw0,hw1,hxt,hsep,F0,F1,F2,F3,F4,F5,F6,F7,F8,F9,F10,F11,F12,F13,F14,F15,F16,F17,F18⟩:=hI;obtain rfl:=hw1 (hall 19 (by decide));have hsz:w1.heap.size<=w2.heap.size:=hxt.size;have hb2:=HC2.o.ext hxt;obtain⟨A1,c1,rfl⟩:=F3 (hall 3 (by decide));obtain⟨A2,n2,c2,rfl,_,_⟩:=(hsep.1.at_ (F17 (hall 17 (by decide)))).form2;have o0:=hb2.cell 0;have o1:=hb2.cell 1;have of0:=hb2.frozen 0;have of1:=hb2.frozen 1;have hs0:=hb2.lt;have h1:=((hsep.1.at_ (F17 (hall 17 (by decide)))).list (S':=From w1.heap.size) (fun _ h=>h.elim) (fun g hg=>hg))
   have hsep3:SepZ kNat w1.heap.size 3 (fun b=>(S b/\b<w.heap.size)∨(T b/\b<w.heap.size)) w2 L (.slice A1 (putA r.list a).length c1) (putA r.list a) true:=by
    rw[hall 3 (by decide)] at hsep;exact hsep
   have h2:=hsep3.facts;clear hall hsep hsep3 F0 F1 F2 F4 F5 F6 F7 F8 F9 F10 F11 F12 F13 F14 F15 F16 F17 F18 hw0;go_wp2;refine bodyPost_ret (v:=.agg #[.slice A1 (putA r.list a).length c1,.slice A2 n2 c2]) (by simp[results,Tryz.results214,go_sem,o0,o1,of0,of1,hs0]) rfl ?_
   have hag:∀ Z:Nat->Prop,¬ Z (w.heap.size+1+1)->Agree Z w2 ((w2.setCell ⟨w.heap.size+1+1,0,none⟩ (.slice A1 (putA r.list a).length c1)).setCell ⟨w.heap.size+1+1,1,none⟩ (.slice A2 n2 c2)):=fun Z hZ =>
    ((Agree.refl _ _).setCell hZ _).setCell hZ _
   rw[HP.o]
   exact ⟨⟨_,_,rfl,jab.imp h2 (fun b hb=>hb.elim (fun h=>.inl (by omega)) (fun h=>.inr (h.elim (fun h=>.inl h.1) (fun h=>.inr h.1)))) (hag _ (fun hb=>by rcases hb with hb|⟨_,hb⟩|⟨_,hb⟩<;>omega)) (by go_size),NatsR.impL h1 (fun b hb _=>.inl (by unfold From at hb;omega)) (hag _ (fun hb=>by unfold From at hb;omega)) (by go_size)⟩,
    Ext.setNew (a:=w) (Ext.setNew (HY1.o.t hxt) (by show w.heap.size<=w.heap.size+1+1;omega) _) (by show w.heap.size<=w.heap.size+1+1;omega) _⟩
 refine⟨undef,undef,undef,undef,undef,undef,undef,undef,undef,undef,undef,undef,undef,undef,undef,undef,undef,undef,undef,fun _=>none,{ w1 with drawn:=w1.drawn+1 },rfl,fun _=>rfl,fun h=>by simp at h,(Ext.refl w1).drew,SepZ.none,(by simp),(by simp),(by simp),(by simp),(by simp),(by simp),(by simp),(by simp),(by simp),(by simp),(by simp),(by simp),(by simp),(by simp),(by simp),(by simp),(by simp),(by simp),(by simp)⟩
theorem jjm (v:Value) (xs:List GA) (w:World) {S:Nat->Prop} (hv:jab S w v xs) (hl:xs.length<=1000000) (ha:∀ x∈xs,x.args.length<=4194304) :
  Calls Tryz.prog 127 #[v] w fun e w'=>(∃ v',e=.returned v'/\jab (From w.heap.size) w' v' xs)/\Ext w w':=by
 obtain⟨A,c,rfl,hc1,hc2⟩:=jaa.form hv;obtain⟨i0,hi0,hz0,hz1,hz2⟩:=info_parts jd4;have HV:=zh hv;clear hv
 go_in;go_wp2;go_loopw [3,4] (fun o i wr=>∃ k:Nat,k<=xs.length/\i=.int .i64 k/\J1 (OwnK kAtom w.heap.size 69 (From w.heap.size) wr o (xs.take k))/\Ext w wr) (fun _ i _=>xs.length-(intOf i).toNat)
 case atStart=>exact⟨0,Nat.zero_le _,rfl,zh (OwnK.empty rfl (Nat.le_refl _)),(Ext.refl _).alloc _⟩
 case round =>
  obtain⟨k,hk,rfl,ho,hx⟩:=hrel;have hk0:(0:Int)<=(k:Int):=by omega
  obtain⟨O,n0,c0,rfl,hn0,ha0,hb0⟩:=ho.o.form2;have HN0:=zh hn0.o;by_cases hlt:k<xs.length
  . have hlt':(k:Int)<(xs.length:Int):=by omega
    obtain⟨b,off,x,vx,rfl,hb,hxk,hxs,hxt,hd0,hd1⟩:=jab.at_ (HV.o.ext hx) hlt;obtain⟨X,cx,rfl,hcx1,hcx2⟩:=jaa.form hxt;have HXN:=zh (show xs.take (k+1)=xs.take k++[x] from by rw[List.take_add_one,hxk];rfl);have HC:=zh (jnw x _ wr hxt (ha x (List.mem_of_getElem? hxk)));have hkl:(xs.take k).length=k:=by rw[List.length_take];omega
    have HKL:=zh hkl;have hwr:=hx.size;clear hxt hxk hn0 hkl
    go_wp2_with (first
     | (go_at_call 188;refine HC.o.mono ?_;rintro e w1 ⟨⟨v1,rfl,hv1⟩,hx1⟩
        obtain⟨Y,cy,rfl,hcy1,hcy2⟩:=jaa.form hv1;have HV1:=zh hv1;have HX1:=zh (hx.t hx1);have HO1:=zh (ho.o.ext hx1);have HLOW:=zh (show ∀ g,(Value.slice O n0 c0).ownBlock=some g->g<wr.heap.size from fun g hg=>(ho.o.at_ g hg).2);have hz1':=(hx.t hx1).size;clear hv1 hx1)
     | (at_builtin;refine jco (k:=kAtom) (S:=From w.heap.size) (T:=From wr.heap.size) (base:=w.heap.size) (xs:=xs.take k) (ys:=[x]) rfl (.tmp 12) (.tmp 18) 24 (by rfl) i0 _ 40 Tryz.underlying24 hi0 hz0 hz1 hz2 (by rfl) (by rfl) (HO1.o.alloc _) _ 1 1 (by rfl) (jar.one (k:=kAtom) (x:=x) (Blk.new w1 69 #[.string x.n,.slice Y x.args.length cy]) ⟨_,rfl,hxs,HV1.o.ext ((Ext.refl _).alloc _)⟩) (fun b hb _=>Nat.le_trans hwr hb) (fun g hg hT=>absurd (HLOW.o g hg) (Nat.not_lt.2 hT)) (by rw[HKL.o];unfold maxLen;omega) (by rw[HKL.o];omega) (by go_size) ?_
        intro v4 w4 hap;have HAP:=zh hap;clear hap))
    go_roundw
    case rel=>exact⟨k+1,by omega,by go_num,(by rw[HXN.o];exact zh HAP.o.own),HAP.o.toExt (HX1.o.alloc _) (Nat.le_refl _)⟩
    case measure=>simp[intOf];omega
  have hlt':¬ (k:Int)<(xs.length:Int):=by omega
  obtain rfl:k=xs.length:=by omega
  rw[List.take_length] at ho;go_wp2;go_ret;exact⟨⟨_,rfl,ho.o.list (S':=From w.heap.size) (fun _ h=>h) (fun _ h=>h)⟩,hx⟩
def fitA (bs:List GA) (a:GA):Bool:=bs.all fun b=> !(decide (b.n=a.n)) || decide (b.args.length=a.args.length)
theorem j2l (rules:List GR) (list:List GA):fitB rules list=list.all (fitA (jaq rules)):=rfl
theorem jpo {α:Type} {p:α->Bool} {l:List α} {k:Nat} {x:α} (h:(l.take k).all p=true) (hk:l[k]? = some x) (hx:p x=true):(l.take (k+1)).all p=true:=by
 rw[List.take_add_one,hk,List.all_append,h];simp[hx]
theorem jyx (rules:List GR) (list:List GA) (v u:Value) (w:World) {S T:Nat->Prop} (hv:jam S w v rules) (hu:jab T w u list) (hl:rules.length<=8) (hb:∀ r∈rules,r.body.length<=4) :
  Calls Tryz.prog 145 #[v,u] w fun e w'=>e=.returned (.bool (fitB rules list))/\Ext w w':=by
 obtain⟨A,c,rfl,hc1,hc2⟩:=jaa.form hv;obtain⟨B,d,rfl,hd1,hd2⟩:=jaa.form hu;have HAT:=zh (jmd _ rules w hv hl hb);have HU:=zh hu;have HFE:=zh (j2l rules list);obtain⟨bs,hbs⟩:=nm (jaq rules);rw[<- hbs] at HAT HFE;clear hv hu hbs
 go_in
 go_wp2_with (first
  | (go_at_call 203;refine HAT.o.mono ?_;rintro e w1 ⟨⟨v1,rfl,hv1⟩,hx1⟩
     obtain⟨D,f,rfl,hf1,hf2⟩:=jaa.form hv1;have HV1:=zh hv1;have HX1:=zh hx1;have HU1:=zh (HU.o.ext hx1);clear hv1 hx1)
  | fail)
 go_loopw [6] (fun i wr=>∃ k:Nat,k<=list.length/\i=.int .i64 k/\J1 ((list.take k).all (fitA bs)=true)/\Ext w1 wr) (fun i _=>list.length-(intOf i).toNat)
 case atStart=>exact⟨0,Nat.zero_le _,rfl,rfl,Ext.refl _⟩
 case round =>
  obtain⟨k,hk,rfl,hall,hx⟩:=hrel;have hk0:(0:Int)<=(k:Int):=by omega
  by_cases hlt:k<list.length
  . have hlt':(k:Int)<(list.length:Int):=by omega
    obtain⟨ba,oa,a,va,rfl,hba,hak,has,hat,ha0,ha1⟩:=jab.at_ HU1.o hlt;obtain⟨G,g,rfl,hg1,hg2⟩:=jaa.form hat;have HAK:=zh hak;have HA0:=zh ha0;have HA1:=zh ha1;clear hak hat ha0 ha1;go_wp2;try simp only[show decide ((k:Int)<(list.length:Int))=true from decide_eq_true hlt']
    go_loopw [7] (fun j wq=>∃ q:Nat,q<=bs.length/\j=.int .i64 q/\J1 ((bs.take q).all (fun b=> !(decide (b.n=a.n)) || decide (b.args.length=a.args.length))=true)/\Ext w1 wq) (fun j _=>bs.length-(intOf j).toNat)
    case atStart=>exact⟨0,Nat.zero_le _,rfl,rfl,hx⟩
    case round =>
     obtain⟨q,hq,rfl,hal2,hxq⟩:=hrel;have hq0:(0:Int)<=(q:Int):=by omega
     by_cases hlq:q<bs.length
     . have hlq':(q:Int)<(bs.length:Int):=by omega
       obtain⟨bb,ob,b,vb,rfl,hbb,hbk,hbn,hbt,hb0,hb1⟩:=jab.at_ HV1.o hlq;obtain⟨H,h,rfl,hh1,hh2⟩:=jaa.form hbt;have r0:=(hxq.cells.1 ba (oa+k*2) hba).trans HA0.o;have r1:=(hxq.cells.1 ba (oa+k*2+1) hba).trans HA1.o;have s0:=(hxq.cells.1 bb (ob+q*2) hbb).trans hb0;have s1:=(hxq.cells.1 bb (ob+q*2+1) hbb).trans hb1;have HBK:=zh hbk;clear hbk hbt hb0 hb1;by_cases hn:b.n=a.n
       . have hn3:(b.n.toList == a.n.toList)=true:=by rw[hn];exact beq_self_eq_true _
         by_cases hl2:b.args.length=a.args.length
         . have HN:=zh (jpo hal2.o HBK.o (by simp[hl2]))
           have hg:((b.args.length:Int) == (a.args.length:Int))=true:=by rw[hl2];exact beq_self_eq_true _
           have hg2':((b.args.length:Int) != (a.args.length:Int))=false:=by rw[hl2];exact bne_self_eq_false' _
           clear hn hl2;go_wp2_with fail
           go_quiet (fail)
           go_wp2;go_roundw
           case rel=>exact⟨q+1,by omega,by go_num,HN,hxq.drewN _⟩
           case measure=>simp[intOf];omega
         have HF:=zh (show fitB rules list=false from by
           rw[HFE.o];refine jbc _ _ k a HAK.o ?_;exact jbc _ _ q b HBK.o (by simp[hn,hl2]))
         have hg:((b.args.length:Int) == (a.args.length:Int))=false:=by rw[beq_eq_false_iff_ne];omega
         have hg2':((b.args.length:Int) != (a.args.length:Int))=true:=by rw[bne,hg];rfl
         clear hn hl2;go_wp2_with fail
         go_quiet (fail)
         go_wp2;go_ret;exact⟨by rw[HF.o];rfl,HX1.o.t (hxq.drewN _)⟩
       have hn3:(b.n.toList == a.n.toList)=false:=jdh hn;have HN:=zh (jpo hal2.o HBK.o (by simp[hn]));clear hn;go_wp2_with fail
       go_quiet (fail)
       go_wp2;go_roundw
       case rel=>exact⟨q+1,by omega,by go_num,HN,hxq.drewN _⟩
       case measure=>simp[intOf];omega
     have hlq':¬ (q:Int)<(bs.length:Int):=by omega
     obtain rfl:q=bs.length:=by omega
     rw[List.take_length] at hal2;have HN:=zh (jpo hall.o HAK.o hal2.o);go_wp2;go_roundw
     case rel=>exact⟨k+1,by omega,by go_num,HN,hxq⟩
     case measure=>simp[intOf];omega
  have hlt':¬ (k:Int)<(list.length:Int):=by omega
  obtain rfl:k=list.length:=by omega
  rw[List.take_length] at hall;go_wp2;go_ret;exact⟨by rw[HFE.o,hall.o];rfl,HX1.o.t hx⟩
theorem joe {l:List GR} (h:jag l=0):l.length<=8/\(∀ r∈l,jba r=true)/\(l.all jca=true)/\jdp l=false:=by
 unfold jag at h;split at h
 . cases h
 rename_i h1;split at h
 . cases h
 rename_i h2;split at h
 . cases h
 split at h
 . cases h
 rename_i h4;split at h
 . cases h
 rename_i h5;refine⟨by omega,fun r hr=>?_,by simpa using h4,by simpa using h5⟩;have:l.all jba=true:=by simpa using h1
 exact List.all_eq_true.1 this r hr
theorem j0y (rules:List GR) (list:List GA) (v u:Value) (w:World) {S T:Nat->Prop} (hv:jam S w v rules) (hu:jab T w u list) :
  Calls Tryz.prog 160 #[v,u] w fun e w'=>e=.returned (.bool (jbm rules list))/\Ext w w':=by
 obtain⟨A,c,rfl,hc1,hc2⟩:=jaa.form hv;obtain⟨B,d,rfl,hd1,hd2⟩:=jaa.form hu;have HPC:=zh (jjk _ rules w hv);have HOK:=zh (fun (W:World) (hW:Ext w W)=>ju5 _ list 40 W (hu.ext hW));obtain⟨q,hq⟩:=nm (jbb list 40);obtain⟨t,ht⟩:=nm (fitB rules list);rw[<- hq] at HOK;by_cases hp:jag rules=0
 . obtain ⟨h8,hro,_,_⟩:=joe hp
   have HFI:=zh (fun (W:World) (hW:Ext w W)=>jyx rules list _ _ W (hv.ext hW) (hu.ext hW) h8 fun r hr=>jim (hro r hr));rw[<- ht] at HFI;have HE:=zh (show jbm rules list=(q && t) from by unfold jbm;rw[hq,ht,decide_eq_true hp,Bool.true_and]);rw[hp] at HPC;clear hv hu hq ht hp hro;cases q
   . go_in
     go_wp2_with (first
      | (go_at_call 211;refine HPC.o.mono ?_;rintro e w1 ⟨rfl,hx1⟩;have HX1:=zh hx1;clear hx1)
      | (go_at_call 196;refine (HOK.o _ HX1.o).mono ?_;rintro e w2 ⟨rfl,hx2⟩;have HX2:=zh (HX1.o.t hx2);clear hx2)
      | fail)
     go_ret;exact⟨by rw[HE.o];rfl,HX2.o⟩
   go_in
   go_wp2_with (first
    | (go_at_call 211;refine HPC.o.mono ?_;rintro e w1 ⟨rfl,hx1⟩;have HX1:=zh hx1;clear hx1)
    | (go_at_call 196;refine (HOK.o _ HX1.o).mono ?_;rintro e w2 ⟨rfl,hx2⟩;have HX2:=zh (HX1.o.t hx2);clear hx2)
    | (go_at_call 145;refine (HFI.o _ HX2.o).mono ?_;rintro e w3 ⟨rfl,hx3⟩;have HX3:=zh (HX2.o.t hx3);clear hx3)
    | fail)
   go_ret;exact⟨by rw[HE.o];rfl,HX3.o⟩
 have HE:=zh (show jbm rules list=false from by unfold jbm;rw[decide_eq_false hp];rfl);have hp1:(((jag rules:Nat):Int) == 0)=false:=by rw[beq_eq_false_iff_ne];omega
 obtain⟨m,hm⟩:=nm (jag rules);rw[<- hm] at HPC hp1;clear hv hu hq ht hp hm
 go_in
 go_wp2_with (first
  | (go_at_call 211;refine HPC.o.mono ?_;rintro e w1 ⟨rfl,hx1⟩;have HX1:=zh hx1;clear hx1)
  | fail)
 go_ret;exact⟨by rw[HE.o];rfl,HX1.o⟩
def RunC:Prop:=∀ (rules:List GR) (list:List GA) (v u:Value) (w:World) (S T:Nat->Prop),jam S w v rules->jab T w u list->jbm rules list=true ->
 Calls Tryz.prog 161 #[v,u] w fun e w'=>(∃ (x:Value) (A:Option Addr) (n c:Nat),e=.returned (.tuple #[.agg #[x,.slice A n c],.bool (runN rules list).2])/\jab (From w.heap.size) w' x (runN rules list).1.list)/\Ext w w'
noncomputable def evalL (rules:List GR) (list:List GA):List GA:=if jbm rules list && (runN rules list).2 then (runN rules list).1.list else []
theorem j0z (HR:RunC) (rules:List GR) (list:List GA) (v u:Value) (w:World) {S T:Nat->Prop} (hv:jam S w v rules) (hu:jab T w u list) :
  Calls Tryz.prog 104 #[v,u] w fun e w' =>
   (∃ v',e=.returned (.tuple #[v',.bool (jbm rules list && (runN rules list).2)])/\jab (From w.heap.size) w' v' (evalL rules list))/\Ext w w':=by
 obtain⟨A,c,rfl,hc1,hc2⟩:=jaa.form hv;obtain⟨B,d,rfl,hd1,hd2⟩:=jaa.form hu;have HOK:=zh (j0y rules list _ _ w hv hu);have HRU:=zh (fun (h:jbm rules list=true) (W:World) (hW:Ext w W)=>HR rules list _ _ W _ _ (hv.ext hW) (hu.ext hW) h);have HE:=zh (show evalL rules list=if jbm rules list && (runN rules list).2 then (runN rules list).1.list else [] from rfl);obtain⟨ok,hok⟩:=nm (jbm rules list);obtain⟨r2,hr2⟩:=nm ((runN rules list).2);obtain⟨xs,hxs⟩:=nm ((runN rules list).1.list);rw[<- hok] at HOK HRU HE;rw[<- hr2] at HRU HE;rw[<- hxs] at HRU HE;rw[<- hok,<- hr2];clear hv hu hok hr2 hxs HR;cases ok
 . go_in
   go_wp2_with (first
    | (go_at_call 160;refine HOK.o.mono ?_;rintro e w1 ⟨rfl,hx1⟩;have HX1:=zh hx1;clear hx1)
    | fail)
   go_ret2;exact⟨⟨_,rfl,by rw[HE.o];exact jaa.nil_ 0 (Nat.zero_le _) _⟩,HX1.o.alloc _⟩
 have HRT:=zh (fun (W:World) (hW:Ext w W)=>HRU.o rfl W hW);cases r2
 . go_in
   go_wp2_with (first
    | (go_at_call 160;refine HOK.o.mono ?_;rintro e w1 ⟨rfl,hx1⟩;have HX1:=zh hx1;clear hx1)
    | (go_at_call 161;refine (HRT.o _ HX1.o).mono ?_;rintro e w2 ⟨⟨x,A2,n2,c2,rfl,hx⟩,hx2⟩
       obtain⟨X,cx,rfl,_,_⟩:=jaa.form hx;have HX2:=zh (HX1.o.t hx2);clear hx2 hx)
    | fail)
   go_ret2;exact⟨⟨_,rfl,by rw[HE.o];exact jaa.nil_ 0 (Nat.zero_le _) _⟩,(HX2.o.alloc _).alloc _⟩
 go_in
 go_wp2_with (first
  | (go_at_call 160;refine HOK.o.mono ?_;rintro e w1 ⟨rfl,hx1⟩;have HX1:=zh hx1;have hw1:=hx1.size;clear hx1)
  | (go_at_call 161;refine (HRT.o _ HX1.o).mono ?_;rintro e w2 ⟨⟨x,A2,n2,c2,rfl,hx⟩,hx2⟩
     obtain⟨X,cx,rfl,_,_⟩:=jaa.form hx;have HV2:=zh hx;have HX2:=zh (HX1.o.t hx2);clear hx2 hx)
  | fail)
 go_ret2;exact⟨⟨_,rfl,by rw[HE.o];exact jab.ext (jab.sub HV2.o (jdd hw1)) ((Ext.refl _).alloc _)⟩,HX2.o.alloc _⟩
def Else (rb:Nat) (w w':World):Prop:=w.grownBy w' (some rb)
end Go.Proofs.YthiflhkcpanaaaaGreatDoor
namespace Go.Proofs.YthiflhkcpanaaaaGreatDoor
open Go.RowKit
section
variable {rb:Nat} {a b c:World}
theorem Else.refl (rb:Nat) (w:World):Else rb w w:=⟨rfl,rfl,rfl,Nat.le_refl _,fun _ _ _=>rfl⟩
theorem Else.of_ext (h:Ext a b):Else rb a b:=⟨h.os,h.tape,h.output,h.size,fun k hk _=>h.block k hk⟩
theorem Else.t (h:Else rb a b) (k:Else rb b c):Else rb a c :=
 ⟨k.os.trans h.os,k.tape.trans h.tape,k.output.trans h.output,Nat.le_trans h.size k.size,fun i hi hne=>(k.block i (Nat.lt_of_lt_of_le hi h.size) hne).trans (h.block i hi hne)⟩
theorem Else.agree (h:Else rb a b):Agree (fun i=>i≠rb) a b:=fun i hi hb=>h.block i hb (fun e=>hi (by injection e))
theorem Else.toExt (h:Ext a b) (k:Else rb b c) (hr:a.heap.size<=rb):Ext a c :=
 ⟨k.os.trans h.os,k.tape.trans h.tape,k.output.trans h.output,Nat.le_trans h.size k.size,fun i hi=>(k.block i (Nat.lt_of_lt_of_le hi h.size) (fun e=>by injection e;omega)).trans (h.block i hi)⟩
end
end Go.Proofs.YthiflhkcpanaaaaGreatDoor
namespace Go.Proofs.YthiflhkcpanaaaaGreatDoor
open Go.RowKit
def words:List ByteArray:=[⟨#[97]⟩,⟨#[98]⟩,⟨#[99]⟩,⟨#[100]⟩,⟨#[97]⟩,⟨#[98]⟩]
theorem j00 {xs:List GA} {a x:GA} (h:x∈putA xs a):x∈xs∨x=a:=by
 unfold putA at h;split at h
 . exact .inl h
 simp only[List.mem_append,List.mem_singleton] at h;rcases h with (h|h)|h
 . exact .inl (List.mem_of_mem_take h)
 . exact .inr h
 exact .inl (List.mem_of_mem_drop h)
theorem Else.from_ {a b:World} {rb N:Nat} (h:Else rb a b) (hr:rb<N):Agree (From N) a b:=fun i hi hlt=>h.agree i (fun e=>by subst e;exact absurd hr (Nat.not_lt.2 hi)) hlt
end Go.Proofs.YthiflhkcpanaaaaGreatDoor
