/- Own texts, joined. -/
import Derived.Test.YthiflhkcpanaaaaGreatDoorDas13
import Derived.Deep.DeepCutAuto
set_option linter.unusedSimpArgs false
set_option linter.unusedVariables false
set_option maxHeartbeats 8000000
set_option maxRecDepth 100000
namespace Go.Proofs.YthiflhkcpanaaaaGreatDoor
open Go.RowKit
def BoxR (N gb:Nat) (w:World) (r:RL):Prop :=
 ∃ v rv,Blk w gb 196 #[v,rv]/\jab (fun b=>N<=b/\b≠gb) w v r.list/\NatsR (fun b=>N<=b/\b≠gb) w rv r.round
theorem BoxR.ext {N gb:Nat} {w w':World} {r:RL} (h:BoxR N gb w r) (he:Ext w w'):BoxR N gb w' r:=by
 obtain⟨v,rv,h1,h2,h3⟩:=h;exact⟨v,rv,h1.ext he,h2.ext he,h3.ext he⟩
theorem BoxR.form {N gb:Nat} {w:World} {r:RL} (h:BoxR N gb w r):∃ A c D d,Blk w gb 196 #[.slice A r.list.length c,.slice D r.round.length d]/\jab (fun b=>N<=b/\b≠gb) w (.slice A r.list.length c) r.list/\NatsR (fun b=>N<=b/\b≠gb) w (.slice D r.round.length d) r.round:=by
 obtain⟨v,rv,h1,h2,h3⟩:=h;obtain⟨A,c,rfl,_,_⟩:=jaa.form h2;obtain⟨D,d,rfl,_,_⟩:=jaa.form h3;exact⟨A,c,D,d,h1,h2,h3⟩
theorem BoxR.store {N gb:Nat} {w:World} {r:RL} {v rv x y:Value} (hb:Blk w gb 196 #[x,y]) (hv:jab (fun b=>N<=b/\b≠gb) w v r.list) (hr:NatsR (fun b=>N<=b/\b≠gb) w rv r.round):BoxR N gb ((w.setCell ⟨gb,0,none⟩ v).setCell ⟨gb,1,none⟩ rv) r:=by
 have hA:Agree (fun b=>N<=b/\b≠gb) w ((w.setCell ⟨gb,0,none⟩ v).setCell ⟨gb,1,none⟩ rv):=((Agree.refl _ _).setCell (fun h=>h.2 rfl) _).setCell (fun h=>h.2 rfl) _;exact⟨v,rv,((hb.set_ 0 v).set_ 1 rv),hv.imp (fun _ h=>h) hA (by go_size),NatsR.impL hr (fun _ h _=>h) hA (by go_size)⟩
theorem Else.store {gb:Nat} {w0 w:World} (h:Else gb w0 w) (v rv:Value) (hg:gb<w0.heap.size):Else gb w0 ((w.setCell ⟨gb,0,none⟩ v).setCell ⟨gb,1,none⟩ rv) :=
 ⟨h.os,h.tape,h.output,by have:=h.size;go_size,fun k hk hne=>by
  have hne2:k≠gb:=fun e=>hne (by rw[e])
  exact (Below.heap_setCell _ _ _ _ hne2).trans ((Below.heap_setCell _ _ _ _ hne2).trans (h.block k hk hne))⟩
theorem Blk.els {rb g:Nat} {t:TypeId} {cs:Array Value} {a b:World} (h:Blk a g t cs) (he:Else rb a b) (hne:g≠rb):Blk b g t cs:=(he.agree g hne h.lt).trans h
theorem jyy {w wr:World} {gb:Nat} {v x y:Value} {l:List GA} (hx:Ext w wr) (ha:jab (fun b=>w.heap.size+1<=b/\b≠gb) wr v l) :
  jab (From w.heap.size) ((wr.setCell ⟨w.heap.size,0,none⟩ x).setCell ⟨w.heap.size,1,none⟩ y) v l/\Ext w ((wr.setCell ⟨w.heap.size,0,none⟩ x).setCell ⟨w.heap.size,1,none⟩ y):=by
 have hA:Agree (fun b=>w.heap.size+1<=b/\b≠gb) wr ((wr.setCell ⟨w.heap.size,0,none⟩ x).setCell ⟨w.heap.size,1,none⟩ y):=((Agree.refl _ _).setCell (fun h=>absurd h.1 (by simp)) _).setCell (fun h=>absurd h.1 (by simp)) _;exact⟨(ha.imp (fun b hb=>hb) hA (by go_size)).sub (fun b hb=>Nat.le_of_succ_le hb.1),Ext.setNew (Ext.setNew hx (Nat.le_refl _) _) (Nat.le_refl _) _⟩
theorem jyz (r:RL) (n:Nat) (l:List GA) (a:GA):r.puts n (l++[a])=(r.puts n l).put n a:=by unfold RL.puts;rw[List.foldl_append];rfl
theorem j01 {S:Nat->Prop} {w:World} {g:Nat} {l:List Nat} (hb:Blk w g 3 (ints l)) (hS:S g) (hl:l.length<=1000000):NatsR S w (.slice (some ⟨g,0,none⟩) l.length l.length) l:=by
 refine⟨_,l.length,rfl,Nat.le_refl _,by unfold maxLen;omega,fun _=>⟨g,0,rfl,hb.lt,hS,fun i x hi=>⟨[.int .i64 ((x:Nat):Int)],rfl,fun j u hu=>?_,rfl⟩⟩⟩;rcases j with _|j
 . simp at hu;subst hu
   rw[hb.cell];unfold ints;simp[hi]
 simp at hu
def RunI (list:List GA) (va ua:Value) (n0:Nat) (w0:World) (f:Nat->Bool) (act:Act) (w':World):Prop :=
 ∃ (t6 t13 t14 t15 t16 t17 t18:Value) (w2:World) (gb gm:Nat) (Z:Nat->Prop),
   act = { tmps:= #[va,ua,undef,undef,.pointer (some ⟨n0,0,none⟩),.bool false,t6,undef,undef,undef,undef,undef,undef,t13,t14,t15,t16,t17,t18,undef,undef,undef,undef,undef,undef,undef,undef,undef,undef,undef,undef,undef,undef,undef,undef,undef,undef,undef,undef,undef,undef,undef,undef,undef,undef,undef,undef,undef,undef,undef,undef,undef,undef,undef,undef,undef,undef,undef,undef,undef,undef,undef,undef,undef],defers:=[] } /\
   (f 7=false->w'=w2)/\(f 7=true->w'=(w2.setCell ⟨gb,0,none⟩ t14).setCell ⟨gb,1,none⟩ t17)/\Ext w0 w2 /\
   (∀ b,Z b->b<w2.heap.size/\w0.heap.size<=b/\(f 6=true->b≠gb)) /\
   (f 0=true->t13=ua) /\
   (f 1=true->∃ C1 c1,t14=.slice C1 list.length c1/\jab Z w2 t14 list) /\
   (f 2=true->t15=ua) /\
   (f 3=true->t16=.int .i64 (list.length:Int)) /\
   (f 4=true->t17=.slice (some ⟨gm,0,none⟩) list.length list.length/\Blk w2 gm 3 (ints (List.replicate list.length 0))/\w0.heap.size<=gm) /\
   (f 5=true->t18=.agg #[t14,t17]) /\
   (f 6=true->t6=.pointer (some ⟨gb,0,none⟩)/\Blk w2 gb 196 #[.slice none 0 0,.slice none 0 0]/\w0.heap.size<=gb)
theorem jy0:RunC:=by
 intro rules list v u w S T hv hu hok;obtain⟨A,c,rfl,hc1,hc2⟩:=jaa.form hv;obtain⟨B,d,rfl,hd1,hd2⟩:=jaa.form hu
 have hpr:jag rules=0/\list.length<=40/\∀ x∈list,x.args.length<=3:=by
  unfold jbm jbb at hok;simp only[Bool.and_eq_true,decide_eq_true_eq,List.all_eq_true] at hok;exact⟨hok.1.1,hok.1.2.2,fun x hx=>(jck (jij (hok.1.2.1.1 x hx))).2.1⟩
 obtain⟨hp0,hll,hla⟩:=hpr;obtain⟨h8,hro,_,_⟩:=joe hp0
 have hrb:∀ r∈rules,r.body.length<=4/\r.head.args.length<=1000/\∀ p∈r.body,p.atom.args.length<=1000:=fun r hr=>by
  have h:=hro r hr;unfold jba at h;simp only[Bool.and_eq_true,List.all_eq_true,decide_eq_true_eq] at h;have h1:=(jck h.2.1).2.1;exact⟨h.2.2,by omega,fun p hp=>by have:=(jck (h.1 p hp)).2.1;omega⟩
 have HV:=zh hv;have HU:=zh hu;have HRB:=zh hrb;have HLA:=zh hla;have hmk:=jlh list.length (by omega);have HCP:=zh (fun (W:World) (hW:Ext w W)=>jjm _ list W (hu.ext hW) (by omega) (fun x hx=>by have:=hla x hx;omega));have HLV:=zh (fun (W:World) (hW:Ext w W)=>jkp _ rules W (hv.ext hW) h8 (fun r hr=>(hrb r hr).1));have hlvl:(jap rules).length=rules.length:=jcp rules _;have HLL:=zh hlvl;obtain⟨w0,hw0⟩:=nm (w.alloc (.cells #[.slice none 0 0,.slice none 0 0] 196));have HN0:=zh (show Blk w0 w.heap.size 196 #[.slice none 0 0,.slice none 0 0] from by rw[hw0];exact Blk.new _ _ _);have HX0:=zh (show Ext w w0 from by rw[hw0];exact (Ext.refl _).alloc _);have hsz0:w0.heap.size=w.heap.size+1:=by rw[hw0];simp
 clear hv hu hrb hla hro hok hlvl hp0
 go_in
 go_upto_region 1 with fail
 rw[<- hw0];clear hw0
 go_cut [6] (fun s6 wx=>∃ gb,s6=.pointer (some ⟨gb,0,none⟩)/\w.heap.size+1<=gb/\J1 (BoxR (w.heap.size+1) gb wx ⟨list,List.replicate list.length 0⟩)/\J1 (Ext w0 wx))
 case first =>
  refine je3 (by decide) (RunI list (.slice A rules.length c) (.slice B list.length d) w.heap.size w0) ?_ ?_ ?_ ?_
  . intro i o ho
    have hi:i<8:=(Array.getElem?_eq_some_iff.1 ho).1;rcases (by omega:i=0∨i=1∨i=2∨i=3∨i=4∨i=5∨i=6∨i=7) with rfl|rfl|rfl|rfl|rfl|rfl|rfl|rfl<;>(cases ho;decide)
  . intro i o f a1 w' ho hfi hcl haf hI
    obtain⟨t6,t13,t14,t15,t16,t17,t18,w2,gb,gm,Z,rfl,hw7,hw8,hxt,hZ,G0,G1,G2,G3,G4,G5,G6⟩:=hI;have hi:i<8:=(Array.getElem?_eq_some_iff.1 ho).1;have e1_0:f 1=true->f 0=true:=fun h=>hcl 1 _ rfl h ⟨0,.data⟩ (Array.mem_of_getElem? (i:=0) rfl) rfl
    have e3_2:f 3=true->f 2=true:=fun h=>hcl 3 _ rfl h ⟨2,.data⟩ (Array.mem_of_getElem? (i:=0) rfl) rfl
    have e4_3:f 4=true->f 3=true:=fun h=>hcl 4 _ rfl h ⟨3,.data⟩ (Array.mem_of_getElem? (i:=0) rfl) rfl
    have e5_1:f 5=true->f 1=true:=fun h=>hcl 5 _ rfl h ⟨1,.data⟩ (Array.mem_of_getElem? (i:=0) rfl) rfl
    have e5_4:f 5=true->f 4=true:=fun h=>hcl 5 _ rfl h ⟨4,.data⟩ (Array.mem_of_getElem? (i:=1) rfl) rfl
    have e7_6:f 7=true->f 6=true:=fun h=>hcl 7 _ rfl h ⟨6,.data⟩ (Array.mem_of_getElem? (i:=0) rfl) rfl
    have e7_5:f 7=true->f 5=true:=fun h=>hcl 7 _ rfl h ⟨5,.data⟩ (Array.mem_of_getElem? (i:=1) rfl) rfl
    have e7_1:f 7=true->f 1=true:=fun h=>hcl 7 _ rfl h ⟨1,.chain⟩ (Array.mem_of_getElem? (i:=2) rfl) rfl
    have e7_0:f 7=true->f 0=true:=fun h=>hcl 7 _ rfl h ⟨0,.phase⟩ (Array.mem_of_getElem? (i:=3) rfl) rfl
    have e7_2:f 7=true->f 2=true:=fun h=>hcl 7 _ rfl h ⟨2,.phase⟩ (Array.mem_of_getElem? (i:=5) rfl) rfl
    have e7_3:f 7=true->f 3=true:=fun h=>hcl 7 _ rfl h ⟨3,.phase⟩ (Array.mem_of_getElem? (i:=6) rfl) rfl
    have e7_4:f 7=true->f 4=true:=fun h=>hcl 7 _ rfl h ⟨4,.phase⟩ (Array.mem_of_getElem? (i:=7) rfl) rfl
    have F0:=zh G0;have F1:=zh G1;have F2:=zh G2;have F3:=zh G3;have F4:=zh G4;have F5:=zh G5;have F6:=zh G6;clear G0 G1 G2 G3 G4 G5 G6;have hsz:w0.heap.size<=w2.heap.size:=hxt.size;rcases (by omega:i=0∨i=1∨i=2∨i=3∨i=4∨i=5∨i=6∨i=7) with rfl|rfl|rfl|rfl|rfl|rfl|rfl|rfl
    . cases ho
      have h7:f 7=false:=by cases h:f 7 with|false=>rfl|true=>exact absurd (e7_0 h) (by rw[hfi];decide)
      obtain rfl:w'=w2:=hw7 h7;refine jax rfl rfl ?_;go_simp;exact⟨_,_,_,_,_,_,_,w',gb,gm,Z,rfl,fun _=>rfl,fun h=>absurd h (by show ¬ f 7=true;rw[h7];decide),hxt,hZ,(fun _=>rfl),F1.o,F2.o,F3.o,F4.o,F5.o,F6.o⟩
    . cases ho
      have a0:f 0=true:=haf ⟨0,.data⟩ (Array.mem_of_getElem? (i:=0) rfl) rfl
      have h7:f 7=false:=by cases h:f 7 with|false=>rfl|true=>exact absurd (e7_1 h) (by rw[hfi];decide)
      obtain rfl:w'=w2:=hw7 h7;refine jax rfl rfl ?_;obtain rfl:=F0.o a0;go_simp
      go_at_call 127
      refine (HCP.o w' (HX0.o.t hxt)).mono ?_;rintro e w3 ⟨⟨v3,rfl,hv3⟩,hx3⟩;obtain⟨C3,c3,rfl,_,_⟩:=jaa.form hv3;exact⟨_,_,_,_,_,_,_,w3,gb,gm,(fun b=>w'.heap.size<=b/\b<w3.heap.size),rfl,fun _=>rfl,fun h=>absurd h (by show ¬ f 7=true;rw[h7];decide),hxt.t hx3,(fun b hb=>⟨hb.2,Nat.le_trans hsz hb.1,fun h6=>by have h:=(F6.o h6).2.1.lt;have h2:=hb.1;omega⟩),(fun _=>rfl),(fun _=>⟨_,_,rfl,ListK.low (k:=kAtom) hv3⟩),F2.o,F3.o,(fun h=>⟨(F4.o h).1,(F4.o h).2.1.ext hx3,(F4.o h).2.2⟩),(fun h=>absurd (e5_1 h) (by rw[hfi];decide)),(fun h=>⟨(F6.o h).1,(F6.o h).2.1.ext hx3,(F6.o h).2.2⟩)⟩
    . cases ho
      have h7:f 7=false:=by cases h:f 7 with|false=>rfl|true=>exact absurd (e7_2 h) (by rw[hfi];decide)
      obtain rfl:w'=w2:=hw7 h7;refine jax rfl rfl ?_;go_simp;exact⟨_,_,_,_,_,_,_,w',gb,gm,Z,rfl,fun _=>rfl,fun h=>absurd h (by show ¬ f 7=true;rw[h7];decide),hxt,hZ,F0.o,F1.o,(fun _=>rfl),F3.o,F4.o,F5.o,F6.o⟩
    . cases ho
      have a2:f 2=true:=haf ⟨2,.data⟩ (Array.mem_of_getElem? (i:=0) rfl) rfl
      have h7:f 7=false:=by cases h:f 7 with|false=>rfl|true=>exact absurd (e7_3 h) (by rw[hfi];decide)
      obtain rfl:w'=w2:=hw7 h7;refine jax rfl rfl ?_;obtain rfl:=F2.o a2;go_simp;exact⟨_,_,_,_,_,_,_,w',gb,gm,Z,rfl,fun _=>rfl,fun h=>absurd h (by show ¬ f 7=true;rw[h7];decide),hxt,hZ,F0.o,F1.o,(fun _=>rfl),(fun _=>rfl),F4.o,F5.o,F6.o⟩
    . cases ho
      have a3:f 3=true:=haf ⟨3,.data⟩ (Array.mem_of_getElem? (i:=0) rfl) rfl
      have h7:f 7=false:=by cases h:f 7 with|false=>rfl|true=>exact absurd (e7_4 h) (by rw[hfi];decide)
      obtain rfl:w'=w2:=hw7 h7;refine jax rfl rfl ?_;obtain rfl:=F3.o a3;go_simp;exact⟨_,_,_,_,_,_,_,w'.alloc (.cells (ints (List.replicate list.length 0)) 3),gb,w'.heap.size,Z,rfl,fun _=>rfl,fun h=>absurd h (by show ¬ f 7=true;rw[h7];decide),hxt.alloc _,(fun b hb=>⟨by have:=(hZ b hb).1;simp;omega,(hZ b hb).2⟩),F0.o,(fun h=>let ⟨C,c,e,ha⟩:=F1.o h;⟨C,c,e,ha.ext ((Ext.refl _).alloc _)⟩),F2.o,(fun _=>rfl),(fun _=>⟨rfl,Blk.new _ _ _,hsz⟩),(fun h=>absurd (e5_4 h) (by rw[hfi];decide)),(fun h=>⟨(F6.o h).1,(F6.o h).2.1.ext ((Ext.refl _).alloc _),(F6.o h).2.2⟩)⟩
    . cases ho
      have a1:f 1=true:=haf ⟨1,.data⟩ (Array.mem_of_getElem? (i:=0) rfl) rfl;have a4:f 4=true:=haf ⟨4,.data⟩ (Array.mem_of_getElem? (i:=1) rfl) rfl
      have h7:f 7=false:=by cases h:f 7 with|false=>rfl|true=>exact absurd (e7_5 h) (by rw[hfi];decide)
      obtain rfl:w'=w2:=hw7 h7;refine jax rfl rfl ?_;obtain⟨C1,c1,rfl,ha⟩:=F1.o a1;obtain⟨rfl,hbm,hgm⟩:=F4.o a4;go_simp;exact⟨_,_,_,_,_,_,_,w',gb,gm,Z,rfl,fun _=>rfl,fun h=>absurd h (by show ¬ f 7=true;rw[h7];decide),hxt,hZ,F0.o,(fun _=>⟨_,_,rfl,ha⟩),F2.o,F3.o,(fun _=>⟨rfl,hbm,hgm⟩),(fun _=>rfl),F6.o⟩
    . cases ho
      have h7:f 7=false:=by cases h:f 7 with|false=>rfl|true=>exact absurd (e7_6 h) (by rw[hfi];decide)
      obtain rfl:w'=w2:=hw7 h7;refine jax rfl rfl ?_;go_simp;exact⟨_,_,_,_,_,_,_,w'.alloc (.cells #[.slice none 0 0,.slice none 0 0] 196),w'.heap.size,gm,Z,rfl,fun _=>rfl,fun h=>absurd h (by show ¬ f 7=true;rw[h7];decide),hxt.alloc _,(fun b hb=>⟨by have:=(hZ b hb).1;simp;omega,(hZ b hb).2.1,fun _=>by have:=(hZ b hb).1;omega⟩),F0.o,(fun h=>let ⟨C,c,e,ha⟩:=F1.o h;⟨C,c,e,ha.ext ((Ext.refl _).alloc _)⟩),F2.o,F3.o,(fun h=>⟨(F4.o h).1,(F4.o h).2.1.ext ((Ext.refl _).alloc _),(F4.o h).2.2⟩),F5.o,(fun _=>⟨rfl,Blk.new _ _ _,hsz⟩)⟩
    cases ho
    have a6:f 6=true:=haf ⟨6,.data⟩ (Array.mem_of_getElem? (i:=0) rfl) rfl;have a5:f 5=true:=haf ⟨5,.data⟩ (Array.mem_of_getElem? (i:=1) rfl) rfl;have a1:f 1=true:=haf ⟨1,.chain⟩ (Array.mem_of_getElem? (i:=2) rfl) rfl;have a0:f 0=true:=haf ⟨0,.phase⟩ (Array.mem_of_getElem? (i:=3) rfl) rfl;have a2:f 2=true:=haf ⟨2,.phase⟩ (Array.mem_of_getElem? (i:=5) rfl) rfl;have a3:f 3=true:=haf ⟨3,.phase⟩ (Array.mem_of_getElem? (i:=6) rfl) rfl;have a4:f 4=true:=haf ⟨4,.phase⟩ (Array.mem_of_getElem? (i:=7) rfl) rfl;obtain rfl:w'=w2:=hw7 hfi;refine jax rfl rfl ?_;obtain⟨C1,c1,rfl,ha⟩:=F1.o a1;obtain⟨rfl,hbm,hgm⟩:=F4.o a4;obtain rfl:=F5.o a5;obtain⟨rfl,hbb,hgb⟩:=F6.o a6;have o0:=hbb.cell 0;have of0:=hbb.frozen 0;have o1:=hbb.cell 1;have of1:=hbb.frozen 1;have hs0:=hbb.lt;go_simp;exact⟨_,_,_,_,_,_,_,w',gb,gm,Z,rfl,fun h=>by simp at h,fun _=>rfl,hxt,(fun b hb=>⟨(hZ b hb).1,(hZ b hb).2.1,fun _=>(hZ b hb).2.2 a6⟩),F0.o,(fun _=>⟨_,_,rfl,ha⟩),F2.o,F3.o,(fun _=>⟨rfl,hbm,hgm⟩),(fun _=>rfl),(fun _=>⟨rfl,hbb,hgb⟩)⟩
  . intro f a1 w' hall hI
    obtain⟨t6,t13,t14,t15,t16,t17,t18,w2,gb,gm,Z,rfl,hw7,hw8,hxt,hZ,F0,F1,F2,F3,F4,F5,F6⟩:=hI;obtain rfl:=hw8 (hall 7 (by decide));obtain⟨C1,c1,rfl,ha⟩:=F1 (hall 1 (by decide));obtain⟨rfl,hbm,hgm⟩:=F4 (hall 4 (by decide));obtain⟨rfl,hbb,hgb⟩:=F6 (hall 6 (by decide));have hZ2:=fun b hb=>(hZ b hb).2.2 (hall 6 (by decide))
    have hZ3:=fun b hb=>(hZ b hb).2.1
    clear hall F0 F1 F2 F3 F4 F5 F6 hw7 hZ
    have hne:gm≠gb:=by
     intro e;subst e;unfold Blk at hbm hbb;rw[hbm] at hbb;simp at hbb
    have HBX:=BoxR.store (N:=w.heap.size+1) (r:=⟨list,List.replicate list.length 0⟩) hbb (ha.sub (fun b hb=>⟨by have:=hZ3 b hb;omega,hZ2 b hb⟩)) (by have h:=j01 (S:=fun b=>w.heap.size+1<=b/\b≠gb) hbm ⟨by omega,hne⟩ (by simp;omega);simpa using h);go_wp2_with fail
    go_meet
    exact⟨gb,rfl,by omega,zh HBX,zh (Ext.setNew (Ext.setNew hxt hgb _) hgb _)⟩
  refine⟨undef,undef,undef,undef,undef,undef,undef,{ w0 with drawn:=w0.drawn+1 },0,0,(fun _=>False),rfl,fun _=>rfl,fun h=>by simp at h,(Ext.refl w0).drew,(fun b hb=>hb.elim),(by simp),(by simp),(by simp),(by simp),(by simp),(by simp),(by simp)⟩
 case rest =>
  clear hmk HCP;obtain⟨gb,rfl,hgb,hbx,hx1⟩:=hcut;have HX1:=zh (HX0.o.t hx1.o)
  go_upto_region 3 with (first
   | (go_at_call 212;refine (HLV.o _ HX1.o).mono ?_;rintro e w2 ⟨⟨gl,rfl,hgl⟩,hx2⟩
      have HGL:=zh hgl;have HB2:=zh (hbx.o.ext hx2);have HX2:=zh (HX1.o.t hx2);have HM2:=zh (HN0.o.ext (hx1.o.t hx2));clear hgl hx2)
   | fail)
  have hne:gl≠gb:=by
   intro e;obtain⟨v,rv,hb,_,_⟩:=HB2.o;have h1:=HGL.o;subst e;unfold Blk at h1 hb;rw[h1] at hb;simp at hb
  have hgw:gb<w2.heap.size:=by
   obtain⟨v,rv,hb,_,_⟩:=HB2.o;exact hb.lt
  clear hbx hx1 HX1 HLV HN0;go_wp2_with fail
  go_loopw [8,9] (fun n l wr=>∃ (q m:Nat) (r:RL),n=.int .i64 m/\l=.int .i64 q/\q<=rules.length+1/\m<=r.list.length/\r.list.length<=300/\J1 (r.round.length=r.list.length)/\J1 (BoxR (w.heap.size+1) gb wr r)/\J1 (runN rules list=runL rules (jap rules) (rules.length+1-q) q r m)/\J1 (Else gb w2 wr)) (fun _ l _=>rules.length+1-(intOf l).toNat)
  case atStart=>exact⟨0,0,⟨list,List.replicate list.length 0⟩,rfl,rfl,by omega,Nat.zero_le _,by show list.length<=300;omega,zh (by simp),HB2,zh rfl,zh (Else.refl _ _)⟩
  case round =>
   obtain⟨q,m,r,rfl,rfl,hq,hm,hr3,hrl,hbo,hrun,hel⟩:=hrel;have hq0:(0:Int)<=(q:Int):=by omega
   have hm0:(0:Int)<=(m:Int):=by omega
   by_cases hlt:q<=rules.length
   . have hlt' : (q:Int)<=(rules.length:Int):=by omega
     have HRS:=zh (show runN rules list=(match jeb rules (jap rules) q (302-r.list.length) r m with|(r2,n2,ok)=>if ok then runL rules (jap rules) (rules.length-q) (q+1) r2 n2 else (r2,false)) from by rw[hrun.o,show rules.length+1-q=(rules.length-q)+1 by omega];rfl);obtain⟨LV,hLV⟩:=nm (jeb rules (jap rules) q (302-r.list.length) r m);rw[<- hLV] at HRS;have HLVE:=zh hLV;clear hLV hrun;go_wp2_with fail
     go_loopw [8] (fun n wm=>∃ (m2:Nat) (r2:RL),n=.int .i64 m2/\m2<=r2.list.length/\r2.list.length<=300/\J1 (r2.round.length=r2.list.length)/\J1 (BoxR (w.heap.size+1) gb wm r2)/\J1 (LV=jeb rules (jap rules) q (302-r2.list.length) r2 m2)/\J1 (Else gb w2 wm)) (fun n _=>301-(intOf n).toNat)
     case atStart=>exact⟨m,r,rfl,hm,hr3,hrl,hbo,HLVE,hel⟩
     case round =>
      clear hbo hel hrl hm hr3 hm0 HLVE;obtain⟨m2,r2,rfl,hm2,hr2,hrl2,hbo2,hlv2,hel2⟩:=hrel;obtain⟨NN,hNN⟩:=nm (m2+1);have hwm:IntKind.i64.wrap ((m2:Int)+1)=(NN:Int):=by rw[IntKind.wrap_i64];omega
      have hwn:IntKind.i64.wrap ((NN:Int)-1)=(m2:Int):=by rw[IntKind.wrap_i64];omega
      have HST:=zh (hlv2.o.trans (jl5 rules (jap rules) q r2 m2 hr2));have HXM:=zh (Else.toExt HX2.o hel2.o (by omega));obtain⟨A3,c3,D3,d3,hb3,ha3,hn3⟩:=hbo2.o.form;have q0:=hb3.cell 0;have q1:=hb3.cell 1;have ql:=hb3.lt;have HON:=zh (jwv rules (jap rules) q r2.list _ (.slice A3 r2.list.length c3) gl wr (HV.o.ext HXM.o) (HGL.o.els hel2.o hne) HLL.o ha3 h8 HRB.o hr2)
      have hol:(onceN rules (jap rules) q r2.list).length<=66000000000:=by
       refine Nat.le_trans (jpn hr2 _ _ fun y hy=>?_) ?_
       . exact (HRB.o _ (List.fst_mem_of_mem_zipIdx hy)).1
       rw[List.length_zipIdx,List.length_nil,Nat.zero_add];exact Nat.le_trans (Nat.mul_le_mul_right _ h8) (by omega)
      rw[<- hNN] at HST;have HNN:=zh hNN;clear hNN;obtain⟨more,hmore⟩:=nm (onceN rules (jap rules) q r2.list);rw[<- hmore] at HON HST hol;have HB3:=zh hbo2.o;clear hmore hb3 ha3 hn3 hlv2
      go_wp2_with (first
       | (go_at_call 213;refine HON.o.mono ?_;rintro e w4 ⟨⟨v4,rfl,hv4⟩,hx4⟩
          obtain⟨E,e4,rfl,he41,he42⟩:=jaa.form hv4;have HV4:=zh hv4;have HX4:=zh hx4;have HB4:=zh (HB3.o.ext hx4);have hw4:=hx4.size;clear hv4 hx4)
       | fail)
      obtain⟨N4,hN4⟩:=nm (wr.heap.size);have hgN:gb<N4:=by rw[hN4];exact ql
      have HV5:=zh (show jab (From N4) w4 (.slice E more.length e4) more from by rw[hN4];exact HV4.o);have HM4:=zh ((HM2.o.els hel2.o (show w.heap.size≠gb by omega)).ext HX4.o);have HEL4:=zh (hel2.o.t (Else.of_ext HX4.o));have hgw4:gb<w4.heap.size:=by omega
      have hx4s:Ext w w4:=HXM.o.t HX4.o;have HX4W:=zh hx4s;clear hx4s hN4 q0 q1 ql HV4;go_loopw [12] (fun i wi=>∃ k:Nat,k<=more.length/\i=.int .i64 k/\J1 (BoxR (w.heap.size+1) gb wi (r2.puts NN (more.take k)))/\J1 (Else gb w4 wi)) (fun i _=>more.length-(intOf i).toNat)
      case atStart=>exact⟨0,Nat.zero_le _,rfl,HB4,zh (Else.refl _ _)⟩
      case round =>
       obtain⟨k,hk,rfl,hbk,helk⟩:=hrel;have hk0:(0:Int)<=(k:Int):=by omega
       obtain⟨A5,c5,D5,d5,hb5,ha5,hn5⟩:=hbk.o.form;have s0:=hb5.cell 0;have s1:=hb5.cell 1;have sl:=hb5.lt;have sf0:=hb5.frozen 0;have sf1:=hb5.frozen 1;by_cases hkl:k<more.length
       . have hkl':(k:Int)<(more.length:Int):=by omega
         obtain⟨b,off,x,v1,rfl,hb,hxk,hxs,ht1,hc0,hc1⟩:=jab.at_ (show jab (From N4) wr (.slice E more.length e4) more from HV5.o.imp (fun _ h=>h) (helk.o.from_ hgN) helk.o.size) hkl;obtain⟨C1,c1,rfl,_,_⟩:=jaa.form ht1;obtain⟨RR,hRR⟩:=nm (r2.puts NN (more.take k));have HQ:=zh (show r2.puts NN (more.take (k+1))=RR.put NN x from by rw[hRR,List.take_add_one,hxk];exact jyz _ _ _ _);have hRL:=RL.puts_len NN (more.take k) r2;have hRN:=RL.puts_round NN (more.take k) r2 hrl2.o;rw[<- hRR] at hRL hRN ha5 hn5 hb5 s0 s1;have hRL2:RR.list.length<=100000000000:=by have:=hRL.2;rw[List.length_take] at this;omega
         have HPC:=zh (jyw RR x NN _ _ _ wr.drew (ha5.ext (Ext.refl _).drew) (hn5.ext (Ext.refl _).drew) (ht1.ext (Ext.refl _).drew) hxs hRL2 hRN);have HB5:=zh (hb5.ext (Ext.refl wr).drew);have HH5:=zh helk.o.size;clear hRR hRL hRN ha5 hn5 hb5 hxk ht1 hbk;rw[<- HQ.o] at HPC;obtain⟨RQ,hRQ⟩:=nm (r2.puts NN (more.take (k+1)));rw[<- hRQ] at HPC;have HRQ:=zh hRQ;clear hRQ;go_wp2_with fail
         go_still_tail 6,(by kernel_rfl)
         change wpList _ _ _ _ _ wr.drew;clear hb hc0 hc1 s0 s1 sl sf0 sf1
         go_wp2_with (first
          | (go_at_call 214;refine HPC.o.mono ?_;rintro e w6 ⟨⟨v6,rv6,rfl,hv6,hrv6⟩,hx6⟩
             obtain⟨A6,c6,rfl,_,_⟩:=jaa.form hv6;obtain⟨D6,d6,rfl,_,_⟩:=jaa.form hrv6
             have HV6:=zh (hv6.sub (fun b hb=>show w.heap.size+1<=b/\b≠gb from by
              rcases hb with h|h|h
              . have h1:=HH5.o;have h2:=HX4W.o.size;have h3:wr.heap.size<=b:=h;omega
              . exact h
              have h3:N4<=b:=h;omega))
             have HN6:=zh (NatsR.sub hrv6 (fun b hb=>show w.heap.size+1<=b/\b≠gb from by
              rcases hb with h|h
              . have h1:=HH5.o;have h2:=HX4W.o.size;have h3:wr.heap.size<=b:=h;omega
              exact h))
             have HB6:=zh (HB5.o.ext hx6);have y0:=HB6.o.cell 0;have y1:=HB6.o.cell 1;have yf0:=HB6.o.frozen 0;have yf1:=HB6.o.frozen 1;have yl:=HB6.o.lt;have HE6:=zh (helk.o.t (Else.of_ext ((Ext.refl wr).drew.t hx6)));clear hv6 hrv6 hx6)
          | fail)
         go_roundw
         case rel=>exact⟨k+1,by omega,by go_num,zh (by rw[<- HRQ.o];exact BoxR.store HB6.o HV6.o HN6.o),zh (HE6.o.store _ _ hgw4)⟩
         case measure=>simp[intOf];omega
       have hkl':¬ (k:Int)<(more.length:Int):=by omega
       obtain rfl:k=more.length:=by omega
       rw[List.take_length] at hbk hb5 ha5 hn5 s0 s1;obtain⟨r3,hr3⟩:=nm (r2.puts NN more);have hPL:=RL.puts_len NN more r2;have hPR:=RL.puts_round NN more r2 hrl2.o;have hst:LV=(if 300<(r2.puts NN more).list.length then (r2.puts NN more,NN,false) else if (r2.puts NN more).list.length=r2.list.length then (r2.puts NN more,m2,true) else jeb rules (jap rules) q (302-(r2.puts NN more).list.length) (r2.puts NN more) NN):=HST.o;rw[<- hr3] at hPL hPR hst hbk hb5 ha5 hn5 s0 s1;have HPR:=zh hPR;have HBK:=zh hbk.o;have HA5:=zh ha5;have HEW:=zh (HEL4.o.t helk.o);have HXW:=zh (Else.toExt HX2.o HEW.o (by omega));clear hr3 hPR hb5 ha5 hn5 hbk HST;by_cases h300:300<r3.list.length
       . rw [if_pos h300] at hst
         have h3i:(300:Int)<(r3.list.length:Int):=by omega
         have HF:=zh (show runN rules list=(r3,false) from by rw[HRS.o,hst];rfl);have HMK:=zh (HM4.o.els helk.o (show w.heap.size≠gb by omega));have y0:=HMK.o.cell 0;have y1:=HMK.o.cell 1;have yf0:=HMK.o.frozen 0;have yf1:=HMK.o.frozen 1;have yl:=HMK.o.lt;clear hst;go_wp2_with fail
         refine bodyPost_ret (v:=.tuple #[.agg #[.slice A5 r3.list.length c5,.slice D5 r3.round.length d5],.bool false]) (by simp[results,Tryz.results161,go_sem,y0,y1,yf0,yf1,yl]) rfl ?_;have hfin:=jyy (x:=.slice A5 r3.list.length c5) (y:=.slice D5 r3.round.length d5) HXW.o HA5.o;exact⟨⟨.slice A5 r3.list.length c5,⟨D5,r3.round.length,d5,by rw[HF.o]⟩,by rw[HF.o];exact hfin.1⟩,hfin.2⟩
       rw[if_neg h300] at hst;have h3i:¬ (300:Int)<(r3.list.length:Int):=by omega
       by_cases heq:r3.list.length=r2.list.length
       . rw [if_pos heq] at hst
         have heqi:(r3.list.length:Int)=(r2.list.length:Int):=by omega
         have heqb:((r3.list.length:Int) == (r2.list.length:Int))=true:=by simp[heq]
         have HF:=zh (show runN rules list=runL rules (jap rules) (rules.length-q) (q+1) r3 m2 from by rw[HRS.o,hst];rfl);have HEQ:=zh heq;clear hst heq;go_wp2_with fail
         go_roundw
         case rel=>exact⟨q+1,m2,r3,rfl,by go_num,by omega,by have:=HEQ.o;omega,by omega,HPR,HBK,zh (by rw[HF.o,show rules.length+1-(q+1)=rules.length-q by omega]),HEW⟩
         case measure=>simp[intOf];omega
       rw[if_neg heq] at hst;have heqi:¬ (r3.list.length:Int)=(r2.list.length:Int):=by omega
       have heqb:((r3.list.length:Int) == (r2.list.length:Int))=false:=by simp;omega
       have HF:=zh hst;clear hst;go_wp2_with fail
       go_roundw
       case rel=>exact⟨NN,r3,rfl,by have:=HNN.o;omega,by omega,HPR,HBK,HF,HEW⟩
       case measure=>have:=HNN.o;simp[intOf];omega
   have hlt':¬ (q:Int)<=(rules.length:Int):=by omega
   obtain rfl:q=rules.length+1:=by omega
   obtain⟨A5,c5,D5,d5,hb5,ha5,hn5⟩:=hbo.o.form;have HF:=zh (show runN rules list=(r,true) from by rw[hrun.o,Nat.sub_self];rfl);have HA5:=zh ha5;have s0:=hb5.cell 0;have s1:=hb5.cell 1;have sl:=hb5.lt;have HXW:=zh (Else.toExt HX2.o hel.o (by omega));have HMK:=zh (HM2.o.els hel.o (show w.heap.size≠gb by omega));have y0:=HMK.o.cell 0;have y1:=HMK.o.cell 1;have yf0:=HMK.o.frozen 0;have yf1:=HMK.o.frozen 1;have yl:=HMK.o.lt;clear hrun hb5 ha5 hn5 hbo;go_wp2_with fail
   refine bodyPost_ret (v:=.tuple #[.agg #[.slice A5 r.list.length c5,.slice D5 r.round.length d5],.bool true]) (by simp[results,Tryz.results161,go_sem,y0,y1,yf0,yf1,yl]) rfl ?_;have hfin:=jyy (x:=.slice A5 r.list.length c5) (y:=.slice D5 r.round.length d5) HXW.o HA5.o;exact⟨⟨.slice A5 r.list.length c5,⟨D5,r.round.length,d5,by rw[HF.o]⟩,by rw[HF.o];exact hfin.1⟩,hfin.2⟩
/-! ### In plain words -/
def doL (list:List GA) (c:GC):List GA:=c.comes.foldl putA (lessA list c.goes)
def backL (list:List GA) (c:GC):List GA × Bool:=if c.comes.all (hasA list) && c.goes.all (fun a=> !hasA list a) then (doL list ⟨c.goes,c.comes⟩,true) else (list,false)
noncomputable def fineB (rules:List GR) (given:List GA):Bool:=jbm rules given && (runN rules given).2
def lite (l:List GA):Prop:=l.length<=40000/\∀ x∈l,wAtom x<=80
theorem jvj:∀ {l:List GA},(∀ x∈l,wAtom x<=80)->(l.map wAtom).sum<=80*l.length
 | [],_=>by simp
 | a :: l,h=>by
   have h1:=jvj (l:=l) (fun x hx=>h x (List.mem_cons_of_mem _ hx));have h2:=h a List.mem_cons_self;rw[List.map_cons,List.sum_cons,List.length_cons];omega
theorem lite.w {l:List GA} (h:lite l):jb7 l<=4194304:=by
 have h1:=jvj h.2;have h2:=h.1;unfold jb7;omega
theorem lite.args {l:List GA} (h:lite l) {x:GA} (hx:x∈l):x.args.length<=80:=Nat.le_trans (ji5 x) (h.2 x hx)
theorem jrn {xs ys:List GA} {x:GA} (h:x∈lessA xs ys):x∈xs:=(List.mem_filter.1 h).1
theorem jro {x:GA}:∀ {l out:List GA},x∈l.foldl putA out->x∈out∨x∈l
 | [],out,h=>.inl h
 | a :: l,out,h=>by
   rcases jro (l:=l) (out:=putA out a) h with h|h
   . rcases j00 h with h|h
     . exact .inl h
     exact .inr (by rw[h];exact List.mem_cons_self)
   exact .inr (List.mem_cons_of_mem _ h)
theorem jjn:∀ (l out:List GA),(l.foldl putA out).length<=out.length+l.length
 | [],out=>by simp
 | a :: l,out=>by
   have h1:=jjn l (putA out a);have h2:=jvh out a;rw[List.foldl_cons,List.length_cons];omega
theorem jy1 {list:List GA} {c:GC} {x:GA} (h:x∈doL list c):x∈list∨x∈c.comes:=(jro h).elim (fun h=>.inl (jrn h)) .inr
theorem jy2 (list:List GA) (c:GC):(doL list c).length<=list.length+c.comes.length:=Nat.le_trans (jjn _ _) (Nat.add_le_add_right (jge _ _) _)
theorem jpp (list:List GA) (g:GC) (v a b:Value) (w:World) {S T U:Nat->Prop} (hv:jab S w v list) (ha:jab T w a g.comes) (hb:jab U w b g.goes) (h1:lite list) (h2:lite g.comes) :
  Calls Tryz.prog 136 #[v,.agg #[a,b]] w fun e w'=>(∃ v',e=.returned v'/\jab (From w.heap.size) w' v' (doL list g))/\Ext w w':=by
 obtain⟨A,c,rfl,hc1,hc2⟩:=jaa.form hv;obtain⟨B,d,rfl,hd1,hd2⟩:=jaa.form ha;obtain⟨D,f,rfl,hf1,hf2⟩:=jaa.form hb;obtain⟨W,hW⟩:=nm (w.alloc (.cells #[.slice B g.comes.length d,.slice D g.goes.length f] 36));have HB:=zh (show Blk W w.heap.size 36 #[.slice B g.comes.length d,.slice D g.goes.length f] from by rw[hW];exact Blk.new _ _ _);have HX:=zh (show Ext w W from by rw[hW];exact (Ext.refl _).alloc _);have HLE:=zh (jwg _ _ list g.goes W (hv.ext HX.o) (hb.ext HX.o) h1.w);have HC:=zh (ha.ext HX.o);have p0:=HB.o.cell 0;have p1:=HB.o.cell 1;have pl:=HB.o.lt;have HH1:=zh h1;have HH2:=zh h2;have hl1:=h1.1;have hl2:=h2.1;have hll:=jge list g.goes;obtain⟨out0,hout⟩:∃ o,o=lessA list g.goes:=⟨_,rfl⟩
 rw[<- hout] at HLE hll;have HD:=zh (show doL list g=g.comes.foldl putA out0 from by rw[hout];rfl);have HO:=zh (show ∀ x∈out0,x.args.length<=80 from fun x hx=>by rw[hout] at hx;exact h1.args (jrn hx));clear hv ha hb h1 h2 hout
 go_in
 go_upto_region 1 with fail
 rw[<- hW];clear hW
 go_wp2_with (first
  | (go_at_call 198;refine HLE.o.mono ?_;rintro e w1 ⟨⟨v1,rfl,hv1,_⟩,hx1⟩
     have HV1:=zh (jab.sub hv1 (fun (_:Nat) _=>(trivial:Any _)));have HX1:=zh hx1;have HC1:=zh (HC.o.ext hx1);have HB1:=zh (HB.o.ext hx1);clear hv1 hx1 p0 p1 pl HB HC HLE)
  | fail)
 go_loopw [5,6] (fun o i wr=>∃ k:Nat,k<=g.comes.length/\i=.int .i64 k/\J1 (jab Any wr o ((g.comes.take k).foldl putA out0))/\Ext w1 wr) (fun _ i _=>g.comes.length-(intOf i).toNat)
 case atStart=>exact⟨0,Nat.zero_le _,rfl,HV1,Ext.refl _⟩
 case round =>
  obtain⟨k,hk,rfl,ho,hx⟩:=hrel;have hk0:(0:Int)<=(k:Int):=by omega
  have hb1:=HB1.o.ext hx;have p0:=hb1.cell 0;have p1:=hb1.cell 1;have pl:=hb1.lt;have hol:=jjn (g.comes.take k) out0;rw[List.length_take] at hol;clear hb1;by_cases hlt:k<g.comes.length
  . have hlt':(k:Int)<(g.comes.length:Int):=by omega
    obtain⟨b,off,x,v2,rfl,hbl,hxk,hxs,hxt,hc0,hc1'⟩:=jab.at_ (HC1.o.ext hx) hlt;obtain⟨X,cx,rfl,_,_⟩:=jaa.form hxt;have HST:=zh (show (g.comes.take (k+1)).foldl putA out0=putA ((g.comes.take k).foldl putA out0) x from jfc _ _ _ _ _ hxk);have HPU:=zh (jjl _ _ _ x wr ho.o hxt hxs (by omega));obtain⟨O,co,rfl,_,_⟩:=jaa.form ho.o;clear hxk hxt
    go_wp2_with (first
     | (go_at_call 148;refine HPU.o.mono ?_;rintro e w3 ⟨⟨v3,rfl,hv3⟩,hx3⟩
        have HV3:=zh (jab.sub hv3 (fun (_:Nat) _=>(trivial:Any _)));have HX3:=zh (hx.t hx3);clear hv3 hx3)
     | fail)
    go_roundw
    case rel=>exact⟨k+1,by omega,by go_num,(by rw[HST.o];exact HV3),HX3.o⟩
    case measure=>simp[intOf];omega
  have hlt':¬ (k:Int)<(g.comes.length:Int):=by omega
  have hke:k=g.comes.length:=by omega
  rw[hke,List.take_length,<- HD.o] at ho
  have HCP:=zh (jjm _ _ wr ho.o (by have:=jy2 list g;omega) (fun x hx=>by
   rcases jy1 hx with h|h
   . have:=HH1.o.args h;omega
   have:=HH2.o.args h;omega))
  obtain⟨O,co,rfl,_,_⟩:=jaa.form ho.o
  go_wp2_with (first
   | (go_at_call 127;refine HCP.o.mono ?_;rintro e w4 ⟨⟨v4,rfl,hv4⟩,hx4⟩
      obtain⟨Z,cz,rfl,_,_⟩:=jaa.form hv4;have HV4:=zh hv4;have HX4:=zh hx4;clear hv4 hx4)
   | fail)
  go_ret;have hxx:=(HX.o.t HX1.o).t hx;exact⟨⟨_,rfl,jab.sub HV4.o (jdd hxx.size)⟩,hxx.t HX4.o⟩
theorem jjo (rules:List GR) (list:List GA) (v u:Value) (w:World) {S T:Nat->Prop} (hv:jam S w v rules) (hu:jab T w u list) :
  Calls Tryz.prog 68 #[v,u] w fun e w'=>e=.returned (.bool (fineB rules list))/\Ext w w':=by
 obtain⟨A,c,rfl,hc1,hc2⟩:=jaa.form hv;obtain⟨B,d,rfl,hd1,hd2⟩:=jaa.form hu;have HE:=zh (j0z jy0 rules list _ _ w hv hu);have HF:=zh (show fineB rules list=(jbm rules list && (runN rules list).2) from rfl);rw[<- HF.o] at HE;obtain⟨fb,hfb⟩:=nm (fineB rules list);rw[<- hfb] at HE;rw[<- hfb];clear hv hu hfb HF
 go_in
 go_wp2_with (first
  | (go_at_call 104;refine HE.o.mono ?_;rintro e w1 ⟨⟨v1,rfl,hv1⟩,hx1⟩
     obtain⟨O,co,rfl,_,_⟩:=jaa.form hv1;have HX1:=zh hx1;clear hv1 hx1)
  | fail)
 go_ret;exact⟨rfl,HX1.o⟩
theorem jg6 {l:List GA} {n:Nat} (h:jbb l n=true) (hn:n<=40000):lite l:=by
 unfold jbb at h;simp only[Bool.and_eq_true,decide_eq_true_eq,List.all_eq_true] at h;refine⟨by omega,fun x hx=>?_⟩;have h1:=jrf [x] (by simp[h.1.1 x hx]);unfold jb7 at h1;simp at h1;omega
theorem jli {l:List GA} {p:GA->Bool} {k:Nat} {x:GA} (h:l[k]? = some x) (hx:p x=false):l.all p=false:=by
 rw[List.all_eq_false];exact⟨x,List.mem_of_getElem? h,by simp[hx]⟩
theorem jlj {l:List GA} {p:GA->Bool} (h:∀ (i:Nat) (x:GA),i<l.length->l[i]? = some x->p x=true):l.all p=true:=by
 rw[List.all_eq_true];intro x hx;obtain⟨i,hi⟩:=List.getElem?_of_mem hx;exact h i x (List.getElem?_eq_some_iff.1 hi).1 hi
theorem jof (list:List GA) (g:GC) (v a b:Value) (w:World) {S T U:Nat->Prop} (hv:jab S w v list) (ha:jab T w a g.comes) (hb:jab U w b g.goes) (h1:lite list) (h2:lite g.goes) :
  Calls Tryz.prog 70 #[v,.agg #[a,b]] w fun e w'=>(∃ v',e=.returned (.tuple #[v',.bool (backL list g).2])/\jab (fun i=>w.heap.size<=i∨S i) w' v' (backL list g).1)/\Ext w w':=by
 obtain⟨A,c,rfl,hc1,hc2⟩:=jaa.form hv;obtain⟨B,d,rfl,hd1,hd2⟩:=jaa.form ha;obtain⟨D,f,rfl,hf1,hf2⟩:=jaa.form hb;obtain⟨W,hW⟩:=nm (w.alloc (.cells #[.slice B g.comes.length d,.slice D g.goes.length f] 36));have HB:=zh (show Blk W w.heap.size 36 #[.slice B g.comes.length d,.slice D g.goes.length f] from by rw[hW];exact Blk.new _ _ _);have HX:=zh (show Ext w W from by rw[hW];exact (Ext.refl _).alloc _);have HV:=zh (hv.ext HX.o);have HCO:=zh (ha.ext HX.o);have HGO:=zh (hb.ext HX.o);have HDO:=zh (fun (W':World) (hW':Ext W W')=>jpp list ⟨g.goes,g.comes⟩ _ _ _ W' (HV.o.ext hW') (HGO.o.ext hW') (HCO.o.ext hW') h1 h2);have HBK:=zh (show backL list g=if g.comes.all (hasA list) && g.goes.all (fun a=> !hasA list a) then (doL list ⟨g.goes,g.comes⟩,true) else (list,false) from rfl);clear hv ha hb
 go_in;go_wp2_with fail
 rw[<- hW];clear hW;go_loopw [6] (fun i wr=>∃ k:Nat,k<=g.comes.length/\i=.int .i64 k/\J1 (∀ (i:Nat) (x:GA),i<k->g.comes[i]? = some x->hasA list x=true)/\Ext W wr) (fun i _=>g.comes.length-(intOf i).toNat)
 case atStart=>exact⟨0,Nat.zero_le _,rfl,zh (fun i x h=>absurd h (Nat.not_lt_zero _)),Ext.refl _⟩
 case round =>
  obtain⟨k,hk,rfl,hp,hx⟩:=hrel;have hk0:(0:Int)<=(k:Int):=by omega
  have hb1:=HB.o.ext hx;have p0:=hb1.cell 0;have p1:=hb1.cell 1;have pl:=hb1.lt;clear hb1;by_cases hlt:k<g.comes.length
  . have hlt':(k:Int)<(g.comes.length:Int):=by omega
    obtain⟨bb,off,x,v2,rfl,hbl,hxk,hxs,hxt,hc0,hc1'⟩:=jab.at_ (HCO.o.ext hx) hlt;obtain⟨X,cx,rfl,_,_⟩:=jaa.form hxt;have HHA:=zh (jd3 _ _ list x wr (HV.o.ext hx) hxt);have HXK:=zh hxk;obtain⟨t,ht⟩:=nm (hasA list x);rw[<- ht] at HHA;have HT:=zh ht;clear hxk hxt ht;cases t
    . have HF:=zh (show backL list g=(list,false) from by rw[HBK.o,jli HXK.o HT.o.symm];rfl)
      go_wp2_with (first
       | (go_at_call 135;refine HHA.o.mono ?_;rintro e w3 ⟨rfl,hx3⟩
          have HX3:=zh (hx.t hx3);clear hx3)
       | fail)
      go_ret2;rw[HF.o];exact⟨⟨_,rfl,jab.sub (HV.o.ext HX3.o) (fun i h=>.inr h)⟩,HX.o.t HX3.o⟩
    go_wp2_with (first
      | (go_at_call 135;refine HHA.o.mono ?_;rintro e w3 ⟨rfl,hx3⟩
         have HX3:=zh (hx.t hx3);clear hx3)
      | fail)
    go_roundw
    case rel =>
     exact ⟨k+1,by omega,by go_num,zh (fun i y hi hy=>by
      rcases Nat.lt_or_ge i k with h|h
      . exact hp.o i y h hy
      have e:i=k:=by omega
      subst e;have h1:=HXK.o;rw[hy] at h1;injection h1 with h1
      subst h1;exact HT.o.symm),HX3.o⟩
    case measure=>simp[intOf];omega
  have hlt':¬ (k:Int)<(g.comes.length:Int):=by omega
  have HAC:=zh (show g.comes.all (hasA list)=true from jlj (fun i x hi hx=>hp.o i x (by omega) hx));clear hp;go_wp2_with fail
  rename World=>w5
  go_loopw [7] (fun i wr=>∃ q:Nat,q<=g.goes.length/\i=.int .i64 q/\J1 (∀ (i:Nat) (x:GA),i<q->g.goes[i]? = some x->hasA list x=false)/\Ext w5 wr) (fun i _=>g.goes.length-(intOf i).toNat)
  case atStart=>exact⟨0,Nat.zero_le _,rfl,zh (fun i x h=>absurd h (Nat.not_lt_zero _)),Ext.refl _⟩
  case round =>
   obtain⟨q,hq,rfl,hp,hxq⟩:=hrel;have hq0:(0:Int)<=(q:Int):=by omega
   have hxx:=hx.t hxq;have hb1:=HB.o.ext hxx;have p0:=hb1.cell 0;have p1:=hb1.cell 1;have pl:=hb1.lt;have HXX:=zh hxx;clear hb1 hxx;by_cases hlq:q<g.goes.length
   . have hlq':(q:Int)<(g.goes.length:Int):=by omega
     obtain⟨bb,off,x,v2,rfl,hbl,hxk,hxs,hxt,hc0,hc1'⟩:=jab.at_ (HGO.o.ext HXX.o) hlq;obtain⟨X,cx,rfl,_,_⟩:=jaa.form hxt;have HHA:=zh (jd3 _ _ list x wr (HV.o.ext HXX.o) hxt);have HXK:=zh hxk;obtain⟨t,ht⟩:=nm (hasA list x);rw[<- ht] at HHA;have HT:=zh ht;clear hxk hxt ht;cases t
     . go_wp2_with (first
         | (go_at_call 135;refine HHA.o.mono ?_;rintro e w3 ⟨rfl,hx3⟩
            have HX3:=zh (hxq.t hx3);clear hx3)
         | fail)
       go_roundw
       case rel =>
        exact ⟨q+1,by omega,by go_num,zh (fun i y hi hy=>by
         rcases Nat.lt_or_ge i q with h|h
         . exact hp.o i y h hy
         have e:i=q:=by omega
         subst e;have h1:=HXK.o;rw[hy] at h1;injection h1 with h1
         subst h1;exact HT.o.symm),HX3.o⟩
       case measure=>simp[intOf];omega
     have HF:=zh (show backL list g=(list,false) from by rw[HBK.o,HAC.o,jli (p:=fun a=> !hasA list a) HXK.o (by rw[<- HT.o];rfl)];rfl)
     go_wp2_with (first
      | (go_at_call 135;refine HHA.o.mono ?_;rintro e w3 ⟨rfl,hx3⟩
         have HX3:=zh (HXX.o.t hx3);clear hx3)
      | fail)
     go_ret2;rw[HF.o];exact⟨⟨_,rfl,jab.sub (HV.o.ext HX3.o) (fun i h=>.inr h)⟩,HX.o.t HX3.o⟩
   have hlq':¬ (q:Int)<(g.goes.length:Int):=by omega
   have HF:=zh (show backL list g=(doL list ⟨g.goes,g.comes⟩,true) from by
    rw[HBK.o,HAC.o,jlj (p:=fun a=> !hasA list a) (fun i x hi hx=>by simp[hp.o i x (by omega) hx])];rfl)
   clear hp
   go_wp2_with (first
    | (go_at_call 136;refine (HDO.o _ HXX.o).mono ?_;rintro e w6 ⟨⟨v6,rfl,hv6⟩,hx6⟩
       obtain⟨Z,cz,rfl,_,_⟩:=jaa.form hv6;have HV6:=zh hv6;have HX6:=zh (HXX.o.t hx6);clear hv6 hx6)
    | fail)
   go_ret2;rw[HF.o];exact⟨⟨_,rfl,jab.sub HV6.o (fun i h=>.inl (Nat.le_trans (HX.o.t HXX.o).size h))⟩,HX.o.t HX6.o⟩
/-! ### In plain words -/
structure GX where
 from_:Int
 change:GC
structure LiteB (B:GB):Prop where
 given:B.given.length<=5000/\∀ x∈B.given,wAtom x<=80
 hist:B.hist.length<=100/\∀ c∈B.hist,(c.comes.length<=300/\∀ x∈c.comes,wAtom x<=80)/\(c.goes.length<=300/\∀ x∈c.goes,wAtom x<=80)
 time: -1000000<=B.time/\B.time<=1000000
 rules:B.rules.length<=8/\∀ r∈B.rules,r.body.length<=4/\r.head.args.length<=1000/\∀ p∈r.body,p.atom.args.length<=1000
def agoL (B:GB):Nat->List GA
 | 0=>B.given
 | i+1=>(backL (agoL B i) (B.hist.getD (B.hist.length-1-i) ⟨[],[]⟩)).1
def atL (B:GB) (time:Int):List GA × Bool:=if inB time (B.time-B.hist.length) B.time then (agoL B (B.time-time).toNat,true) else ([],false)
def seesL (B:GB) (t:GX):List GA:=doL (atL B t.from_).1 t.change
theorem jy3 (list:List GA) (c:GC):(backL list c).1.length<=list.length+c.goes.length:=by
 unfold backL;split
 . exact jy2 list ⟨c.goes,c.comes⟩
 show list.length<=_;omega
theorem jy4 {list:List GA} {c:GC} {x:GA} (h:x∈(backL list c).1):x∈list∨x∈c.goes:=by
 unfold backL at h;split at h
 . exact jy1 h
 exact .inl h
theorem j11 {B:GB} (h:LiteB B) (i:Nat):((B.hist.getD i ⟨[],[]⟩).comes.length<=300/\∀ x∈(B.hist.getD i ⟨[],[]⟩).comes,wAtom x<=80)/\((B.hist.getD i ⟨[],[]⟩).goes.length<=300/\∀ x∈(B.hist.getD i ⟨[],[]⟩).goes,wAtom x<=80):=by
 rw[List.getD_eq_getElem?_getD]
 cases hi:B.hist[i]? with
 | none=>simp
 | some c=>exact h.hist.2 c (List.mem_of_getElem? hi)
theorem jpq {B:GB} (h:LiteB B):∀ i,(agoL B i).length<=5000+300*i/\∀ x∈agoL B i,wAtom x<=80
 | 0=>⟨h.given.1,h.given.2⟩
 | i + 1=>by
   obtain⟨h1,h2⟩:=jpq h i;obtain⟨_,h3,h4⟩:=j11 h (B.hist.length-1-i);refine⟨Nat.le_trans (jy3 _ _) (by omega),fun x hx=>?_⟩;rcases jy4 hx with hx|hx
   . exact h2 x hx
   exact h4 x hx
theorem jvk (B:GB) (time:Int) (v:Value) (w:World) {S:Nat->Prop} (hv:BaseR S w v B) (hB:LiteB B) :
  Calls Tryz.prog 60 #[v,.int .i64 time] w fun e w'=>(∃ v',e=.returned (.tuple #[v',.bool (atL B time).2])/\jab (From w.heap.size) w' v' (atL B time).1)/\Ext w w':=by
 obtain⟨a,b,c,rfl,hr,hg,hh⟩:=hv;obtain⟨A,p,rfl,_,_⟩:=jaa.form hr;obtain⟨D,q,rfl,_,_⟩:=jaa.form hg;obtain⟨H,f,rfl,hf1,hf2⟩:=jaa.form hh;have HL:=zh hB;have hB2:=hB.hist;have hB3:=hB.time;obtain⟨W,hW⟩:=nm (w.alloc (.cells #[.slice A B.rules.length p,.int .i64 B.time,.slice D B.given.length q,.slice H B.hist.length f] 27));have HB:=zh (show Blk W w.heap.size 27 #[.slice A B.rules.length p,.int .i64 B.time,.slice D B.given.length q,.slice H B.hist.length f] from by rw[hW];exact Blk.new _ _ _);have HX:=zh (show Ext w W from by rw[hW];exact (Ext.refl _).alloc _);have HG:=zh (hg.ext HX.o);have HHI:=zh (show jan S W (.slice H B.hist.length f) B.hist from ListK.ext (k:=jf9) hh HX.o);have HIN:=zh (ju3 time (B.time-(B.hist.length:Int)) B.time W);obtain⟨ib,hib⟩:=nm (inB time (B.time-(B.hist.length:Int)) B.time);rw[<- hib] at HIN;have HAT:=zh (show atL B time=if ib then (agoL B (B.time-time).toNat,true) else ([],false) from by rw[hib];rfl)
 have HTI:=zh (show ib=true->B.time-(B.hist.length:Int)<=time/\time<=B.time from fun h=>by
  rw[h] at hib;have h2:=hib.symm;unfold inB at h2;simpa using h2)
 have hwt:IntKind.i64.wrap (B.time-(B.hist.length:Int))=B.time-(B.hist.length:Int):=by rw[IntKind.wrap_i64];omega
 have p0:=HB.o.cell 0;have p1:=HB.o.cell 1;have p2:=HB.o.cell 2;have p3:=HB.o.cell 3;have pl:=HB.o.lt;clear hr hg hh hib hB;cases ib
 . go_in
   go_upto_region 1 with fail
   rw[<- hW];clear hW
   go_wp2_with (first
    | (go_at_call 126;refine HIN.o.mono ?_;rintro e w1 ⟨rfl,rfl⟩)
    | fail)
   go_ret2;rw[HAT.o];exact⟨⟨_,rfl,jaa.nil_ 0 (Nat.zero_le _) _⟩,HX.o.alloc _⟩
 obtain⟨ht1,ht2⟩:=HTI.o rfl;obtain⟨N,hN⟩:=nm ((B.time-time).toNat);have hNi:B.time-time=(N:Int):=by omega
 have hNl:N<=B.hist.length:=by omega
 have hwn:IntKind.i64.wrap (B.time-time)=(N:Int):=by rw[IntKind.wrap_i64];omega
 rw[<- hN] at HAT;have HCP:=zh (jjm _ _ W HG.o (by have:=HL.o.given.1;omega) (fun x hx=>by have:=ji5 x;have:=HL.o.given.2 x hx;omega));clear hN hNi
 go_in
 go_upto_region 1 with fail
 rw[<- hW];clear hW
 go_wp2_with (first
  | (go_at_call 126;refine HIN.o.mono ?_;rintro e w1 ⟨rfl,rfl⟩)
  | (go_at_call 127;refine HCP.o.mono ?_;rintro e w2 ⟨⟨v2,rfl,hv2⟩,hx2⟩
     obtain⟨O2,o2,rfl,_,_⟩:=jaa.form hv2;have HV2:=zh (jab.sub hv2 (jdd HX.o.size));have HX2:=zh hx2;have HB2:=zh (HB.o.ext hx2);have HH2:=zh (show jan S w2 (.slice H B.hist.length f) B.hist from ListK.ext (k:=jf9) HHI.o hx2);clear hv2 hx2 p0 p1 p2 p3 pl)
  | fail)
 go_loopw [6,7] (fun o i wr=>∃ k:Nat,k<=N/\i=.int .i64 k/\J1 (jab (From w.heap.size) wr o (agoL B k))/\Ext w2 wr) (fun _ i _=>N-(intOf i).toNat)
 case atStart=>exact⟨0,Nat.zero_le _,rfl,HV2,Ext.refl _⟩
 case round =>
  obtain⟨k,hk,rfl,ho,hx⟩:=hrel;have hk0:(0:Int)<=(k:Int):=by omega
  have hb1:=HB2.o.ext hx;have p0:=hb1.cell 0;have p1:=hb1.cell 1;have p2:=hb1.cell 2;have p3:=hb1.cell 3;have pl:=hb1.lt;clear hb1;by_cases hlt:k<N
  . have hlt':(k:Int)<(N:Int):=by omega
    obtain⟨m,hm⟩:=nm (B.hist.length-1-k);have hml:m<B.hist.length:=by omega
    have hm0:(0:Int)<=(m:Int):=by omega
    have hm1:(m:Int)<(B.hist.length:Int):=by omega
    have hw1:IntKind.i64.wrap ((B.hist.length:Int)-1)=(B.hist.length:Int)-1:=by rw[IntKind.wrap_i64];omega
    have hw2:IntKind.i64.wrap ((B.hist.length:Int)-1-(k:Int))=(m:Int):=by rw[IntKind.wrap_i64];omega
    obtain⟨bb,off,g,va,vb,rfl,hbl,hgk,hva,hvb,hc0,hc1⟩:=jan.at_ (show jan S wr (.slice H B.hist.length f) B.hist from ListK.ext (k:=jf9) HH2.o hx) hml;obtain⟨X,cx,rfl,_,_⟩:=jaa.form hva;obtain⟨Y,cy,rfl,_,_⟩:=jaa.form hvb
    have HAG:=zh (show agoL B (k+1)=(backL (agoL B k) g).1 from by
     show (backL (agoL B k) (B.hist.getD (B.hist.length-1-k) ⟨[],[]⟩)).1=_;rw[<- hm,List.getD_eq_getElem?_getD,hgk];rfl)
    have hgm:=HL.o.hist.2 g (List.mem_of_getElem? hgk);have hal:=jpq HL.o k;have HBA:=zh (jof (agoL B k) g _ _ _ wr ho.o hva hvb ⟨by omega,hal.2⟩ ⟨by omega,hgm.2.2⟩);obtain⟨O,co,rfl,_,_⟩:=jaa.form ho.o;clear hgk hva hvb hgm hal hm
    go_wp2_with (first
     | (go_at_call 70;refine HBA.o.mono ?_;rintro e w3 ⟨⟨v3,rfl,hv3⟩,hx3⟩
        have HV3:=zh hv3;have HX3:=zh (hx.t hx3);have hwr:=(HX.o.t (HX2.o.t hx)).size;clear hv3 hx3)
     | fail)
    go_roundw
    case rel=>exact⟨k+1,by omega,by go_num,(by rw[HAG.o];exact zh (jab.sub HV3.o (fun i h=>by rcases h with h|h;exact Nat.le_trans hwr h;exact h))),HX3.o⟩
    case measure=>simp[intOf];omega
  have hlt':¬ (k:Int)<(N:Int):=by omega
  obtain rfl:k=N:=by omega
  go_wp2;go_ret2;rw[HAT.o];exact⟨⟨_,rfl,ho.o⟩,HX.o.t (HX2.o.t hx)⟩
def TxnR (S:Nat->Prop) (w:World) (v:Value) (t:GX):Prop:=∃ a b,v=.agg #[.int .i64 t.from_,a,b]/\jab S w a t.change.comes/\jab S w b t.change.goes
theorem TxnR.ext {S:Nat->Prop} {w w':World} {v:Value} {t:GX} (h:TxnR S w v t) (he:Ext w w'):TxnR S w' v t:=by
 obtain⟨a,b,h1,h2,h3⟩:=h;exact⟨a,b,h1,h2.ext he,h3.ext he⟩
theorem jy5 {B:GB} (h:LiteB B) (time:Int):(atL B time).1.length<=35000/\∀ x∈(atL B time).1,wAtom x<=80:=by
 unfold atL;split
 . rename_i hi
   have h1:=jpq h (B.time-time).toNat;refine⟨?_,h1.2⟩;have h2:=h.hist.1
   have h3:(B.time-time).toNat<=B.hist.length:=by
    unfold inB at hi;simp only[Bool.and_eq_true,decide_eq_true_eq] at hi;omega
   have h4:=h1.1;show (agoL B (B.time-time).toNat).length<=35000;omega
 exact⟨by simp,by simp⟩
theorem TxnR.form {S:Nat->Prop} {w:World} {v:Value} {t:GX} (h:TxnR S w v t):∃ A1 c1 A2 c2,v=.agg #[.int .i64 t.from_,.slice A1 t.change.comes.length c1,.slice A2 t.change.goes.length c2]:=by
 obtain⟨a,b,rfl,h2,h3⟩:=h;obtain⟨A1,c1,rfl,_⟩:=jaa.form h2;obtain⟨A2,c2,rfl,_⟩:=jaa.form h3;exact⟨_,_,_,_,rfl⟩
end Go.Proofs.YthiflhkcpanaaaaGreatDoor
