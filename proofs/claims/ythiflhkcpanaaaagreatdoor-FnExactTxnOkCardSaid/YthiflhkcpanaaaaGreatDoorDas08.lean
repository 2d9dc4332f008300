/- Own texts, joined. -/
import Derived.Test.YthiflhkcpanaaaaGreatDoorDas07
set_option linter.unusedSimpArgs false
set_option linter.unusedVariables false
set_option maxHeartbeats 8000000
set_option maxRecDepth 100000
namespace Go.Proofs.YthiflhkcpanaaaaGreatDoor
open Go.RowKit
def WithI (b:LB) (x y:ByteArray) (va vb:Value) (n:Nat) (w1:World) (f:Nat->Bool) (a:Act) (w':World):Prop :=
 ∃ (t7 t8 t9 t10 t11 t12 t13 t14 t15 t16 t17 t18 t19 t20 t21:Value) (L:Lot ByteArray) (w2:World),a = { tmps:= #[.agg #[va,vb],.string x,.string y,.pointer (some ⟨n,0,none⟩),undef,undef,.pointer (some ⟨n+1,0,none⟩),t7,t8,t9,t10,t11,t12,t13,t14,t15,t16,t17,t18,t19,t20,t21],defers:=[] } /\
   (f 15=false->w'=w2)/\(f 15=true->w'=(w2.setCell ⟨n+1,0,none⟩ t13).setCell ⟨n+1,1,none⟩ t20)/\Below (n+1+1) w1 w2/\SepK kStr (n+1+1) 9 w2 L /\
   (f 0=true->f 3=false->L 0=some (t7,[])) /\
   (f 1=true->t8=.pointer (some ⟨n,0,none⟩)) /\
   (f 2=true->t9=va) /\
   (f 3=true->f 6=false->L 0=some (t10,b.ns)) /\
   (f 4=true->t11=.string x) /\
   (f 5=true->f 6=false->L 1=some (t12,[x])) /\
   (f 6=true->L 0=some (t13,b.ns++[x])) /\
   (f 7=true->f 10=false->L 2=some (t14,[])) /\
   (f 8=true->t15=.pointer (some ⟨n,1,none⟩)) /\
   (f 9=true->t16=vb) /\
   (f 10=true->f 13=false->L 2=some (t17,b.vs)) /\
   (f 11=true->t18=.string y) /\
   (f 12=true->f 13=false->L 3=some (t19,[y])) /\
   (f 13=true->L 2=some (t20,b.vs++[y])) /\
   (f 14=true->t21=.agg #[t13,t20])
theorem jri (b:LB) (v u:Value) (x y:ByteArray) (w:World) {S T:Nat->Prop} (hv:StrsR S w v b.ns) (hu:StrsR T w u b.vs) (hok:b.ok) (hn:b.ns.length<=1000000) (hx:x.size<=maxLen) (hy:y.size<=maxLen) :
  Calls Tryz.prog 253 #[.agg #[v,u],.string x,.string y] w fun e w'=>(∃ v' u',e=.returned (.agg #[v',u'])/\StrsR (From w.heap.size) w' v' (b.plus x y).ns/\StrsR (From w.heap.size) w' u' (b.plus x y).vs)/\Ext w w':=by
 obtain⟨A,c,rfl,hc1,hc2⟩:=jaa.form hv;obtain⟨B,d,rfl,hd1,hd2⟩:=jaa.form hu;have hvl:b.vs.length<=1000000:=by have h:b.ns.length=b.vs.length:=hok;omega
 obtain⟨W0,hW0⟩:=nm ((w.alloc (.cells #[.slice A b.ns.length c,.slice B b.vs.length d] 204)).alloc (.cells #[.slice none 0 0,.slice none 0 0] 204));have hB0:Blk W0 w.heap.size 204 #[.slice A b.ns.length c,.slice B b.vs.length d]:=by rw[hW0];exact (Blk.new _ _ _).alloc _
 have hB1:Blk W0 (w.heap.size+1) 204 #[.slice none 0 0,.slice none 0 0]:=by rw[hW0];exact Blk.at_new (by simp)
 have hE0:Ext w W0:=by rw[hW0];exact ((Ext.refl _).alloc _).alloc _
 have hz:W0.heap.size=w.heap.size+1+1:=by rw[hW0];simp
 have EV:∀ w',Ext w w'->jar kStr None w' (.slice A b.ns.length c) b.ns:=fun w' he=>(ListK.imp (k:=kStr) (S':=Any) (show ListK kStr S w _ _ from hv) (fun _ _ _=>trivial) (.of_ext he) he.size).elems
 have EU:∀ w',Ext w w'->jar kStr None w' (.slice B b.vs.length d) b.vs:=fun w' he=>(ListK.imp (k:=kStr) (S':=Any) (show ListK kStr T w _ _ from hu) (fun _ _ _=>trivial) (.of_ext he) he.size).elems
 obtain⟨j0,hj0,hj1,hj2,hj3⟩:∃ j0,Tryz.prog.info? 9=some j0/\j0.zero=some (.string ⟨#[]⟩)/\j0.size=1/\j0.bytes=16:=⟨_,rfl,rfl,rfl,rfl⟩
 go_in;go_wp2;rw[<- hW0];clear hW0;refine je3 (by decide) (WithI b x y (.slice A b.ns.length c) (.slice B b.vs.length d) w.heap.size W0) ?_ ?_ ?_ ?_
 . intro i o ho
   have hi:i<16:=(Array.getElem?_eq_some_iff.1 ho).1;have hall:∀ i:Fin 16,True:=fun _=>trivial
   rcases (by omega:i=0∨i=1∨i=2∨i=3∨i=4∨i=5∨i=6∨i=7∨i=8∨i=9∨i=10∨i=11∨i=12∨i=13∨i=14∨i=15) with rfl|rfl|rfl|rfl|rfl|rfl|rfl|rfl|rfl|rfl|rfl|rfl|rfl|rfl|rfl|rfl<;>(cases ho;decide)
 . intro i o f a w' ho hfi hcl haf hI
   obtain⟨t7,t8,t9,t10,t11,t12,t13,t14,t15,t16,t17,t18,t19,t20,t21,L,w2,rfl,hw0,hw1,hbel,hsep,F0,F1,F2,F3,F4,F5,F6,F7,F8,F9,F10,F11,F12,F13,F14⟩:=hI;have hi:i<16:=(Array.getElem?_eq_some_iff.1 ho).1;have e2_1:f 2=true->f 1=true:=fun h=>hcl 2 _ rfl h ⟨1,.data⟩ (Array.mem_of_getElem? (i:=0) rfl) rfl
   have e3_0:f 3=true->f 0=true:=fun h=>hcl 3 _ rfl h ⟨0,.data⟩ (Array.mem_of_getElem? (i:=0) rfl) rfl
   have e3_2:f 3=true->f 2=true:=fun h=>hcl 3 _ rfl h ⟨2,.data⟩ (Array.mem_of_getElem? (i:=1) rfl) rfl
   have e5_4:f 5=true->f 4=true:=fun h=>hcl 5 _ rfl h ⟨4,.data⟩ (Array.mem_of_getElem? (i:=0) rfl) rfl
   have e6_3:f 6=true->f 3=true:=fun h=>hcl 6 _ rfl h ⟨3,.data⟩ (Array.mem_of_getElem? (i:=0) rfl) rfl
   have e6_5:f 6=true->f 5=true:=fun h=>hcl 6 _ rfl h ⟨5,.data⟩ (Array.mem_of_getElem? (i:=1) rfl) rfl
   have e9_8:f 9=true->f 8=true:=fun h=>hcl 9 _ rfl h ⟨8,.data⟩ (Array.mem_of_getElem? (i:=0) rfl) rfl
   have e10_7:f 10=true->f 7=true:=fun h=>hcl 10 _ rfl h ⟨7,.data⟩ (Array.mem_of_getElem? (i:=0) rfl) rfl
   have e10_9:f 10=true->f 9=true:=fun h=>hcl 10 _ rfl h ⟨9,.data⟩ (Array.mem_of_getElem? (i:=1) rfl) rfl
   have e10_6:f 10=true->f 6=true:=fun h=>hcl 10 _ rfl h ⟨6,.chain⟩ (Array.mem_of_getElem? (i:=2) rfl) rfl
   have e12_11:f 12=true->f 11=true:=fun h=>hcl 12 _ rfl h ⟨11,.data⟩ (Array.mem_of_getElem? (i:=0) rfl) rfl
   have e13_10:f 13=true->f 10=true:=fun h=>hcl 13 _ rfl h ⟨10,.data⟩ (Array.mem_of_getElem? (i:=0) rfl) rfl
   have e13_12:f 13=true->f 12=true:=fun h=>hcl 13 _ rfl h ⟨12,.data⟩ (Array.mem_of_getElem? (i:=1) rfl) rfl
   have e14_6:f 14=true->f 6=true:=fun h=>hcl 14 _ rfl h ⟨6,.data⟩ (Array.mem_of_getElem? (i:=0) rfl) rfl
   have e14_13:f 14=true->f 13=true:=fun h=>hcl 14 _ rfl h ⟨13,.data⟩ (Array.mem_of_getElem? (i:=1) rfl) rfl
   have e15_0:f 15=true->f 0=true:=fun h=>hcl 15 _ rfl h ⟨0,.phase⟩ (Array.mem_of_getElem? (i:=2) rfl) rfl
   have e15_1:f 15=true->f 1=true:=fun h=>hcl 15 _ rfl h ⟨1,.phase⟩ (Array.mem_of_getElem? (i:=3) rfl) rfl
   have e15_2:f 15=true->f 2=true:=fun h=>hcl 15 _ rfl h ⟨2,.phase⟩ (Array.mem_of_getElem? (i:=4) rfl) rfl
   have e15_3:f 15=true->f 3=true:=fun h=>hcl 15 _ rfl h ⟨3,.phase⟩ (Array.mem_of_getElem? (i:=5) rfl) rfl
   have e15_4:f 15=true->f 4=true:=fun h=>hcl 15 _ rfl h ⟨4,.phase⟩ (Array.mem_of_getElem? (i:=6) rfl) rfl
   have e15_5:f 15=true->f 5=true:=fun h=>hcl 15 _ rfl h ⟨5,.phase⟩ (Array.mem_of_getElem? (i:=7) rfl) rfl
   have e15_6:f 15=true->f 6=true:=fun h=>hcl 15 _ rfl h ⟨6,.phase⟩ (Array.mem_of_getElem? (i:=8) rfl) rfl
   have e15_7:f 15=true->f 7=true:=fun h=>hcl 15 _ rfl h ⟨7,.phase⟩ (Array.mem_of_getElem? (i:=9) rfl) rfl
   have e15_8:f 15=true->f 8=true:=fun h=>hcl 15 _ rfl h ⟨8,.phase⟩ (Array.mem_of_getElem? (i:=10) rfl) rfl
   have e15_9:f 15=true->f 9=true:=fun h=>hcl 15 _ rfl h ⟨9,.phase⟩ (Array.mem_of_getElem? (i:=11) rfl) rfl
   have e15_10:f 15=true->f 10=true:=fun h=>hcl 15 _ rfl h ⟨10,.phase⟩ (Array.mem_of_getElem? (i:=12) rfl) rfl
   have e15_11:f 15=true->f 11=true:=fun h=>hcl 15 _ rfl h ⟨11,.phase⟩ (Array.mem_of_getElem? (i:=13) rfl) rfl
   have e15_12:f 15=true->f 12=true:=fun h=>hcl 15 _ rfl h ⟨12,.phase⟩ (Array.mem_of_getElem? (i:=14) rfl) rfl
   have e15_13:f 15=true->f 13=true:=fun h=>hcl 15 _ rfl h ⟨13,.phase⟩ (Array.mem_of_getElem? (i:=15) rfl) rfl
   have e15_14:f 15=true->f 14=true:=fun h=>hcl 15 _ rfl h ⟨14,.phase⟩ (Array.mem_of_getElem? (i:=16) rfl) rfl
   have hsz:w.heap.size+1+1<=w2.heap.size:=by have:=hbel.size;omega
   have hxw:Ext w w2:=Below.trans hE0 (hbel.mono (by omega));have hb0:=hB0.below hbel (by omega);have hb1:=hB1.below hbel (by omega);rcases (by omega:i=0∨i=1∨i=2∨i=3∨i=4∨i=5∨i=6∨i=7∨i=8∨i=9∨i=10∨i=11∨i=12∨i=13∨i=14∨i=15) with rfl|rfl|rfl|rfl|rfl|rfl|rfl|rfl|rfl|rfl|rfl|rfl|rfl|rfl|rfl|rfl
   . -- 0
     cases ho
     obtain rfl:w'=w2:=hw0 (by cases h:f 15 with|false=>rfl|true=>exact absurd (e15_0 h) (by rw[hfi];decide))
     have h15:f 15=false:=by cases h:f 15 with|false=>rfl|true=>exact absurd (e15_0 h) (by rw[hfi];decide)
     refine jax rfl rfl ?_;go_simp;exact⟨(.slice (some ⟨w'.heap.size,0,none⟩) 0 0),t8,t9,t10,t11,t12,t13,t14,t15,t16,t17,t18,t19,t20,t21,L.upd 0 ((.slice (some ⟨w'.heap.size,0,none⟩) 0 0),[]),w'.alloc (.cells #[] 9),rfl,fun _=>rfl,fun h=>absurd h (by show ¬ f 15=true;rw[h15];decide),hbel.alloc hsz _,hsep.put ((Ext.refl _).alloc _) 0 (OwnK.empty rfl hsz) (fun g h=>by cases h;exact Nat.le_refl _),(fun _ _=>rfl),F1,F2,(fun h=>absurd (e3_0 h) (by rw[hfi];decide)),F4,F5,(fun h=>absurd (e3_0 (e6_3 h)) (by rw[hfi];decide)),F7,F8,F9,F10,F11,F12,F13,F14⟩
   . -- 1
     cases ho
     obtain rfl:w'=w2:=hw0 (by cases h:f 15 with|false=>rfl|true=>exact absurd (e15_1 h) (by rw[hfi];decide))
     have h15:f 15=false:=by cases h:f 15 with|false=>rfl|true=>exact absurd (e15_1 h) (by rw[hfi];decide)
     refine jax rfl rfl ?_;go_simp;exact⟨t7,(.pointer (some ⟨w.heap.size,0,none⟩)),t9,t10,t11,t12,t13,t14,t15,t16,t17,t18,t19,t20,t21,L,w',rfl,fun _=>rfl,fun h=>absurd h (by show ¬ f 15=true;rw[h15];decide),hbel,hsep,F0,(fun _=>rfl),F2,F3,F4,F5,F6,F7,F8,F9,F10,F11,F12,F13,F14⟩
   . -- 2
     cases ho
     have a1:f 1=true:=haf ⟨1,.data⟩ (Array.mem_of_getElem? (i:=0) rfl) rfl;obtain rfl:w'=w2:=hw0 (by cases h:f 15 with|false=>rfl|true=>exact absurd (e15_2 h) (by rw[hfi];decide))
     have h15:f 15=false:=by cases h:f 15 with|false=>rfl|true=>exact absurd (e15_2 h) (by rw[hfi];decide)
     refine jax rfl rfl ?_;obtain rfl:=F1 a1;have q0:=hb0.cell 0;have q1:=hb0.lt;go_simp;exact⟨t7,_,(.slice A b.ns.length c),t10,t11,t12,t13,t14,t15,t16,t17,t18,t19,t20,t21,L,w',rfl,fun _=>rfl,fun h=>absurd h (by show ¬ f 15=true;rw[h15];decide),hbel,hsep,F0,F1,(fun _=>rfl),F3,F4,F5,F6,F7,F8,F9,F10,F11,F12,F13,F14⟩
   . -- 3
     cases ho
     have a0:f 0=true:=haf ⟨0,.data⟩ (Array.mem_of_getElem? (i:=0) rfl) rfl;have a2:f 2=true:=haf ⟨2,.data⟩ (Array.mem_of_getElem? (i:=1) rfl) rfl;obtain rfl:w'=w2:=hw0 (by cases h:f 15 with|false=>rfl|true=>exact absurd (e15_3 h) (by rw[hfi];decide))
     have h15:f 15=false:=by cases h:f 15 with|false=>rfl|true=>exact absurd (e15_3 h) (by rw[hfi];decide)
     refine jax rfl rfl ?_;obtain rfl:=F2 a2;have hl:=F0 a0 hfi;refine jfm w' (k:=kStr) (S:=None) (T:=None) (base:=w.heap.size+1+1) (xs:=[]) (ys:=b.ns) (.tmp 7) (.tmp 9) 140 rfl j0 _ 16 rfl hj0 hj1 hj2 hj3 rfl rfl (hsep.at_ hl) _ _ _ rfl (EV _ hxw) (fun _ h=>h.elim) (fun _ _ h=>h) (by simp;unfold maxLen;omega) (by simp;omega) hsz ?_;intro v1 w3 ha;exact⟨t7,t8,_,v1,t11,t12,t13,t14,t15,t16,t17,t18,t19,t20,t21,L.upd 0 (v1,b.ns),w3,rfl,fun _=>rfl,fun h=>absurd h (by show ¬ f 15=true;rw[h15];decide),hbel.trans ha.below,hsep.app hl ha,(fun _ h=>by simp at h),F1,F2,(fun _ _=>rfl),F4,F5,(fun h=>absurd (e6_3 h) (by rw[hfi];decide)),F7,F8,F9,F10,F11,F12,F13,F14⟩
   . -- 4
     cases ho
     obtain rfl:w'=w2:=hw0 (by cases h:f 15 with|false=>rfl|true=>exact absurd (e15_4 h) (by rw[hfi];decide))
     have h15:f 15=false:=by cases h:f 15 with|false=>rfl|true=>exact absurd (e15_4 h) (by rw[hfi];decide)
     refine jax rfl rfl ?_;go_simp;exact⟨t7,t8,t9,t10,(.string x),t12,t13,t14,t15,t16,t17,t18,t19,t20,t21,L,w',rfl,fun _=>rfl,fun h=>absurd h (by show ¬ f 15=true;rw[h15];decide),hbel,hsep,F0,F1,F2,F3,(fun _=>rfl),F5,F6,F7,F8,F9,F10,F11,F12,F13,F14⟩
   . -- 5
     cases ho
     have a4:f 4=true:=haf ⟨4,.data⟩ (Array.mem_of_getElem? (i:=0) rfl) rfl;obtain rfl:w'=w2:=hw0 (by cases h:f 15 with|false=>rfl|true=>exact absurd (e15_5 h) (by rw[hfi];decide))
     have h15:f 15=false:=by cases h:f 15 with|false=>rfl|true=>exact absurd (e15_5 h) (by rw[hfi];decide)
     refine jax rfl rfl ?_;obtain rfl:=F4 a4;go_simp;exact⟨t7,t8,t9,t10,.string x,(.slice (some ⟨w'.heap.size,0,none⟩) 1 1),t13,t14,t15,t16,t17,t18,t19,t20,t21,L.upd 1 ((.slice (some ⟨w'.heap.size,0,none⟩) 1 1),[x]),w'.alloc (.cells #[.string x] 9),rfl,fun _=>rfl,fun h=>absurd h (by show ¬ f 15=true;rw[h15];decide),hbel.alloc hsz _,hsep.put ((Ext.refl _).alloc _) 1 (OwnK.word hsz hx) (fun g h=>by cases h;exact Nat.le_refl _),F0,F1,F2,F3,F4,(fun _ _=>rfl),F6,F7,F8,F9,F10,F11,F12,F13,F14⟩
   . -- 6
     cases ho
     have a3:f 3=true:=haf ⟨3,.data⟩ (Array.mem_of_getElem? (i:=0) rfl) rfl;have a5:f 5=true:=haf ⟨5,.data⟩ (Array.mem_of_getElem? (i:=1) rfl) rfl;obtain rfl:w'=w2:=hw0 (by cases h:f 15 with|false=>rfl|true=>exact absurd (e15_6 h) (by rw[hfi];decide))
     have h15:f 15=false:=by cases h:f 15 with|false=>rfl|true=>exact absurd (e15_6 h) (by rw[hfi];decide)
     refine jax rfl rfl ?_;have hl:=F3 a3 hfi;have hm:=F5 a5 hfi;obtain⟨E1,ce,rfl,_,_⟩:=(hsep.at_ hm).form;refine jfm w' (k:=kStr) (S:=None) (T:=None) (base:=w.heap.size+1+1) (xs:=b.ns) (ys:=[x]) (.tmp 10) (.tmp 12) 140 rfl j0 _ 16 rfl hj0 hj1 hj2 hj3 rfl rfl (hsep.at_ hl) E1 _ ce rfl ((hsep.at_ hm).list (S':=Any) (fun _ _=>trivial) (fun _ _=>trivial)).elems (fun _ h=>h.elim) (fun _ _ h=>h) (by simp;unfold maxLen;omega) (by simp;omega) hsz ?_;intro v1 w3 ha;exact⟨t7,t8,t9,t10,t11,_,v1,t14,t15,t16,t17,t18,t19,t20,t21,L.upd 0 (v1,b.ns++[x]),w3,rfl,fun _=>rfl,fun h=>absurd h (by show ¬ f 15=true;rw[h15];decide),hbel.trans ha.below,hsep.app hl ha,(fun _ h=>by have h':f 3=false:=h;rw[a3] at h';cases h'),F1,F2,(fun _ h=>by simp at h),F4,(fun _ h=>by simp at h),(fun _=>rfl),F7,F8,F9,F10,F11,F12,F13,(fun h=>absurd (e14_6 h) (by rw[hfi];decide))⟩
   . -- 7
     cases ho
     obtain rfl:w'=w2:=hw0 (by cases h:f 15 with|false=>rfl|true=>exact absurd (e15_7 h) (by rw[hfi];decide))
     have h15:f 15=false:=by cases h:f 15 with|false=>rfl|true=>exact absurd (e15_7 h) (by rw[hfi];decide)
     refine jax rfl rfl ?_;go_simp;exact⟨t7,t8,t9,t10,t11,t12,t13,(.slice (some ⟨w'.heap.size,0,none⟩) 0 0),t15,t16,t17,t18,t19,t20,t21,L.upd 2 ((.slice (some ⟨w'.heap.size,0,none⟩) 0 0),[]),w'.alloc (.cells #[] 9),rfl,fun _=>rfl,fun h=>absurd h (by show ¬ f 15=true;rw[h15];decide),hbel.alloc hsz _,hsep.put ((Ext.refl _).alloc _) 2 (OwnK.empty rfl hsz) (fun g h=>by cases h;exact Nat.le_refl _),F0,F1,F2,F3,F4,F5,F6,(fun _ _=>rfl),F8,F9,(fun h=>absurd (e10_7 h) (by rw[hfi];decide)),F11,F12,(fun h=>absurd (e10_7 (e13_10 h)) (by rw[hfi];decide)),F14⟩
   . -- 8
     cases ho
     obtain rfl:w'=w2:=hw0 (by cases h:f 15 with|false=>rfl|true=>exact absurd (e15_8 h) (by rw[hfi];decide))
     have h15:f 15=false:=by cases h:f 15 with|false=>rfl|true=>exact absurd (e15_8 h) (by rw[hfi];decide)
     refine jax rfl rfl ?_;go_simp;exact⟨t7,t8,t9,t10,t11,t12,t13,t14,(.pointer (some ⟨w.heap.size,1,none⟩)),t16,t17,t18,t19,t20,t21,L,w',rfl,fun _=>rfl,fun h=>absurd h (by show ¬ f 15=true;rw[h15];decide),hbel,hsep,F0,F1,F2,F3,F4,F5,F6,F7,(fun _=>rfl),F9,F10,F11,F12,F13,F14⟩
   . -- 9
     cases ho
     have a8:f 8=true:=haf ⟨8,.data⟩ (Array.mem_of_getElem? (i:=0) rfl) rfl;obtain rfl:w'=w2:=hw0 (by cases h:f 15 with|false=>rfl|true=>exact absurd (e15_9 h) (by rw[hfi];decide))
     have h15:f 15=false:=by cases h:f 15 with|false=>rfl|true=>exact absurd (e15_9 h) (by rw[hfi];decide)
     refine jax rfl rfl ?_;obtain rfl:=F8 a8;have q0:=hb0.cell 1;have q1:=hb0.lt;go_simp;exact⟨t7,t8,t9,t10,t11,t12,t13,t14,_,(.slice B b.vs.length d),t17,t18,t19,t20,t21,L,w',rfl,fun _=>rfl,fun h=>absurd h (by show ¬ f 15=true;rw[h15];decide),hbel,hsep,F0,F1,F2,F3,F4,F5,F6,F7,F8,(fun _=>rfl),F10,F11,F12,F13,F14⟩
   . -- 10
     cases ho
     have a7:f 7=true:=haf ⟨7,.data⟩ (Array.mem_of_getElem? (i:=0) rfl) rfl;have a9:f 9=true:=haf ⟨9,.data⟩ (Array.mem_of_getElem? (i:=1) rfl) rfl;have a6:f 6=true:=haf ⟨6,.chain⟩ (Array.mem_of_getElem? (i:=2) rfl) rfl;obtain rfl:w'=w2:=hw0 (by cases h:f 15 with|false=>rfl|true=>exact absurd (e15_10 h) (by rw[hfi];decide))
     have h15:f 15=false:=by cases h:f 15 with|false=>rfl|true=>exact absurd (e15_10 h) (by rw[hfi];decide)
     refine jax rfl rfl ?_;obtain rfl:=F9 a9;have hl:=F7 a7 hfi;refine jfm w' (k:=kStr) (S:=None) (T:=None) (base:=w.heap.size+1+1) (xs:=[]) (ys:=b.vs) (.tmp 14) (.tmp 16) 140 rfl j0 _ 16 rfl hj0 hj1 hj2 hj3 rfl rfl (hsep.at_ hl) _ _ _ rfl (EU _ hxw) (fun _ h=>h.elim) (fun _ _ h=>h) (by simp;unfold maxLen;omega) (by simp;omega) hsz ?_;intro v1 w3 ha;exact⟨t7,t8,t9,t10,t11,t12,t13,t14,t15,_,v1,t18,t19,t20,t21,L.upd 2 (v1,b.vs),w3,rfl,fun _=>rfl,fun h=>absurd h (by show ¬ f 15=true;rw[h15];decide),hbel.trans ha.below,hsep.app hl ha,F0,F1,F2,F3,F4,F5,F6,(fun _ h=>by simp at h),F8,F9,(fun _ _=>rfl),F11,F12,(fun h=>absurd (e13_10 h) (by rw[hfi];decide)),F14⟩
   . -- 11
     cases ho
     obtain rfl:w'=w2:=hw0 (by cases h:f 15 with|false=>rfl|true=>exact absurd (e15_11 h) (by rw[hfi];decide))
     have h15:f 15=false:=by cases h:f 15 with|false=>rfl|true=>exact absurd (e15_11 h) (by rw[hfi];decide)
     refine jax rfl rfl ?_;go_simp;exact⟨t7,t8,t9,t10,t11,t12,t13,t14,t15,t16,t17,(.string y),t19,t20,t21,L,w',rfl,fun _=>rfl,fun h=>absurd h (by show ¬ f 15=true;rw[h15];decide),hbel,hsep,F0,F1,F2,F3,F4,F5,F6,F7,F8,F9,F10,(fun _=>rfl),F12,F13,F14⟩
   . -- 12
     cases ho
     have a11:f 11=true:=haf ⟨11,.data⟩ (Array.mem_of_getElem? (i:=0) rfl) rfl;obtain rfl:w'=w2:=hw0 (by cases h:f 15 with|false=>rfl|true=>exact absurd (e15_12 h) (by rw[hfi];decide))
     have h15:f 15=false:=by cases h:f 15 with|false=>rfl|true=>exact absurd (e15_12 h) (by rw[hfi];decide)
     refine jax rfl rfl ?_;obtain rfl:=F11 a11;go_simp;exact⟨t7,t8,t9,t10,t11,t12,t13,t14,t15,t16,t17,.string y,(.slice (some ⟨w'.heap.size,0,none⟩) 1 1),t20,t21,L.upd 3 ((.slice (some ⟨w'.heap.size,0,none⟩) 1 1),[y]),w'.alloc (.cells #[.string y] 9),rfl,fun _=>rfl,fun h=>absurd h (by show ¬ f 15=true;rw[h15];decide),hbel.alloc hsz _,hsep.put ((Ext.refl _).alloc _) 3 (OwnK.word hsz hy) (fun g h=>by cases h;exact Nat.le_refl _),F0,F1,F2,F3,F4,F5,F6,F7,F8,F9,F10,F11,(fun _ _=>rfl),F13,F14⟩
   . -- 13
     cases ho
     have a10:f 10=true:=haf ⟨10,.data⟩ (Array.mem_of_getElem? (i:=0) rfl) rfl;have a12:f 12=true:=haf ⟨12,.data⟩ (Array.mem_of_getElem? (i:=1) rfl) rfl;obtain rfl:w'=w2:=hw0 (by cases h:f 15 with|false=>rfl|true=>exact absurd (e15_13 h) (by rw[hfi];decide))
     have h15:f 15=false:=by cases h:f 15 with|false=>rfl|true=>exact absurd (e15_13 h) (by rw[hfi];decide)
     refine jax rfl rfl ?_;have hl:=F10 a10 hfi;have hm:=F12 a12 hfi;obtain⟨E1,ce,rfl,_,_⟩:=(hsep.at_ hm).form;refine jfm w' (k:=kStr) (S:=None) (T:=None) (base:=w.heap.size+1+1) (xs:=b.vs) (ys:=[y]) (.tmp 17) (.tmp 19) 140 rfl j0 _ 16 rfl hj0 hj1 hj2 hj3 rfl rfl (hsep.at_ hl) E1 _ ce rfl ((hsep.at_ hm).list (S':=Any) (fun _ _=>trivial) (fun _ _=>trivial)).elems (fun _ h=>h.elim) (fun _ _ h=>h) (by simp;unfold maxLen;omega) (by simp;omega) hsz ?_;intro v1 w3 ha;exact⟨t7,t8,t9,t10,t11,t12,t13,t14,t15,t16,t17,t18,_,v1,t21,L.upd 2 (v1,b.vs++[y]),w3,rfl,fun _=>rfl,fun h=>absurd h (by show ¬ f 15=true;rw[h15];decide),hbel.trans ha.below,hsep.app hl ha,F0,F1,F2,F3,F4,F5,F6,(fun _ h=>by have h':f 10=false:=h;rw[a10] at h';cases h'),F8,F9,(fun _ h=>by simp at h),F11,(fun _ h=>by simp at h),(fun _=>rfl),(fun h=>absurd (e14_13 h) (by rw[hfi];decide))⟩
   . -- 14
     cases ho
     have a6:f 6=true:=haf ⟨6,.data⟩ (Array.mem_of_getElem? (i:=0) rfl) rfl;have a13:f 13=true:=haf ⟨13,.data⟩ (Array.mem_of_getElem? (i:=1) rfl) rfl;obtain rfl:w'=w2:=hw0 (by cases h:f 15 with|false=>rfl|true=>exact absurd (e15_14 h) (by rw[hfi];decide))
     have h15:f 15=false:=by cases h:f 15 with|false=>rfl|true=>exact absurd (e15_14 h) (by rw[hfi];decide)
     refine jax rfl rfl ?_;obtain⟨A1,n1,c1,rfl,_,_⟩:=(hsep.at_ (F6 a6)).form2;obtain⟨A2,n2,c2,rfl,_,_⟩:=(hsep.at_ (F13 a13)).form2;go_simp;exact⟨t7,t8,t9,t10,t11,t12,_,t14,t15,t16,t17,t18,t19,_,_,L,w',rfl,fun _=>rfl,fun h=>absurd h (by show ¬ f 15=true;rw[h15];decide),hbel,hsep,F0,F1,F2,F3,F4,F5,F6,F7,F8,F9,F10,F11,F12,F13,(fun _=>rfl)⟩
   -- 15
   cases ho
   have a6:f 6=true:=haf ⟨6,.phase⟩ (Array.mem_of_getElem? (i:=8) rfl) rfl;have a13:f 13=true:=haf ⟨13,.phase⟩ (Array.mem_of_getElem? (i:=15) rfl) rfl;have a14:f 14=true:=haf ⟨14,.phase⟩ (Array.mem_of_getElem? (i:=16) rfl) rfl;obtain rfl:w'=w2:=hw0 hfi;refine jax rfl rfl ?_;obtain rfl:=F14 a14;have o0:=hb1.cell 0;have o1:=hb1.cell 1;have of0:=hb1.frozen 0;have of1:=hb1.frozen 1;have hs0:=hb1.lt;obtain⟨A1,n1,c1,rfl,_,_⟩:=(hsep.at_ (F6 a6)).form2;obtain⟨A2,n2,c2,rfl,_,_⟩:=(hsep.at_ (F13 a13)).form2;go_simp;exact⟨_,_,_,_,_,_,_,_,_,_,_,_,_,_,_,L,w',rfl,fun h=>by simp at h,fun _=>rfl,hbel,hsep,F0,F1,F2,F3,F4,F5,F6,F7,F8,F9,F10,F11,F12,F13,(fun _=>rfl)⟩
 . intro f a w' hall hI
   obtain⟨t7,t8,t9,t10,t11,t12,t13,t14,t15,t16,t17,t18,t19,t20,t21,L,w2,rfl,hw0,hw1,hbel,hsep,F0,F1,F2,F3,F4,F5,F6,F7,F8,F9,F10,F11,F12,F13,F14⟩:=hI;obtain rfl:=hw1 (hall 15 (by decide));have hsz:w.heap.size+1+1<=w2.heap.size:=by have:=hbel.size;omega
   have hxw:Ext w w2:=Below.trans hE0 (hbel.mono (by omega));have hb1:=hB1.below hbel (by omega);obtain⟨A1,n1,c1,rfl,_,_⟩:=(hsep.at_ (F6 (hall 6 (by decide)))).form2;obtain⟨A2,n2,c2,rfl,_,_⟩:=(hsep.at_ (F13 (hall 13 (by decide)))).form2;have o0:=hb1.cell 0;have o1:=hb1.cell 1;have of0:=hb1.frozen 0;have of1:=hb1.frozen 1;have hs0:=hb1.lt;have h1:=((hsep.at_ (F6 (hall 6 (by decide)))).list (S':=From (w.heap.size+1+1)) (fun _ h=>h.elim) (fun g hg=>hg))
   have h2:=((hsep.at_ (F13 (hall 13 (by decide)))).list (S':=From (w.heap.size+1+1)) (fun _ h=>h.elim) (fun g hg=>hg))
   go_wp2;clear hall;refine bodyPost_ret (v:=.agg #[.slice A1 n1 c1,.slice A2 n2 c2]) (by simp[results,Tryz.results253,go_sem,o0,o1,of0,of1,hs0]) rfl ?_
   have hag:Agree (From (w.heap.size+1+1)) w2 ((w2.setCell ⟨w.heap.size+1,0,none⟩ (.slice A1 n1 c1)).setCell ⟨w.heap.size+1,1,none⟩ (.slice A2 n2 c2)) :=
    ((Agree.refl _ _).setCell (fun hb=>by unfold From at hb;dsimp only at hb;omega) _).setCell (fun hb=>by unfold From at hb;dsimp only at hb;omega) _
   exact ⟨⟨_,_,rfl,h1.imp (fun g hg _=>by unfold From at *;omega) hag (by go_size),h2.imp (fun g hg _=>by unfold From at *;omega) hag (by go_size)⟩,
    Ext.setNew (a:=w) (Ext.setNew hxw (by show w.heap.size<=w.heap.size+1;omega) _) (by show w.heap.size<=w.heap.size+1;omega) _⟩
 refine⟨undef,undef,undef,undef,undef,undef,undef,undef,undef,undef,undef,undef,undef,undef,undef,fun _=>none,{ W0 with drawn:=W0.drawn+1 },rfl,fun _=>rfl,fun h=>by simp at h,Below.drew (Below.refl _ _),SepK.none,(by simp),(by simp),(by simp),(by simp),(by simp),(by simp),(by simp),(by simp),(by simp),(by simp),(by simp),(by simp),(by simp),(by simp),(by simp)⟩
theorem joa {S:Nat->Prop} {w:World} {v:Value} {xs:List ByteArray} (h:StrsR S w v xs):∀ s∈xs,s.size<=maxLen:=fun s hs=>by
 obtain⟨A,c,rfl,_⟩:=jaa.form h;obtain⟨i,hi⟩:=List.getElem?_of_mem hs;obtain⟨b,off,x,_,_,hx,hsz,_⟩:=StrsR.at_ h (k:=i) (List.getElem?_eq_some_iff.1 hi).1;rw[hi] at hx;injection hx with hx
 rw[hx];exact hsz
theorem jym {b:LB} (h:∀ s∈b.vs,s.size<=maxLen) (x:ByteArray):((b.get x).getD jq8).size<=maxLen:=by
 cases hg:b.get x with
 | none=>exact Nat.zero_le _
 | some u =>
   unfold LB.get at hg;split at hg
   . exact h u (List.mem_of_getElem? hg)
   cases hg
theorem jwo {b:LB} (h:∀ s∈b.vs,s.size<=maxLen) {t:GT} (ht:t.n.size<=maxLen):(fillT b t).n.size<=maxLen:=by
 unfold fillT;simp only;split
 . exact jym h _
 exact ht
theorem job (a:GA) (b:LB) (v x y:Value) (w:World) {S V U:Nat->Prop} (hv:jad S w v a.args) (hx:StrsR V w x b.ns) (hy:StrsR U w y b.vs) (hok:b.ok) (hn:a.args.length<=1000000) :
  Calls Tryz.prog 252 #[.agg #[.string a.n,v],.agg #[x,y]] w fun e w'=>(∃ v',e=.returned (.agg #[.string a.n,v'])/\jad (From w.heap.size) w' v' (fillN a b).args)/\Ext w w':=by
 obtain⟨A,c,rfl,hc1,hc2⟩:=jaa.form hv;obtain⟨B,d,rfl,hd1,hd2⟩:=jaa.form hx;obtain⟨D,f,rfl,hf1,hf2⟩:=jaa.form hy;obtain⟨i0,hi0,hz0,hz1,hz2⟩:=info_parts jgd;have HV:=zh hv;have HG:=zh (fun (s:ByteArray) (W:World) (hW:Ext w W)=>jhr b _ _ s W (hx.ext hW) (hy.ext hW) hok);have HS:=zh (joa hy);obtain⟨n0,hn0⟩:=nm (w.heap.size);obtain⟨W0,hW0⟩:=nm ((((w.alloc (.cells #[.string a.n,.slice A a.args.length c] 69)).alloc (.cells #[.slice B b.ns.length d,.slice D b.vs.length f] 204)).alloc (.cells #[.string ⟨#[]⟩,.slice none 0 0] 69)).alloc (.cells #[.string a.n,.slice none 0 0] 69));have HB0:=zh (show Blk W0 w.heap.size 69 #[.string a.n,.slice A a.args.length c] from by rw[hW0];exact (((Blk.new _ _ _).alloc _).alloc _).alloc _);have HB1:=zh (show Blk W0 (w.heap.size+1) 204 #[.slice B b.ns.length d,.slice D b.vs.length f] from by rw[hW0];exact ((Blk.at_new (by simp)).alloc _).alloc _);have HB2:=zh (show Blk W0 (w.heap.size+1+1) 69 #[.string ⟨#[]⟩,.slice none 0 0] from by rw[hW0];exact (Blk.at_new (by simp)).alloc _);have HB3:=zh (show Blk W0 (w.heap.size+1+1+1) 69 #[.string a.n,.slice none 0 0] from by rw[hW0];exact Blk.at_new (by simp));have HE0:=zh (show Ext w W0 from by rw[hW0];exact ((((Ext.refl _).alloc _).alloc _).alloc _).alloc _);have hz:W0.heap.size=w.heap.size+1+1+1+1:=by rw[hW0];simp
 have HW0:=zh hW0;have HZ:=zh hz;clear hv hx hy hok hn0
 go_in;go_wp2;rw[<- HW0.o];clear hW0 hz;go_loopw [6] (fun i wr=>∃ (k:Nat) (u:Value),k<=a.args.length/\i=.int .i64 k/\J1 (Blk wr (w.heap.size+1+1+1) 69 #[.string a.n,u])/\J1 (OwnK kTerm (w.heap.size+1+1+1+1) 157 None wr u ((a.args.take k).map (fillT b)))/\J1 (Below (w.heap.size+1+1+1) W0 wr)) (fun i _=>a.args.length-(intOf i).toNat)
 case atStart=>exact⟨0,_,Nat.zero_le _,rfl,HB3,zh OwnK.nil,zh (Below.refl _ _)⟩
 case round =>
  obtain⟨k,u,hk,rfl,hob,hown,hbel⟩:=hrel;have hk0:(0:Int)<=(k:Int):=by omega
  have hbsz:=hbel.o.size;rw[HZ.o] at hbsz;have hxw:Ext w wr:=Below.trans HE0.o (hbel.o.mono (by omega));obtain⟨OA,on,oc,rfl,hon,ho1,ho2⟩:=hown.o.form2;have hb0:=HB0.o.below hbel.o (by omega);have hb1:=HB1.o.below hbel.o (by omega);have hb2:=HB2.o.below hbel.o (by omega);have q0:=hb0.cell 0;have q1:=hb0.cell 1;have o0:=hob.o.cell 0;have o1:=hob.o.cell 1;have of1:=hob.o.frozen 1;have hs0:=hb0.lt;have hs1:=hb1.lt;have hs2:=hb2.lt;have hs3:=hob.o.lt;have hlk:((a.args.take k).map (fillT b)).length=k:=by rw[List.length_map,List.length_take];omega
  have HLK:=zh hlk;clear hlk;by_cases hlt:k<a.args.length
  . have hk1:(k:Int)<(a.args.length:Int):=by omega
    obtain⟨bb,off,t,rfl,hbb,htk,hts,hc0,hc1'⟩:=jad.at_ HV.o hlt;have r0:=(hxw.cells.1 bb (off+k*2) hbb).trans hc0;have r1:=(hxw.cells.1 bb (off+k*2+1) hbb).trans hc1'
    have HT:=zh (show (a.args.take (k+1)).map (fillT b)=(a.args.take k).map (fillT b)++[fillT b t] from by
     obtain⟨hk',rfl⟩:=List.getElem?_eq_some_iff.1 htk;rw[List.take_succ_eq_append_getElem hk',List.map_append];rfl)
    have hlb:bb<wr.heap.size:=Nat.lt_of_lt_of_le hbb hxw.size;have HXW:=zh hxw;have HBA:=zh hb0;have HBB:=zh hb1;have HFS:=zh (jwo HS.o hts);clear htk hc0 hc1' hb0 hb1 hb2 hxw;cases htv:t.v
    . have HFT:=zh (show fillT b t=⟨false,t.n⟩ from by unfold fillT;rw[htv];rfl)
      rw[htv] at r0;clear htv
      go_wp2_with (first
       | (at_builtin;(refine jeh (k:=kTerm) (S:=None) (T:=None) (base:=w.heap.size+1+1+1+1) (xs:=(a.args.take k).map (fillT b)) (ys:=[fillT b t]) rfl (.tmp 44) (.tmp 46) 67 (by rfl) i0 _ 24 Tryz.underlying67 hi0 hz0 hz1 hz2 (by rfl) (by rfl) (hown.o.ext (by first|exact ((Ext.refl _).alloc _).alloc _|exact (Ext.refl _).alloc _)) _ 1 1 (by rfl) (jar.one (k:=kTerm) (g:=wr.heap.size+1) (x:=fillT b t) (l:=[.bool false,.string t.n]) (Blk.at_new (by simp)) (by rw[HFT.o];exact⟨rfl,hts⟩)) (fun _ h=>h.elim) (maxOf (by rw[HLK.o];omega)) (by rw[HLK.o];omega) (by go_size) ?_)
          intro v2 w2 hap;obtain⟨B2,n2,d2,rfl,hn2,hd21,hd22⟩:=hap.own.form2;have HAP:=zh hap;have hob2:=((hob.o.alloc _).alloc _).below hap.below (by omega);have z0:=hob2.cell 0;have z1:=hob2.cell 1;have zf:=hob2.frozen 1;have zl:=hob2.lt;have HOB:=zh hob2;clear hap hob2))
      go_roundw
      case rel =>
       refine⟨k+1,_,by omega,by go_num,zh (by simpa using HOB.o.set_ 1 (.slice B2 n2 d2)),zh (by rw[HT.o];exact HAP.o.own.set (p:=⟨_,1,none⟩) (Nat.lt_succ_self _) (fun h=>h) _),zh ?_⟩;refine Below.setCell (Below.trans ?_ (HAP.o.below.mono (show w.heap.size+1+1+1<=w.heap.size+1+1+1+1 by omega))) (Nat.le_refl _) _;exact Below.trans hbel.o (Below.mono (((Ext.refl wr).alloc _).alloc _) (by omega))
      case measure=>simp[intOf];omega
    obtain⟨z,hz⟩:=nm ((b.get t.n).getD jq8);have HFT:=zh (show fillT b t=⟨false,z⟩ from by unfold fillT;rw[htv,hz];rfl);have hzs:z.size<=maxLen:=by have h:=HFS.o;rw[HFT.o] at h;exact h
    obtain⟨zb,hzb⟩:∃ q,q=(b.get t.n).isSome:=⟨_,rfl⟩
    have HGT:=zh (fun (W:World) (hW:Ext w W)=>show Calls Tryz.prog 164 #[.agg #[.slice B b.ns.length d,.slice D b.vs.length f],.string t.n] W fun e w'=>e=.returned (.tuple #[.string z,.bool zb])/\Ext W w' from by rw[hz,hzb];exact HG.o t.n W hW);rw[htv] at r0;have s10:=HBB.o.cell 0;have s11:=HBB.o.cell 1;have H7:=zh (Blk.new wr 157 #[.bool false,.string t.n]);clear htv hz hzb;go_wp2_with (fail)
    have HSW:=zh (fun (W:World) (hW:Ext wr W)=>And.intro ((hW.cells.1 (w.heap.size+1) 0 hs1).trans s10) (And.intro ((hW.cells.1 (w.heap.size+1) 1 hs1).trans s11) (And.intro ((hW.cells.1 w.heap.size 1 hs0).trans q1) ((hW.cells.1 bb (off+k*2+1) hlb).trans r1))))
    go_region_held3 (fun w'=>w'.cell? ⟨w.heap.size+1,0,none⟩=some (.slice B b.ns.length d)/\w'.cell? ⟨w.heap.size+1,1,none⟩=some (.slice D b.vs.length f)/\w'.cell? ⟨w.heap.size,1,none⟩=some (.slice (some ⟨bb,off,none⟩) a.args.length c)/\w'.cell? ⟨bb,off+k*2+1,none⟩=some (.string t.n))
     (first|exact HS5.o|exact HS4.o|exact HSW.o _ (((Ext.refl wr).alloc _).drew))
     ((go_at_call 164;refine (HGT.o _ (HXW.o.t (((Ext.refl wr).alloc _).drew))).mono ?_;rintro e w4 ⟨rfl,hx4⟩
       have HX4:=zh (show Ext wr w4 from (((Ext.refl wr).alloc _).drew).t hx4);have hb7:=H7.o.drew.ext hx4;have t0:=hb7.cell 0;have t1:=hb7.cell 1;have tf:=hb7.frozen 1;have tl:=hb7.lt;have HB7:=zh hb7;have HS4:=zh (HSW.o w4 HX4.o);have HS5:=zh (And.intro ((World.cell?_setCell_far w4 ⟨wr.heap.size,1,none⟩ ⟨w.heap.size+1,0,none⟩ (.string z) (Nat.ne_of_gt hs1)).trans HS4.o.1) (And.intro ((World.cell?_setCell_far w4 ⟨wr.heap.size,1,none⟩ ⟨w.heap.size+1,1,none⟩ (.string z) (Nat.ne_of_gt hs1)).trans HS4.o.2.1) (And.intro ((World.cell?_setCell_far w4 ⟨wr.heap.size,1,none⟩ ⟨w.heap.size,1,none⟩ (.string z) (Nat.ne_of_gt hs0)).trans HS4.o.2.2.1) ((World.cell?_setCell_far w4 ⟨wr.heap.size,1,none⟩ ⟨bb,off+k*2+1,none⟩ (.string z) (Nat.ne_of_gt hlb)).trans HS4.o.2.2.2))));clear hx4 hb7))
    have hob4:=(hob.o.ext HX4.o).far (p:=⟨wr.heap.size,1,none⟩) (Nat.ne_of_lt hs3) (.string z);have y0:=hob4.cell 0;have y1:=hob4.cell 1;have yf:=hob4.frozen 1;have yl:=hob4.lt;have hb75:=HB7.o.set_ 1 (.string z);have x0:=hb75.cell 0;have x1:=hb75.cell 1
    have HOW5:=zh (show OwnK kTerm (w.heap.size+1+1+1+1) 157 None (w4.setCell ⟨wr.heap.size,1,none⟩ (.string z)) (.slice OA on oc) ((a.args.take k).map (fillT b)) from
     (hown.o.ext HX4.o).agree ((Agree.refl _ _).setCell (fun h=>h) _) (fun g hg=>Below.heap_setCell w4 ⟨wr.heap.size,1,none⟩ _ g (Nat.ne_of_lt (hown.o.at_ g hg).2)) (by go_size))
    clear hob4 hb75 t0 t1 tf o0 o1 of1
    go_wp2_with (first
     | (at_builtin;(refine jeh (k:=kTerm) (S:=None) (T:=None) (base:=w.heap.size+1+1+1+1) (xs:=(a.args.take k).map (fillT b)) (ys:=[fillT b t]) rfl (.tmp 44) (.tmp 46) 67 (by rfl) i0 _ 24 Tryz.underlying67 hi0 hz0 hz1 hz2 (by rfl) (by rfl) (HOW5.o.alloc _) _ 1 1 (by rfl) (jar.one (k:=kTerm) (g:=w4.heap.size) (x:=fillT b t) (l:=[.bool false,.string z]) (Blk.at_new (by simp)) (by rw[HFT.o];exact⟨rfl,hzs⟩)) (fun _ h=>h.elim) (maxOf (by rw[HLK.o];omega)) (by rw[HLK.o];omega) (by go_size) ?_)
        intro v2 w2 hap;obtain⟨B2,n2,d2,rfl,hn2,hd21,hd22⟩:=hap.own.form2;have HAP:=zh hap;have hob2:=(((hob.o.ext HX4.o).far (p:=⟨wr.heap.size,1,none⟩) (Nat.ne_of_lt hs3) _).alloc _).below hap.below (by omega);have z0:=hob2.cell 0;have z1:=hob2.cell 1;have zf:=hob2.frozen 1;have zl:=hob2.lt;have HOB:=zh hob2;clear hap hob2))
    go_roundw
    case rel =>
     refine⟨k+1,_,by omega,by go_num,zh (by simpa using HOB.o.set_ 1 (.slice B2 n2 d2)),zh (by rw[HT.o];exact HAP.o.own.set (p:=⟨_,1,none⟩) (Nat.lt_succ_self _) (fun h=>h) _),zh ?_⟩;refine Below.setCell (Below.trans ?_ (HAP.o.below.mono (show w.heap.size+1+1+1<=w.heap.size+1+1+1+1 by omega))) (Nat.le_refl _) _;exact (((Below.trans hbel.o (Below.mono HX4.o (by omega))).setCell (by show _<=wr.heap.size;omega) _).alloc (by go_size) _)
    case measure=>simp[intOf];omega
  have HT:=zh (show (a.args.take k).map (fillT b)=(fillN a b).args from by rw[List.take_of_length_le (show a.args.length<=k by omega)];rfl);have r0:=hb2.cell 0;have r1:=hb2.cell 1;have rf0:=hb2.frozen 0;have rf1:=hb2.frozen 1;go_wp2;refine bodyPost_ret (v:=.agg #[.string a.n,.slice OA on oc]) (by simp[results,Tryz.results252,go_sem,r0,r1]) rfl ⟨⟨_,rfl,?_⟩,?_⟩
  . have h1:=hown.o.list (S':=From (w.heap.size+1+1+1+1)) (fun _ h=>h.elim) (fun _ h=>h)
    rw[HT.o] at h1;exact jad.imp h1 (jdd (by omega)) (((Agree.refl _ _).setCell (je2 (by show w.heap.size+1+1<_;omega)) _).setCell (je2 (by show w.heap.size+1+1<_;omega)) _) (by go_size)
  exact Ext.setNew (a:=w) (Ext.setNew hxw (by show _<=w.heap.size+1+1;omega) _) (by show _<=w.heap.size+1+1;omega) _
end Go.Proofs.YthiflhkcpanaaaaGreatDoor
