/- Own texts, joined. -/
import Derived.Test.YthdojieomhighaaGreatDoorCas04
import Derived.Orders
import Derived.Test.YthdojieomhighaaGreatDoorCas11
import Derived.Deep.RegionHeld3
set_option linter.unusedSimpArgs false
set_option linter.unusedVariables false
set_option maxHeartbeats 8000000
set_option maxRecDepth 100000
namespace Go.Proofs.YthdojieomhighaaGreatDoor
open Go.RowKit
def jgv (n:Nat) (listed:Array Bool):List Nat:=(List.range n).filter fun i=> !listed.getD i true
theorem jih {α:Type} {p q:α→Bool}:∀ {l:List α} {x:α},(∀ y∈l,q y=true→p y=true)→x∈l→p x=true→q x=false→(l.filter q).length<(l.filter p).length
 | [],x,_,hx,_,_=>by cases hx
 | y :: l,x,h,hx,hp,hq=>by
   have hle:(l.filter q).length≤(l.filter p).length:=by
    clear hx
    induction l with
    | nil=>simp
    | cons z l ih =>
      have h1:=ih (fun y hy=>h y (by
       rcases List.mem_cons.1 hy with rfl|hy
       · exact List.mem_cons_self
       exact List.mem_cons_of_mem _ (List.mem_cons_of_mem _ hy)))
      have h2:=h z (by simp);cases hqz:q z<;>cases hpz:p z<;>simp[List.filter_cons,hqz,hpz] at h2 ⊢ <;>omega
   rcases List.mem_cons.1 hx with rfl|hx
   · simp[List.filter_cons,hp,hq];omega
   have h1:=jih (l:=l) (fun y hy=>h y (List.mem_cons_of_mem _ hy)) hx hp hq;have h2:=h y List.mem_cons_self;cases hqz:q y<;>cases hpz:p y<;>simp[List.filter_cons,hqz,hpz] at h2 ⊢ <;>omega
section
variable {P:Program} {ops:Array Oper} {Q:Exit→Act→World→Prop} {md:Region.Mode}
theorem jxp (I:(Nat→Bool)→Act→World→Prop)
  (hac:∀ i o,ops[i]? = some o→∀ e∈o.after,Region.binds md e=true→e.on<i)
  (hstep:∀ i o f a w,ops[i]? = some o→f i=false→(∀ e∈o.after,Region.binds md e=true→f e.on=true)→I f a w →
   wpOp P ops Q i (I (fun j=>j == i || f j)) a w)
  (hend:∀ f a w,(∀ i,i<ops.size→f i=true)→I f a w→Q .normal a w) :
  ∀ (fuel:Nat) (listed:Array Bool) (a:Act) (w:World),listed.size=ops.size→(jgv ops.size listed).length≤fuel→I (fun j=>listed.getD j false) a w →
    wpAny P md ops Q fuel listed a w:=by
 have hall:∀ listed:Array Bool,listed.size=ops.size→Region.ready md ops listed=[]→∀ i,i<ops.size→listed.getD i false=true:=by
  intro listed hsz hr i
  induction i using Nat.strongRecOn with
  | ind i ih =>
    intro hi
    cases hl:listed.getD i false with
    | true=>rfl
    | false =>
      exfalso
      have hlt:i<listed.size:=by omega
      have:i∈Region.ready md ops listed:=by
       rw[mem_ready];refine⟨by simpa [hlt] using hl,ops[i],by simp[hi],fun e he hb=>?_⟩;have h1:=hac i ops[i] (by simp[hi]) e he hb;exact ih _ h1 (by omega)
      rw[hr] at this;cases this
 intro fuel
 induction fuel with
 | zero =>
   intro listed a w hsz hfu hI
   have hr:Region.ready md ops listed=[]:=by
    cases hr:Region.ready md ops listed with
    | nil=>rfl
    | cons i rest =>
      exfalso
      have hi:i∈Region.ready md ops listed:=by rw[hr];exact List.mem_cons_self
      have hi2:=mem_ready.1 hi
      have:i∈jgv ops.size listed:=by
       unfold jgv;obtain⟨h0,o,ho,_⟩:=hi2;have hlt:i<ops.size:=(Array.getElem?_eq_some_iff.1 ho).1;rw[List.mem_filter,List.mem_range];exact⟨hlt,by simpa using h0⟩
      have hn:jgv ops.size listed=[]:=List.eq_nil_of_length_eq_zero (by omega);rw[hn] at this;cases this
   exact⟨hr,hend _ a w (hall listed hsz hr) hI⟩
 | succ fuel ih =>
   intro listed a w hsz hfu hI;refine⟨fun hr=>hend _ a w (hall listed hsz hr) hI,fun i hi=>?_⟩;obtain⟨h0,o,ho,haf⟩:=mem_ready.1 hi;have hlt:i<ops.size:=(Array.getElem?_eq_some_iff.1 ho).1;have hlt':i<listed.size:=by omega
   have h1:=hstep i o _ a w ho (by simpa [hlt'] using h0) haf hI;refine wpOp_mono (fun a' w' h=>ih _ a' w' (by simpa using hsz) ?_ ?_) h1
   · have := jih (l:=List.range ops.size) (p:=fun j=> !listed.getD j true) (q:=fun j=> !(listed.setIfInBounds i true).getD j true) (x:=i)
       (fun y _ hy=>by
        by_cases hiy:i=y
        · subst hiy;simp[hlt'] at hy
        rw[getD_set_ne true hiy] at hy;exact hy)
       (List.mem_range.2 hlt) (by simpa using h0) (by simp[hlt'])
     unfold jgv at hfu ⊢;omega
   have he:(fun j=>(listed.setIfInBounds i true).getD j false)=fun j=>j == i || listed.getD j false:=by
     funext j
     by_cases hj:i=j
     · subst hj;simp[hlt']
     rw[getD_set_ne false hj];simp[show (j == i)=false by simpa using Ne.symm hj]
   rw[he];exact h
theorem jow {id:Nat} {a:Act} {w:World} (hm:P.follows .mixedOrders=true) (I:(Nat→Bool)→Act→World→Prop)
  (hac:∀ i o,ops[i]? = some o→∀ e∈o.after,Region.binds .any e=true→e.on<i)
  (hstep:∀ i o f a w,ops[i]? = some o→f i=false→(∀ e∈o.after,Region.binds .any e=true→f e.on=true)→I f a w →
   wpOp P ops Q i (I (fun j=>j == i || f j)) a w)
  (hend:∀ f a w,(∀ i,i<ops.size→f i=true)→I f a w→Q .normal a w)
  (hat:I (fun _=>false) a { w with drawn:=w.drawn+1 }):(Code.region id ops true).wp P Q a w:=by
 refine wp_region_any hm (jxp I hac hstep hend ops.size _ a _ (by simp) ?_ ?_)
 · unfold jgv
   exact Nat.le_trans (List.length_filter_le _ _) (by simp)
 have:(fun j=>(Array.replicate ops.size false).getD j false)=fun _=>false:=by
   funext j
   by_cases h:j<ops.size<;>simp[Array.getD,h]
 rw[this];exact hat
end
def jxq (ops:Array Oper) (f:Nat→Bool):Prop:=∀ j o,ops[j]? = some o→f j=true→∀ e∈o.after,Region.binds .any e=true→f e.on=true
theorem jez {P:Program} {ops:Array Oper} {Q:Exit→Act→World→Prop} {id:Nat} {a:Act} {w:World} (hm:P.follows .mixedOrders=true) (I:(Nat→Bool)→Act→World→Prop)
  (hac:∀ i o,ops[i]? = some o→∀ e∈o.after,Region.binds .any e=true→e.on<i)
  (hstep:∀ i o f a w,ops[i]? = some o→f i=false→jxq ops f→(∀ e∈o.after,Region.binds .any e=true→f e.on=true)→I f a w →
   wpOp P ops Q i (I (fun j=>j == i || f j)) a w)
  (hend:∀ f a w,(∀ i,i<ops.size→f i=true)→I f a w→Q .normal a w)
  (hat:I (fun _=>false) a { w with drawn:=w.drawn+1 }):(Code.region id ops true).wp P Q a w:=by
 refine jow hm (fun f a w=>jxq ops f∧I f a w) hac ?_ (fun f a w h hI=>hend f a w h hI.2) ⟨fun _ _ _ h=>by simp at h,hat⟩;intro i o f a w ho hfi haf hI;refine wpOp_mono (fun a' w' h=>⟨fun j o' ho' hj e he hb=>?_,h⟩) (hstep i o f a w ho hfi hI.1 haf hI.2);by_cases hji:j=i
 · subst hji
   rw[ho] at ho';cases ho'
   simp[haf e he hb]
 have hj':f j=true:=by simpa [hji] using hj
 simp[hI.1 j o' ho' hj' e he hb]
theorem jaw {P:Program} {ops:Array Oper} {Q:Exit→Act→World→Prop} {i:Nat} {o:Oper} {K:Act→World→Prop} {a:Act} {w:World} (ho:ops[i]? = some o) (hg:o.guard=none) (h:o.wp P a w K Q):wpOp P ops Q i K a w:=by
 unfold wpOp;simp only[ho];have hw:Region.wanted o (yielded ops a.tmps)=true:=by simp[Region.wanted,hg]
 rw[if_pos hw];exact .inl h
abbrev Lot (α:Type):=Nat→Option (Value × List α)
def Lot.upd {α:Type} (L:Lot α) (i:Nat) (p:Value × List α):Lot α:=fun j=>if j=i then some p else L j
def SepK {α:Type} (k:Kind α) (N:Nat) (e:TypeId) (w:World) (L:Lot α):Prop :=
 (∀ i p,L i=some p→OwnK k N e None w p.1 p.2)∧∀ i j p q,i≠j→L i=some p→L j=some q→∀ g,p.1.ownBlock=some g→q.1.ownBlock≠some g
section
variable {α:Type} {k:Kind α} {N:Nat} {e:TypeId} {w w':World} {L:Lot α}
theorem SepK.at_ (h:SepK k N e w L) {i:Nat} {v:Value} {xs:List α} (hi:L i=some (v,xs)):OwnK k N e None w v xs:=h.1 i _ hi
theorem SepK.none:SepK k N e w (fun _=>.none):=⟨fun _ _ h=>(by cases h),fun _ _ _ _ _ h=>(by cases h)⟩
theorem SepK.ext (h:SepK k N e w L) (he:Ext w w'):SepK k N e w' L:=⟨fun i p hp=>(h.1 i p hp).ext he,h.2⟩
theorem SepK.put (h:SepK k N e w L) (he:Ext w w') (i:Nat) {v:Value} {xs:List α} (hv:OwnK k N e None w' v xs) (hg:∀ g,v.ownBlock=some g→w.heap.size≤g):SepK k N e w' (L.upd i (v,xs)):=by
 have hlt:∀ j q,L j=some q→∀ g,q.1.ownBlock=some g→g<w.heap.size:=fun j q hq g h2=>((h.1 j q hq).at_ g h2).2
 refine⟨fun j p hp=>?_,fun a b p q hab hp hq g h1 h2=>?_⟩
 · unfold Lot.upd at hp
   split at hp
   · cases hp;exact hv
   exact (h.1 j p hp).ext he
 unfold Lot.upd at hp hq;split at hp<;>split at hq
 · omega
 · cases hp;have:=hg g h1;have:=hlt b q hq g h2;omega
 · cases hq;have:=hg g h2;have:=hlt a p hp g h1;omega
 exact h.2 a b p q hab hp hq g h1 h2
theorem SepK.app (h:SepK k N e w L) {i:Nat} {v v':Value} {xs zs:List α} (hi:L i=some (v,xs)) (ha:Apped k N e None w v zs v' w'):SepK k N e w' (L.upd i (v',zs)):=by
 have hlt:∀ j q,L j=some q→∀ g,q.1.ownBlock=some g→g<w.heap.size:=fun j q hq g h2=>((h.1 j q hq).at_ g h2).2
 have hne:∀ j q,j≠i→L j=some q→∀ g,q.1.ownBlock=some g→v'.ownBlock≠some g:=fun j q hji hq g h2 h3=>by
  rcases ha.at_ with h4|h4
  · exact h.2 j i q _ hji hq hi g h2 (h4▸h3)
  rw[h4] at h3;cases h3;exact absurd (hlt j q hq _ h2) (Nat.lt_irrefl _)
 refine⟨fun j p hp=>?_,fun a b p q hab hp hq g h1 h2=>?_⟩
 · unfold Lot.upd at hp
   split at hp
   · cases hp;exact ha.own
   rename_i hji;refine (h.1 j p hp).agree (fun b hb=>hb.elim) (fun g hg=>?_) ha.grown.size;exact ha.grown.block g (hlt j p hp g hg) (fun e=>h.2 j i p _ hji hp hi g hg e.symm)
 unfold Lot.upd at hp hq;split at hp<;>split at hq
 · omega
 · cases hp;exact hne b q (by omega) hq g h2 h1
 · cases hq;exact hne a p (by omega) hp g h1 h2
 exact h.2 a b p q hab hp hq g h1 h2
end
theorem OwnK.word {N:Nat} {e:TypeId} {w:World} {x:ByteArray} (hb:N≤w.heap.size) (hx:x.size≤maxLen) :
  OwnK kStr N e None (w.alloc (.cells #[.string x] e)) (.slice (some ⟨w.heap.size,0,none⟩) 1 1) [x] :=
 ⟨[.string x],fun _=>False,⟨rfl,.inr ⟨w.heap.size,1,#[.string x],rfl,hb,Blk.new w e _,Nat.le_refl _,by unfold maxLen;omega,rfl,rfl⟩⟩,RowsE.one rfl ⟨rfl,hx⟩,fun _ h=>h.elim,fun _ _ h=>h⟩
end Go.Proofs.YthdojieomhighaaGreatDoor
namespace Go.Proofs.YthdojieomhighaaGreatDoor
open Go.RowKit
def WithI (b:LB) (x y:ByteArray) (va vb:Value) (n:Nat) (w1:World) (f:Nat→Bool) (a:Act) (w':World):Prop :=
 ∃ (t7 t8 t9 t10 t11 t12 t13 t14 t15 t16 t17 t18 t19 t20 t21:Value) (L:Lot ByteArray) (w2:World),a = { tmps:= #[.agg #[va,vb],.string x,.string y,.pointer (some ⟨n,0,none⟩),undef,undef,.pointer (some ⟨n+1,0,none⟩),t7,t8,t9,t10,t11,t12,t13,t14,t15,t16,t17,t18,t19,t20,t21],defers:=[] } ∧
   (f 15=false→w'=w2)∧(f 15=true→w'=(w2.setCell ⟨n+1,0,none⟩ t13).setCell ⟨n+1,1,none⟩ t20)∧Below (n+1+1) w1 w2∧SepK kStr (n+1+1) 9 w2 L ∧
   (f 0=true→f 3=false→L 0=some (t7,[])) ∧
   (f 1=true→t8=.pointer (some ⟨n,0,none⟩)) ∧
   (f 2=true→t9=va) ∧
   (f 3=true→f 6=false→L 0=some (t10,b.ns)) ∧
   (f 4=true→t11=.string x) ∧
   (f 5=true→f 6=false→L 1=some (t12,[x])) ∧
   (f 6=true→L 0=some (t13,b.ns++[x])) ∧
   (f 7=true→f 10=false→L 2=some (t14,[])) ∧
   (f 8=true→t15=.pointer (some ⟨n,1,none⟩)) ∧
   (f 9=true→t16=vb) ∧
   (f 10=true→f 13=false→L 2=some (t17,b.vs)) ∧
   (f 11=true→t18=.string y) ∧
   (f 12=true→f 13=false→L 3=some (t19,[y])) ∧
   (f 13=true→L 2=some (t20,b.vs++[y])) ∧
   (f 14=true→t21=.agg #[t13,t20])
theorem jqv (b:LB) (v u:Value) (x y:ByteArray) (w:World) {S T:Nat→Prop} (hv:StrsR S w v b.ns) (hu:StrsR T w u b.vs) (hok:b.ok) (hn:b.ns.length≤1000000) (hx:x.size≤maxLen) (hy:y.size≤maxLen) :
  Calls Tryz.prog 316 #[.agg #[v,u],.string x,.string y] w fun e w'=>(∃ v' u',e=.returned (.agg #[v',u'])∧StrsR (From w.heap.size) w' v' (b.plus x y).ns∧StrsR (From w.heap.size) w' u' (b.plus x y).vs)∧Ext w w':=by
 obtain⟨A,c,rfl,hc1,hc2⟩:=jaa.form hv;obtain⟨B,d,rfl,hd1,hd2⟩:=jaa.form hu;have hvl:b.vs.length≤1000000:=by have h:b.ns.length=b.vs.length:=hok;omega
 obtain⟨W0,hW0⟩:∃ W0,W0=(w.alloc (.cells #[.slice A b.ns.length c,.slice B b.vs.length d] 322)).alloc (.cells #[.slice none 0 0,.slice none 0 0] 322):=⟨_,rfl⟩
 have hB0:Blk W0 w.heap.size 322 #[.slice A b.ns.length c,.slice B b.vs.length d]:=by rw[hW0];exact (Blk.new _ _ _).alloc _
 have hB1:Blk W0 (w.heap.size+1) 322 #[.slice none 0 0,.slice none 0 0]:=by rw[hW0];exact Blk.at_new (by simp)
 have hE0:Ext w W0:=by rw[hW0];exact ((Ext.refl _).alloc _).alloc _
 have hz:W0.heap.size=w.heap.size+1+1:=by rw[hW0];simp
 have EV:∀ w',Ext w w'→jas kStr None w' (.slice A b.ns.length c) b.ns:=fun w' he=>(ListK.imp (k:=kStr) (S':=Any) (show ListK kStr S w _ _ from hv) (fun _ _ _=>trivial) (.of_ext he) he.size).elems
 have EU:∀ w',Ext w w'→jas kStr None w' (.slice B b.vs.length d) b.vs:=fun w' he=>(ListK.imp (k:=kStr) (S':=Any) (show ListK kStr T w _ _ from hu) (fun _ _ _=>trivial) (.of_ext he) he.size).elems
 obtain⟨j0,hj0,hj1,hj2,hj3⟩:∃ j0,Tryz.prog.info? 9=some j0∧j0.zero=some (.string ⟨#[]⟩)∧j0.size=1∧j0.bytes=16:=⟨_,rfl,rfl,rfl,rfl⟩
 go_enter Tryz.func316,Tryz.ntmps316;go_wp2;rw[← hW0];clear hW0;refine jez (by decide) (WithI b x y (.slice A b.ns.length c) (.slice B b.vs.length d) w.heap.size W0) ?_ ?_ ?_ ?_
 · intro i o ho
   have hi:i<16:=(Array.getElem?_eq_some_iff.1 ho).1;have hall:∀ i:Fin 16,True:=fun _=>trivial
   rcases (by omega:i=0∨i=1∨i=2∨i=3∨i=4∨i=5∨i=6∨i=7∨i=8∨i=9∨i=10∨i=11∨i=12∨i=13∨i=14∨i=15) with rfl|rfl|rfl|rfl|rfl|rfl|rfl|rfl|rfl|rfl|rfl|rfl|rfl|rfl|rfl|rfl<;>(cases ho;decide)
 · intro i o f a w' ho hfi hcl haf hI
   obtain⟨t7,t8,t9,t10,t11,t12,t13,t14,t15,t16,t17,t18,t19,t20,t21,L,w2,rfl,hw0,hw1,hbel,hsep,F0,F1,F2,F3,F4,F5,F6,F7,F8,F9,F10,F11,F12,F13,F14⟩:=hI;have hi:i<16:=(Array.getElem?_eq_some_iff.1 ho).1;have e2_1:f 2=true→f 1=true:=fun h=>hcl 2 _ rfl h ⟨1,.data⟩ (Array.mem_of_getElem? (i:=0) rfl) rfl
   have e3_0:f 3=true→f 0=true:=fun h=>hcl 3 _ rfl h ⟨0,.data⟩ (Array.mem_of_getElem? (i:=0) rfl) rfl
   have e3_2:f 3=true→f 2=true:=fun h=>hcl 3 _ rfl h ⟨2,.data⟩ (Array.mem_of_getElem? (i:=1) rfl) rfl
   have e5_4:f 5=true→f 4=true:=fun h=>hcl 5 _ rfl h ⟨4,.data⟩ (Array.mem_of_getElem? (i:=0) rfl) rfl
   have e6_3:f 6=true→f 3=true:=fun h=>hcl 6 _ rfl h ⟨3,.data⟩ (Array.mem_of_getElem? (i:=0) rfl) rfl
   have e6_5:f 6=true→f 5=true:=fun h=>hcl 6 _ rfl h ⟨5,.data⟩ (Array.mem_of_getElem? (i:=1) rfl) rfl
   have e9_8:f 9=true→f 8=true:=fun h=>hcl 9 _ rfl h ⟨8,.data⟩ (Array.mem_of_getElem? (i:=0) rfl) rfl
   have e10_7:f 10=true→f 7=true:=fun h=>hcl 10 _ rfl h ⟨7,.data⟩ (Array.mem_of_getElem? (i:=0) rfl) rfl
   have e10_9:f 10=true→f 9=true:=fun h=>hcl 10 _ rfl h ⟨9,.data⟩ (Array.mem_of_getElem? (i:=1) rfl) rfl
   have e10_6:f 10=true→f 6=true:=fun h=>hcl 10 _ rfl h ⟨6,.chain⟩ (Array.mem_of_getElem? (i:=2) rfl) rfl
   have e12_11:f 12=true→f 11=true:=fun h=>hcl 12 _ rfl h ⟨11,.data⟩ (Array.mem_of_getElem? (i:=0) rfl) rfl
   have e13_10:f 13=true→f 10=true:=fun h=>hcl 13 _ rfl h ⟨10,.data⟩ (Array.mem_of_getElem? (i:=0) rfl) rfl
   have e13_12:f 13=true→f 12=true:=fun h=>hcl 13 _ rfl h ⟨12,.data⟩ (Array.mem_of_getElem? (i:=1) rfl) rfl
   have e14_6:f 14=true→f 6=true:=fun h=>hcl 14 _ rfl h ⟨6,.data⟩ (Array.mem_of_getElem? (i:=0) rfl) rfl
   have e14_13:f 14=true→f 13=true:=fun h=>hcl 14 _ rfl h ⟨13,.data⟩ (Array.mem_of_getElem? (i:=1) rfl) rfl
   have e15_0:f 15=true→f 0=true:=fun h=>hcl 15 _ rfl h ⟨0,.phase⟩ (Array.mem_of_getElem? (i:=2) rfl) rfl
   have e15_1:f 15=true→f 1=true:=fun h=>hcl 15 _ rfl h ⟨1,.phase⟩ (Array.mem_of_getElem? (i:=3) rfl) rfl
   have e15_2:f 15=true→f 2=true:=fun h=>hcl 15 _ rfl h ⟨2,.phase⟩ (Array.mem_of_getElem? (i:=4) rfl) rfl
   have e15_3:f 15=true→f 3=true:=fun h=>hcl 15 _ rfl h ⟨3,.phase⟩ (Array.mem_of_getElem? (i:=5) rfl) rfl
   have e15_4:f 15=true→f 4=true:=fun h=>hcl 15 _ rfl h ⟨4,.phase⟩ (Array.mem_of_getElem? (i:=6) rfl) rfl
   have e15_5:f 15=true→f 5=true:=fun h=>hcl 15 _ rfl h ⟨5,.phase⟩ (Array.mem_of_getElem? (i:=7) rfl) rfl
   have e15_6:f 15=true→f 6=true:=fun h=>hcl 15 _ rfl h ⟨6,.phase⟩ (Array.mem_of_getElem? (i:=8) rfl) rfl
   have e15_7:f 15=true→f 7=true:=fun h=>hcl 15 _ rfl h ⟨7,.phase⟩ (Array.mem_of_getElem? (i:=9) rfl) rfl
   have e15_8:f 15=true→f 8=true:=fun h=>hcl 15 _ rfl h ⟨8,.phase⟩ (Array.mem_of_getElem? (i:=10) rfl) rfl
   have e15_9:f 15=true→f 9=true:=fun h=>hcl 15 _ rfl h ⟨9,.phase⟩ (Array.mem_of_getElem? (i:=11) rfl) rfl
   have e15_10:f 15=true→f 10=true:=fun h=>hcl 15 _ rfl h ⟨10,.phase⟩ (Array.mem_of_getElem? (i:=12) rfl) rfl
   have e15_11:f 15=true→f 11=true:=fun h=>hcl 15 _ rfl h ⟨11,.phase⟩ (Array.mem_of_getElem? (i:=13) rfl) rfl
   have e15_12:f 15=true→f 12=true:=fun h=>hcl 15 _ rfl h ⟨12,.phase⟩ (Array.mem_of_getElem? (i:=14) rfl) rfl
   have e15_13:f 15=true→f 13=true:=fun h=>hcl 15 _ rfl h ⟨13,.phase⟩ (Array.mem_of_getElem? (i:=15) rfl) rfl
   have e15_14:f 15=true→f 14=true:=fun h=>hcl 15 _ rfl h ⟨14,.phase⟩ (Array.mem_of_getElem? (i:=16) rfl) rfl
   have hsz:w.heap.size+1+1≤w2.heap.size:=by have:=hbel.size;omega
   have hxw:Ext w w2:=Below.trans hE0 (hbel.mono (by omega));have hb0:=hB0.below hbel (by omega);have hb1:=hB1.below hbel (by omega);rcases (by omega:i=0∨i=1∨i=2∨i=3∨i=4∨i=5∨i=6∨i=7∨i=8∨i=9∨i=10∨i=11∨i=12∨i=13∨i=14∨i=15) with rfl|rfl|rfl|rfl|rfl|rfl|rfl|rfl|rfl|rfl|rfl|rfl|rfl|rfl|rfl|rfl
   · -- 0
     cases ho
     obtain rfl:w'=w2:=hw0 (by cases h:f 15 with|false=>rfl|true=>exact absurd (e15_0 h) (by rw[hfi];decide))
     have h15:f 15=false:=by cases h:f 15 with|false=>rfl|true=>exact absurd (e15_0 h) (by rw[hfi];decide)
     refine jaw rfl rfl ?_;go_simp;exact⟨(.slice (some ⟨w'.heap.size,0,none⟩) 0 0),t8,t9,t10,t11,t12,t13,t14,t15,t16,t17,t18,t19,t20,t21,L.upd 0 ((.slice (some ⟨w'.heap.size,0,none⟩) 0 0),[]),w'.alloc (.cells #[] 9),rfl,fun _=>rfl,fun h=>absurd h (by show ¬ f 15=true;rw[h15];decide),hbel.alloc hsz _,hsep.put ((Ext.refl _).alloc _) 0 (OwnK.empty rfl hsz) (fun g h=>by cases h;exact Nat.le_refl _),(fun _ _=>rfl),F1,F2,(fun h=>absurd (e3_0 h) (by rw[hfi];decide)),F4,F5,(fun h=>absurd (e3_0 (e6_3 h)) (by rw[hfi];decide)),F7,F8,F9,F10,F11,F12,F13,F14⟩
   · -- 1
     cases ho
     obtain rfl:w'=w2:=hw0 (by cases h:f 15 with|false=>rfl|true=>exact absurd (e15_1 h) (by rw[hfi];decide))
     have h15:f 15=false:=by cases h:f 15 with|false=>rfl|true=>exact absurd (e15_1 h) (by rw[hfi];decide)
     refine jaw rfl rfl ?_;go_simp;exact⟨t7,(.pointer (some ⟨w.heap.size,0,none⟩)),t9,t10,t11,t12,t13,t14,t15,t16,t17,t18,t19,t20,t21,L,w',rfl,fun _=>rfl,fun h=>absurd h (by show ¬ f 15=true;rw[h15];decide),hbel,hsep,F0,(fun _=>rfl),F2,F3,F4,F5,F6,F7,F8,F9,F10,F11,F12,F13,F14⟩
   · -- 2
     cases ho
     have a1:f 1=true:=haf ⟨1,.data⟩ (Array.mem_of_getElem? (i:=0) rfl) rfl;obtain rfl:w'=w2:=hw0 (by cases h:f 15 with|false=>rfl|true=>exact absurd (e15_2 h) (by rw[hfi];decide))
     have h15:f 15=false:=by cases h:f 15 with|false=>rfl|true=>exact absurd (e15_2 h) (by rw[hfi];decide)
     refine jaw rfl rfl ?_;obtain rfl:=F1 a1;have q0:=hb0.cell 0;have q1:=hb0.lt;go_simp;exact⟨t7,_,(.slice A b.ns.length c),t10,t11,t12,t13,t14,t15,t16,t17,t18,t19,t20,t21,L,w',rfl,fun _=>rfl,fun h=>absurd h (by show ¬ f 15=true;rw[h15];decide),hbel,hsep,F0,F1,(fun _=>rfl),F3,F4,F5,F6,F7,F8,F9,F10,F11,F12,F13,F14⟩
   · -- 3
     cases ho
     have a0:f 0=true:=haf ⟨0,.data⟩ (Array.mem_of_getElem? (i:=0) rfl) rfl;have a2:f 2=true:=haf ⟨2,.data⟩ (Array.mem_of_getElem? (i:=1) rfl) rfl;obtain rfl:w'=w2:=hw0 (by cases h:f 15 with|false=>rfl|true=>exact absurd (e15_3 h) (by rw[hfi];decide))
     have h15:f 15=false:=by cases h:f 15 with|false=>rfl|true=>exact absurd (e15_3 h) (by rw[hfi];decide)
     refine jaw rfl rfl ?_;obtain rfl:=F2 a2;have hl:=F0 a0 hfi;refine jfl w' (k:=kStr) (S:=None) (T:=None) (base:=w.heap.size+1+1) (xs:=[]) (ys:=b.ns) (.tmp 7) (.tmp 9) 54 rfl j0 _ 16 rfl hj0 hj1 hj2 hj3 rfl rfl (hsep.at_ hl) _ _ _ rfl (EV _ hxw) (fun _ h=>h.elim) (fun _ _ h=>h) (by simp;unfold maxLen;omega) (by simp;omega) hsz ?_;intro v1 w3 ha;exact⟨t7,t8,_,v1,t11,t12,t13,t14,t15,t16,t17,t18,t19,t20,t21,L.upd 0 (v1,b.ns),w3,rfl,fun _=>rfl,fun h=>absurd h (by show ¬ f 15=true;rw[h15];decide),hbel.trans ha.below,hsep.app hl ha,(fun _ h=>by simp at h),F1,F2,(fun _ _=>rfl),F4,F5,(fun h=>absurd (e6_3 h) (by rw[hfi];decide)),F7,F8,F9,F10,F11,F12,F13,F14⟩
   · -- 4
     cases ho
     obtain rfl:w'=w2:=hw0 (by cases h:f 15 with|false=>rfl|true=>exact absurd (e15_4 h) (by rw[hfi];decide))
     have h15:f 15=false:=by cases h:f 15 with|false=>rfl|true=>exact absurd (e15_4 h) (by rw[hfi];decide)
     refine jaw rfl rfl ?_;go_simp;exact⟨t7,t8,t9,t10,(.string x),t12,t13,t14,t15,t16,t17,t18,t19,t20,t21,L,w',rfl,fun _=>rfl,fun h=>absurd h (by show ¬ f 15=true;rw[h15];decide),hbel,hsep,F0,F1,F2,F3,(fun _=>rfl),F5,F6,F7,F8,F9,F10,F11,F12,F13,F14⟩
   · -- 5
     cases ho
     have a4:f 4=true:=haf ⟨4,.data⟩ (Array.mem_of_getElem? (i:=0) rfl) rfl;obtain rfl:w'=w2:=hw0 (by cases h:f 15 with|false=>rfl|true=>exact absurd (e15_5 h) (by rw[hfi];decide))
     have h15:f 15=false:=by cases h:f 15 with|false=>rfl|true=>exact absurd (e15_5 h) (by rw[hfi];decide)
     refine jaw rfl rfl ?_;obtain rfl:=F4 a4;go_simp;exact⟨t7,t8,t9,t10,.string x,(.slice (some ⟨w'.heap.size,0,none⟩) 1 1),t13,t14,t15,t16,t17,t18,t19,t20,t21,L.upd 1 ((.slice (some ⟨w'.heap.size,0,none⟩) 1 1),[x]),w'.alloc (.cells #[.string x] 9),rfl,fun _=>rfl,fun h=>absurd h (by show ¬ f 15=true;rw[h15];decide),hbel.alloc hsz _,hsep.put ((Ext.refl _).alloc _) 1 (OwnK.word hsz hx) (fun g h=>by cases h;exact Nat.le_refl _),F0,F1,F2,F3,F4,(fun _ _=>rfl),F6,F7,F8,F9,F10,F11,F12,F13,F14⟩
   · -- 6
     cases ho
     have a3:f 3=true:=haf ⟨3,.data⟩ (Array.mem_of_getElem? (i:=0) rfl) rfl;have a5:f 5=true:=haf ⟨5,.data⟩ (Array.mem_of_getElem? (i:=1) rfl) rfl;obtain rfl:w'=w2:=hw0 (by cases h:f 15 with|false=>rfl|true=>exact absurd (e15_6 h) (by rw[hfi];decide))
     have h15:f 15=false:=by cases h:f 15 with|false=>rfl|true=>exact absurd (e15_6 h) (by rw[hfi];decide)
     refine jaw rfl rfl ?_;have hl:=F3 a3 hfi;have hm:=F5 a5 hfi;obtain⟨E1,ce,rfl,_,_⟩:=(hsep.at_ hm).form;refine jfl w' (k:=kStr) (S:=None) (T:=None) (base:=w.heap.size+1+1) (xs:=b.ns) (ys:=[x]) (.tmp 10) (.tmp 12) 54 rfl j0 _ 16 rfl hj0 hj1 hj2 hj3 rfl rfl (hsep.at_ hl) E1 _ ce rfl ((hsep.at_ hm).list (S':=Any) (fun _ _=>trivial) (fun _ _=>trivial)).elems (fun _ h=>h.elim) (fun _ _ h=>h) (by simp;unfold maxLen;omega) (by simp;omega) hsz ?_;intro v1 w3 ha;exact⟨t7,t8,t9,t10,t11,_,v1,t14,t15,t16,t17,t18,t19,t20,t21,L.upd 0 (v1,b.ns++[x]),w3,rfl,fun _=>rfl,fun h=>absurd h (by show ¬ f 15=true;rw[h15];decide),hbel.trans ha.below,hsep.app hl ha,(fun _ h=>by have h':f 3=false:=h;rw[a3] at h';cases h'),F1,F2,(fun _ h=>by simp at h),F4,(fun _ h=>by simp at h),(fun _=>rfl),F7,F8,F9,F10,F11,F12,F13,(fun h=>absurd (e14_6 h) (by rw[hfi];decide))⟩
   · -- 7
     cases ho
     obtain rfl:w'=w2:=hw0 (by cases h:f 15 with|false=>rfl|true=>exact absurd (e15_7 h) (by rw[hfi];decide))
     have h15:f 15=false:=by cases h:f 15 with|false=>rfl|true=>exact absurd (e15_7 h) (by rw[hfi];decide)
     refine jaw rfl rfl ?_;go_simp;exact⟨t7,t8,t9,t10,t11,t12,t13,(.slice (some ⟨w'.heap.size,0,none⟩) 0 0),t15,t16,t17,t18,t19,t20,t21,L.upd 2 ((.slice (some ⟨w'.heap.size,0,none⟩) 0 0),[]),w'.alloc (.cells #[] 9),rfl,fun _=>rfl,fun h=>absurd h (by show ¬ f 15=true;rw[h15];decide),hbel.alloc hsz _,hsep.put ((Ext.refl _).alloc _) 2 (OwnK.empty rfl hsz) (fun g h=>by cases h;exact Nat.le_refl _),F0,F1,F2,F3,F4,F5,F6,(fun _ _=>rfl),F8,F9,(fun h=>absurd (e10_7 h) (by rw[hfi];decide)),F11,F12,(fun h=>absurd (e10_7 (e13_10 h)) (by rw[hfi];decide)),F14⟩
   · -- 8
     cases ho
     obtain rfl:w'=w2:=hw0 (by cases h:f 15 with|false=>rfl|true=>exact absurd (e15_8 h) (by rw[hfi];decide))
     have h15:f 15=false:=by cases h:f 15 with|false=>rfl|true=>exact absurd (e15_8 h) (by rw[hfi];decide)
     refine jaw rfl rfl ?_;go_simp;exact⟨t7,t8,t9,t10,t11,t12,t13,t14,(.pointer (some ⟨w.heap.size,1,none⟩)),t16,t17,t18,t19,t20,t21,L,w',rfl,fun _=>rfl,fun h=>absurd h (by show ¬ f 15=true;rw[h15];decide),hbel,hsep,F0,F1,F2,F3,F4,F5,F6,F7,(fun _=>rfl),F9,F10,F11,F12,F13,F14⟩
   · -- 9
     cases ho
     have a8:f 8=true:=haf ⟨8,.data⟩ (Array.mem_of_getElem? (i:=0) rfl) rfl;obtain rfl:w'=w2:=hw0 (by cases h:f 15 with|false=>rfl|true=>exact absurd (e15_9 h) (by rw[hfi];decide))
     have h15:f 15=false:=by cases h:f 15 with|false=>rfl|true=>exact absurd (e15_9 h) (by rw[hfi];decide)
     refine jaw rfl rfl ?_;obtain rfl:=F8 a8;have q0:=hb0.cell 1;have q1:=hb0.lt;go_simp;exact⟨t7,t8,t9,t10,t11,t12,t13,t14,_,(.slice B b.vs.length d),t17,t18,t19,t20,t21,L,w',rfl,fun _=>rfl,fun h=>absurd h (by show ¬ f 15=true;rw[h15];decide),hbel,hsep,F0,F1,F2,F3,F4,F5,F6,F7,F8,(fun _=>rfl),F10,F11,F12,F13,F14⟩
   · -- 10
     cases ho
     have a7:f 7=true:=haf ⟨7,.data⟩ (Array.mem_of_getElem? (i:=0) rfl) rfl;have a9:f 9=true:=haf ⟨9,.data⟩ (Array.mem_of_getElem? (i:=1) rfl) rfl;have a6:f 6=true:=haf ⟨6,.chain⟩ (Array.mem_of_getElem? (i:=2) rfl) rfl;obtain rfl:w'=w2:=hw0 (by cases h:f 15 with|false=>rfl|true=>exact absurd (e15_10 h) (by rw[hfi];decide))
     have h15:f 15=false:=by cases h:f 15 with|false=>rfl|true=>exact absurd (e15_10 h) (by rw[hfi];decide)
     refine jaw rfl rfl ?_;obtain rfl:=F9 a9;have hl:=F7 a7 hfi;refine jfl w' (k:=kStr) (S:=None) (T:=None) (base:=w.heap.size+1+1) (xs:=[]) (ys:=b.vs) (.tmp 14) (.tmp 16) 54 rfl j0 _ 16 rfl hj0 hj1 hj2 hj3 rfl rfl (hsep.at_ hl) _ _ _ rfl (EU _ hxw) (fun _ h=>h.elim) (fun _ _ h=>h) (by simp;unfold maxLen;omega) (by simp;omega) hsz ?_;intro v1 w3 ha;exact⟨t7,t8,t9,t10,t11,t12,t13,t14,t15,_,v1,t18,t19,t20,t21,L.upd 2 (v1,b.vs),w3,rfl,fun _=>rfl,fun h=>absurd h (by show ¬ f 15=true;rw[h15];decide),hbel.trans ha.below,hsep.app hl ha,F0,F1,F2,F3,F4,F5,F6,(fun _ h=>by simp at h),F8,F9,(fun _ _=>rfl),F11,F12,(fun h=>absurd (e13_10 h) (by rw[hfi];decide)),F14⟩
   · -- 11
     cases ho
     obtain rfl:w'=w2:=hw0 (by cases h:f 15 with|false=>rfl|true=>exact absurd (e15_11 h) (by rw[hfi];decide))
     have h15:f 15=false:=by cases h:f 15 with|false=>rfl|true=>exact absurd (e15_11 h) (by rw[hfi];decide)
     refine jaw rfl rfl ?_;go_simp;exact⟨t7,t8,t9,t10,t11,t12,t13,t14,t15,t16,t17,(.string y),t19,t20,t21,L,w',rfl,fun _=>rfl,fun h=>absurd h (by show ¬ f 15=true;rw[h15];decide),hbel,hsep,F0,F1,F2,F3,F4,F5,F6,F7,F8,F9,F10,(fun _=>rfl),F12,F13,F14⟩
   · -- 12
     cases ho
     have a11:f 11=true:=haf ⟨11,.data⟩ (Array.mem_of_getElem? (i:=0) rfl) rfl;obtain rfl:w'=w2:=hw0 (by cases h:f 15 with|false=>rfl|true=>exact absurd (e15_12 h) (by rw[hfi];decide))
     have h15:f 15=false:=by cases h:f 15 with|false=>rfl|true=>exact absurd (e15_12 h) (by rw[hfi];decide)
     refine jaw rfl rfl ?_;obtain rfl:=F11 a11;go_simp;exact⟨t7,t8,t9,t10,t11,t12,t13,t14,t15,t16,t17,.string y,(.slice (some ⟨w'.heap.size,0,none⟩) 1 1),t20,t21,L.upd 3 ((.slice (some ⟨w'.heap.size,0,none⟩) 1 1),[y]),w'.alloc (.cells #[.string y] 9),rfl,fun _=>rfl,fun h=>absurd h (by show ¬ f 15=true;rw[h15];decide),hbel.alloc hsz _,hsep.put ((Ext.refl _).alloc _) 3 (OwnK.word hsz hy) (fun g h=>by cases h;exact Nat.le_refl _),F0,F1,F2,F3,F4,F5,F6,F7,F8,F9,F10,F11,(fun _ _=>rfl),F13,F14⟩
   · -- 13
     cases ho
     have a10:f 10=true:=haf ⟨10,.data⟩ (Array.mem_of_getElem? (i:=0) rfl) rfl;have a12:f 12=true:=haf ⟨12,.data⟩ (Array.mem_of_getElem? (i:=1) rfl) rfl;obtain rfl:w'=w2:=hw0 (by cases h:f 15 with|false=>rfl|true=>exact absurd (e15_13 h) (by rw[hfi];decide))
     have h15:f 15=false:=by cases h:f 15 with|false=>rfl|true=>exact absurd (e15_13 h) (by rw[hfi];decide)
     refine jaw rfl rfl ?_;have hl:=F10 a10 hfi;have hm:=F12 a12 hfi;obtain⟨E1,ce,rfl,_,_⟩:=(hsep.at_ hm).form;refine jfl w' (k:=kStr) (S:=None) (T:=None) (base:=w.heap.size+1+1) (xs:=b.vs) (ys:=[y]) (.tmp 17) (.tmp 19) 54 rfl j0 _ 16 rfl hj0 hj1 hj2 hj3 rfl rfl (hsep.at_ hl) E1 _ ce rfl ((hsep.at_ hm).list (S':=Any) (fun _ _=>trivial) (fun _ _=>trivial)).elems (fun _ h=>h.elim) (fun _ _ h=>h) (by simp;unfold maxLen;omega) (by simp;omega) hsz ?_;intro v1 w3 ha;exact⟨t7,t8,t9,t10,t11,t12,t13,t14,t15,t16,t17,t18,_,v1,t21,L.upd 2 (v1,b.vs++[y]),w3,rfl,fun _=>rfl,fun h=>absurd h (by show ¬ f 15=true;rw[h15];decide),hbel.trans ha.below,hsep.app hl ha,F0,F1,F2,F3,F4,F5,F6,(fun _ h=>by have h':f 10=false:=h;rw[a10] at h';cases h'),F8,F9,(fun _ h=>by simp at h),F11,(fun _ h=>by simp at h),(fun _=>rfl),(fun h=>absurd (e14_13 h) (by rw[hfi];decide))⟩
   · -- 14
     cases ho
     have a6:f 6=true:=haf ⟨6,.data⟩ (Array.mem_of_getElem? (i:=0) rfl) rfl;have a13:f 13=true:=haf ⟨13,.data⟩ (Array.mem_of_getElem? (i:=1) rfl) rfl;obtain rfl:w'=w2:=hw0 (by cases h:f 15 with|false=>rfl|true=>exact absurd (e15_14 h) (by rw[hfi];decide))
     have h15:f 15=false:=by cases h:f 15 with|false=>rfl|true=>exact absurd (e15_14 h) (by rw[hfi];decide)
     refine jaw rfl rfl ?_;obtain⟨A1,n1,c1,rfl,_,_⟩:=(hsep.at_ (F6 a6)).form2;obtain⟨A2,n2,c2,rfl,_,_⟩:=(hsep.at_ (F13 a13)).form2;go_simp;exact⟨t7,t8,t9,t10,t11,t12,_,t14,t15,t16,t17,t18,t19,_,_,L,w',rfl,fun _=>rfl,fun h=>absurd h (by show ¬ f 15=true;rw[h15];decide),hbel,hsep,F0,F1,F2,F3,F4,F5,F6,F7,F8,F9,F10,F11,F12,F13,(fun _=>rfl)⟩
   -- 15
   cases ho
   have a6:f 6=true:=haf ⟨6,.phase⟩ (Array.mem_of_getElem? (i:=8) rfl) rfl;have a13:f 13=true:=haf ⟨13,.phase⟩ (Array.mem_of_getElem? (i:=15) rfl) rfl;have a14:f 14=true:=haf ⟨14,.phase⟩ (Array.mem_of_getElem? (i:=16) rfl) rfl;obtain rfl:w'=w2:=hw0 hfi;refine jaw rfl rfl ?_;obtain rfl:=F14 a14;have o0:=hb1.cell 0;have o1:=hb1.cell 1;have of0:=hb1.frozen 0;have of1:=hb1.frozen 1;have hs0:=hb1.lt;obtain⟨A1,n1,c1,rfl,_,_⟩:=(hsep.at_ (F6 a6)).form2;obtain⟨A2,n2,c2,rfl,_,_⟩:=(hsep.at_ (F13 a13)).form2;go_simp;exact⟨_,_,_,_,_,_,_,_,_,_,_,_,_,_,_,L,w',rfl,fun h=>by simp at h,fun _=>rfl,hbel,hsep,F0,F1,F2,F3,F4,F5,F6,F7,F8,F9,F10,F11,F12,F13,(fun _=>rfl)⟩
 · intro f a w' hall hI
   obtain⟨t7,t8,t9,t10,t11,t12,t13,t14,t15,t16,t17,t18,t19,t20,t21,L,w2,rfl,hw0,hw1,hbel,hsep,F0,F1,F2,F3,F4,F5,F6,F7,F8,F9,F10,F11,F12,F13,F14⟩:=hI;obtain rfl:=hw1 (hall 15 (by decide));have hsz:w.heap.size+1+1≤w2.heap.size:=by have:=hbel.size;omega
   have hxw:Ext w w2:=Below.trans hE0 (hbel.mono (by omega));have hb1:=hB1.below hbel (by omega);obtain⟨A1,n1,c1,rfl,_,_⟩:=(hsep.at_ (F6 (hall 6 (by decide)))).form2;obtain⟨A2,n2,c2,rfl,_,_⟩:=(hsep.at_ (F13 (hall 13 (by decide)))).form2;have o0:=hb1.cell 0;have o1:=hb1.cell 1;have of0:=hb1.frozen 0;have of1:=hb1.frozen 1;have hs0:=hb1.lt;have h1:=((hsep.at_ (F6 (hall 6 (by decide)))).list (S':=From (w.heap.size+1+1)) (fun _ h=>h.elim) (fun g hg=>hg))
   have h2:=((hsep.at_ (F13 (hall 13 (by decide)))).list (S':=From (w.heap.size+1+1)) (fun _ h=>h.elim) (fun g hg=>hg))
   go_wp2;clear hall;refine bodyPost_ret (v:=.agg #[.slice A1 n1 c1,.slice A2 n2 c2]) (by simp[results,Tryz.results316,go_sem,o0,o1,of0,of1,hs0]) rfl ?_
   have hag:Agree (From (w.heap.size+1+1)) w2 ((w2.setCell ⟨w.heap.size+1,0,none⟩ (.slice A1 n1 c1)).setCell ⟨w.heap.size+1,1,none⟩ (.slice A2 n2 c2)) :=
    ((Agree.refl _ _).setCell (fun hb=>by unfold From at hb;dsimp only at hb;omega) _).setCell (fun hb=>by unfold From at hb;dsimp only at hb;omega) _
   exact ⟨⟨_,_,rfl,h1.imp (fun g hg _=>by unfold From at *;omega) hag (by go_size),h2.imp (fun g hg _=>by unfold From at *;omega) hag (by go_size)⟩,
    Ext.setNew (a:=w) (Ext.setNew hxw (by show w.heap.size≤w.heap.size+1;omega) _) (by show w.heap.size≤w.heap.size+1;omega) _⟩
 refine⟨undef,undef,undef,undef,undef,undef,undef,undef,undef,undef,undef,undef,undef,undef,undef,fun _=>none,{ W0 with drawn:=W0.drawn+1 },rfl,fun _=>rfl,fun h=>by simp at h,Below.drew (Below.refl _ _),SepK.none,(by simp),(by simp),(by simp),(by simp),(by simp),(by simp),(by simp),(by simp),(by simp),(by simp),(by simp),(by simp),(by simp),(by simp),(by simp)⟩
theorem jno {S:Nat→Prop} {w:World} {v:Value} {xs:List ByteArray} (h:StrsR S w v xs):∀ s∈xs,s.size≤maxLen:=fun s hs=>by
 obtain⟨A,c,rfl,_⟩:=jaa.form h;obtain⟨i,hi⟩:=List.getElem?_of_mem hs;obtain⟨b,off,x,_,_,hx,hsz,_⟩:=StrsR.at_ h (k:=i) (List.getElem?_eq_some_iff.1 hi).1;rw[hi] at hx;injection hx with hx
 rw[hx];exact hsz
theorem jxr {b:LB} (h:∀ s∈b.vs,s.size≤maxLen) (x:ByteArray):((b.get x).getD jqf).size≤maxLen:=by
 cases hg:b.get x with
 | none=>exact Nat.zero_le _
 | some u =>
   unfold LB.get at hg;split at hg
   · exact h u (List.mem_of_getElem? hg)
   cases hg
theorem jvu {b:LB} (h:∀ s∈b.vs,s.size≤maxLen) {t:GT} (ht:t.n.size≤maxLen):(fillT b t).n.size≤maxLen:=by
 unfold fillT;simp only;split
 · exact jxr h _
 exact ht
theorem jnp (a:GA) (b:LB) (v x y:Value) (w:World) {S V U:Nat→Prop} (hv:jae S w v a.args) (hx:StrsR V w x b.ns) (hy:StrsR U w y b.vs) (hok:b.ok) (hn:a.args.length≤1000000) :
  Calls Tryz.prog 270 #[.agg #[.string a.n,v],.agg #[x,y]] w fun e w'=>(∃ v',e=.returned (.agg #[.string a.n,v'])∧jae (From w.heap.size) w' v' (fillN a b).args)∧Ext w w':=by
 obtain⟨A,c,rfl,hc1,hc2⟩:=jaa.form hv;obtain⟨B,d,rfl,hd1,hd2⟩:=jaa.form hx;obtain⟨D,f,rfl,hf1,hf2⟩:=jaa.form hy;obtain⟨i0,hi0,hz0,hz1,hz2⟩:=info_parts jgb;have HV:=zh hv;have HG:=zh (fun (s:ByteArray) (W:World) (hW:Ext w W)=>jhj b _ _ s W (hx.ext hW) (hy.ext hW) hok);have HS:=zh (jno hy);obtain⟨n0,hn0⟩:∃ n0,n0=w.heap.size:=⟨_,rfl⟩
 obtain⟨W0,hW0⟩:∃ W0,W0=(((w.alloc (.cells #[.string a.n,.slice A a.args.length c] 43)).alloc (.cells #[.slice B b.ns.length d,.slice D b.vs.length f] 322)).alloc (.cells #[.string ⟨#[]⟩,.slice none 0 0] 43)).alloc (.cells #[.string a.n,.slice none 0 0] 43):=⟨_,rfl⟩
 have HB0:=zh (show Blk W0 w.heap.size 43 #[.string a.n,.slice A a.args.length c] from by rw[hW0];exact (((Blk.new _ _ _).alloc _).alloc _).alloc _);have HB1:=zh (show Blk W0 (w.heap.size+1) 322 #[.slice B b.ns.length d,.slice D b.vs.length f] from by rw[hW0];exact ((Blk.at_new (by simp)).alloc _).alloc _);have HB2:=zh (show Blk W0 (w.heap.size+1+1) 43 #[.string ⟨#[]⟩,.slice none 0 0] from by rw[hW0];exact (Blk.at_new (by simp)).alloc _);have HB3:=zh (show Blk W0 (w.heap.size+1+1+1) 43 #[.string a.n,.slice none 0 0] from by rw[hW0];exact Blk.at_new (by simp));have HE0:=zh (show Ext w W0 from by rw[hW0];exact ((((Ext.refl _).alloc _).alloc _).alloc _).alloc _);have hz:W0.heap.size=w.heap.size+1+1+1+1:=by rw[hW0];simp
 have HW0:=zh hW0;have HZ:=zh hz;clear hv hx hy hok hn0
 go_enter Tryz.func270,Tryz.ntmps270;go_wp2;rw[← HW0.out];clear hW0 hz;go_loopw [6] (fun i wr=>∃ (k:Nat) (u:Value),k≤a.args.length∧i=.int .i64 k∧Hid (Blk wr (w.heap.size+1+1+1) 43 #[.string a.n,u])∧Hid (OwnK kTerm (w.heap.size+1+1+1+1) 60 None wr u ((a.args.take k).map (fillT b)))∧Hid (Below (w.heap.size+1+1+1) W0 wr)) (fun i _=>a.args.length-(intOf i).toNat)
 case atStart=>exact⟨0,_,Nat.zero_le _,rfl,HB3,zh OwnK.nil,zh (Below.refl _ _)⟩
 case round =>
  obtain⟨k,u,hk,rfl,hob,hown,hbel⟩:=hrel;have hk0:(0:Int)≤(k:Int):=by omega
  have hbsz:=hbel.out.size;rw[HZ.out] at hbsz;have hxw:Ext w wr:=Below.trans HE0.out (hbel.out.mono (by omega));obtain⟨OA,on,oc,rfl,hon,ho1,ho2⟩:=hown.out.form2;have hb0:=HB0.out.below hbel.out (by omega);have hb1:=HB1.out.below hbel.out (by omega);have hb2:=HB2.out.below hbel.out (by omega);have q0:=hb0.cell 0;have q1:=hb0.cell 1;have o0:=hob.out.cell 0;have o1:=hob.out.cell 1;have of1:=hob.out.frozen 1;have hs0:=hb0.lt;have hs1:=hb1.lt;have hs2:=hb2.lt;have hs3:=hob.out.lt;have hlk:((a.args.take k).map (fillT b)).length=k:=by rw[List.length_map,List.length_take];omega
  have HLK:=zh hlk;clear hlk;by_cases hlt:k<a.args.length
  · have hk1:(k:Int)<(a.args.length:Int):=by omega
    obtain⟨bb,off,t,rfl,hbb,htk,hts,hc0,hc1'⟩:=jae.at_ HV.out hlt;have r0:=(hxw.cells.1 bb (off+k*2) hbb).trans hc0;have r1:=(hxw.cells.1 bb (off+k*2+1) hbb).trans hc1'
    have HT:=zh (show (a.args.take (k+1)).map (fillT b)=(a.args.take k).map (fillT b)++[fillT b t] from by
     obtain⟨hk',rfl⟩:=List.getElem?_eq_some_iff.1 htk;rw[List.take_succ_eq_append_getElem hk',List.map_append];rfl)
    have hlb:bb<wr.heap.size:=Nat.lt_of_lt_of_le hbb hxw.size;have HXW:=zh hxw;have HBA:=zh hb0;have HBB:=zh hb1;have HFS:=zh (jvu HS.out hts);clear htk hc0 hc1' hb0 hb1 hb2 hxw;cases htv:t.v
    · have HFT:=zh (show fillT b t=⟨false,t.n⟩ from by unfold fillT;rw[htv];rfl)
      rw[htv] at r0;clear htv
      go_wp2_with (first
       | (at_builtin;(refine jd9 (k:=kTerm) (S:=None) (T:=None) (base:=w.heap.size+1+1+1+1) (xs:=(a.args.take k).map (fillT b)) (ys:=[fillT b t]) rfl (.tmp 44) (.tmp 46) 41 (by rfl) i0 _ 24 Tryz.underlying41 hi0 hz0 hz1 hz2 (by rfl) (by rfl) (hown.out.ext (by first|exact ((Ext.refl _).alloc _).alloc _|exact (Ext.refl _).alloc _)) _ 1 1 (by rfl) (jas.one (k:=kTerm) (g:=wr.heap.size+1) (x:=fillT b t) (l:=[.bool false,.string t.n]) (Blk.at_new (by simp)) (by rw[HFT.out];exact⟨rfl,hts⟩)) (fun _ h=>h.elim) (maxOf (by rw[HLK.out];omega)) (by rw[HLK.out];omega) (by go_size) ?_)
          intro v2 w2 hap;obtain⟨B2,n2,d2,rfl,hn2,hd21,hd22⟩:=hap.own.form2;have HAP:=zh hap;have hob2:=((hob.out.alloc _).alloc _).below hap.below (by omega);have z0:=hob2.cell 0;have z1:=hob2.cell 1;have zf:=hob2.frozen 1;have zl:=hob2.lt;have HOB:=zh hob2;clear hap hob2))
      go_roundw
      case rel =>
       refine⟨k+1,_,by omega,by go_num,zh (by simpa using HOB.out.set_ 1 (.slice B2 n2 d2)),zh (by rw[HT.out];exact HAP.out.own.set (p:=⟨_,1,none⟩) (Nat.lt_succ_self _) (fun h=>h) _),zh ?_⟩;refine Below.setCell (Below.trans ?_ (HAP.out.below.mono (show w.heap.size+1+1+1≤w.heap.size+1+1+1+1 by omega))) (Nat.le_refl _) _;exact Below.trans hbel.out (Below.mono (((Ext.refl wr).alloc _).alloc _) (by omega))
      case measure=>simp[intOf];omega
    obtain⟨z,hz⟩:∃ z,z=(b.get t.n).getD jqf:=⟨_,rfl⟩
    have HFT:=zh (show fillT b t=⟨false,z⟩ from by unfold fillT;rw[htv,hz];rfl);have hzs:z.size≤maxLen:=by have h:=HFS.out;rw[HFT.out] at h;exact h
    obtain⟨zb,hzb⟩:∃ q,q=(b.get t.n).isSome:=⟨_,rfl⟩
    have HGT:=zh (fun (W:World) (hW:Ext w W)=>show Calls Tryz.prog 306 #[.agg #[.slice B b.ns.length d,.slice D b.vs.length f],.string t.n] W fun e w'=>e=.returned (.tuple #[.string z,.bool zb])∧Ext W w' from by rw[hz,hzb];exact HG.out t.n W hW);rw[htv] at r0;have s10:=HBB.out.cell 0;have s11:=HBB.out.cell 1;have H7:=zh (Blk.new wr 60 #[.bool false,.string t.n]);clear htv hz hzb;go_wp2_with (fail)
    have HSW:=zh (fun (W:World) (hW:Ext wr W)=>And.intro ((hW.cells.1 (w.heap.size+1) 0 hs1).trans s10) (And.intro ((hW.cells.1 (w.heap.size+1) 1 hs1).trans s11) (And.intro ((hW.cells.1 w.heap.size 1 hs0).trans q1) ((hW.cells.1 bb (off+k*2+1) hlb).trans r1))))
    go_region_held3 (fun w'=>w'.cell? ⟨w.heap.size+1,0,none⟩=some (.slice B b.ns.length d)∧w'.cell? ⟨w.heap.size+1,1,none⟩=some (.slice D b.vs.length f)∧w'.cell? ⟨w.heap.size,1,none⟩=some (.slice (some ⟨bb,off,none⟩) a.args.length c)∧w'.cell? ⟨bb,off+k*2+1,none⟩=some (.string t.n))
     (first|exact HS5.out|exact HS4.out|exact HSW.out _ (((Ext.refl wr).alloc _).drew))
     ((go_at_call 306;refine (HGT.out _ (HXW.out.trans' (((Ext.refl wr).alloc _).drew))).mono ?_;rintro e w4 ⟨rfl,hx4⟩
       have HX4:=zh (show Ext wr w4 from (((Ext.refl wr).alloc _).drew).trans' hx4);have hb7:=H7.out.drew.ext hx4;have t0:=hb7.cell 0;have t1:=hb7.cell 1;have tf:=hb7.frozen 1;have tl:=hb7.lt;have HB7:=zh hb7;have HS4:=zh (HSW.out w4 HX4.out);have HS5:=zh (And.intro ((World.cell?_setCell_far w4 ⟨wr.heap.size,1,none⟩ ⟨w.heap.size+1,0,none⟩ (.string z) (Nat.ne_of_gt hs1)).trans HS4.out.1) (And.intro ((World.cell?_setCell_far w4 ⟨wr.heap.size,1,none⟩ ⟨w.heap.size+1,1,none⟩ (.string z) (Nat.ne_of_gt hs1)).trans HS4.out.2.1) (And.intro ((World.cell?_setCell_far w4 ⟨wr.heap.size,1,none⟩ ⟨w.heap.size,1,none⟩ (.string z) (Nat.ne_of_gt hs0)).trans HS4.out.2.2.1) ((World.cell?_setCell_far w4 ⟨wr.heap.size,1,none⟩ ⟨bb,off+k*2+1,none⟩ (.string z) (Nat.ne_of_gt hlb)).trans HS4.out.2.2.2))));clear hx4 hb7))
    have hob4:=(hob.out.ext HX4.out).far (p:=⟨wr.heap.size,1,none⟩) (Nat.ne_of_lt hs3) (.string z);have y0:=hob4.cell 0;have y1:=hob4.cell 1;have yf:=hob4.frozen 1;have yl:=hob4.lt;have hb75:=HB7.out.set_ 1 (.string z);have x0:=hb75.cell 0;have x1:=hb75.cell 1
    have HOW5:=zh (show OwnK kTerm (w.heap.size+1+1+1+1) 60 None (w4.setCell ⟨wr.heap.size,1,none⟩ (.string z)) (.slice OA on oc) ((a.args.take k).map (fillT b)) from
     (hown.out.ext HX4.out).agree ((Agree.refl _ _).setCell (fun h=>h) _) (fun g hg=>Below.heap_setCell w4 ⟨wr.heap.size,1,none⟩ _ g (Nat.ne_of_lt (hown.out.at_ g hg).2)) (by go_size))
    clear hob4 hb75 t0 t1 tf o0 o1 of1
    go_wp2_with (first
     | (at_builtin;(refine jd9 (k:=kTerm) (S:=None) (T:=None) (base:=w.heap.size+1+1+1+1) (xs:=(a.args.take k).map (fillT b)) (ys:=[fillT b t]) rfl (.tmp 44) (.tmp 46) 41 (by rfl) i0 _ 24 Tryz.underlying41 hi0 hz0 hz1 hz2 (by rfl) (by rfl) (HOW5.out.alloc _) _ 1 1 (by rfl) (jas.one (k:=kTerm) (g:=w4.heap.size) (x:=fillT b t) (l:=[.bool false,.string z]) (Blk.at_new (by simp)) (by rw[HFT.out];exact⟨rfl,hzs⟩)) (fun _ h=>h.elim) (maxOf (by rw[HLK.out];omega)) (by rw[HLK.out];omega) (by go_size) ?_)
        intro v2 w2 hap;obtain⟨B2,n2,d2,rfl,hn2,hd21,hd22⟩:=hap.own.form2;have HAP:=zh hap;have hob2:=(((hob.out.ext HX4.out).far (p:=⟨wr.heap.size,1,none⟩) (Nat.ne_of_lt hs3) _).alloc _).below hap.below (by omega);have z0:=hob2.cell 0;have z1:=hob2.cell 1;have zf:=hob2.frozen 1;have zl:=hob2.lt;have HOB:=zh hob2;clear hap hob2))
    go_roundw
    case rel =>
     refine⟨k+1,_,by omega,by go_num,zh (by simpa using HOB.out.set_ 1 (.slice B2 n2 d2)),zh (by rw[HT.out];exact HAP.out.own.set (p:=⟨_,1,none⟩) (Nat.lt_succ_self _) (fun h=>h) _),zh ?_⟩;refine Below.setCell (Below.trans ?_ (HAP.out.below.mono (show w.heap.size+1+1+1≤w.heap.size+1+1+1+1 by omega))) (Nat.le_refl _) _;exact (((Below.trans hbel.out (Below.mono HX4.out (by omega))).setCell (by show _≤wr.heap.size;omega) _).alloc (by go_size) _)
    case measure=>simp[intOf];omega
  have HT:=zh (show (a.args.take k).map (fillT b)=(fillN a b).args from by rw[List.take_of_length_le (show a.args.length≤k by omega)];rfl);have r0:=hb2.cell 0;have r1:=hb2.cell 1;have rf0:=hb2.frozen 0;have rf1:=hb2.frozen 1;go_wp2;refine bodyPost_ret (v:=.agg #[.string a.n,.slice OA on oc]) (by simp[results,Tryz.results270,go_sem,r0,r1]) rfl ⟨⟨_,rfl,?_⟩,?_⟩
  · have h1:=hown.out.list (S':=From (w.heap.size+1+1+1+1)) (fun _ h=>h.elim) (fun _ h=>h)
    rw[HT.out] at h1;exact jae.imp h1 (jdi (by omega)) (((Agree.refl _ _).setCell (jeu (by show w.heap.size+1+1<_;omega)) _).setCell (jeu (by show w.heap.size+1+1<_;omega)) _) (by go_size)
  exact Ext.setNew (a:=w) (Ext.setNew hxw (by show _≤w.heap.size+1+1;omega) _) (by show _≤w.heap.size+1+1;omega) _
end Go.Proofs.YthdojieomhighaaGreatDoor
