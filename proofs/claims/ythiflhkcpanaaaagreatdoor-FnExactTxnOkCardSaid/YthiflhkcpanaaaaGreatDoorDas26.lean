/- Own texts, joined. -/
import Derived.Test.YthiflhkcpanaaaaGreatDoorDas25
set_option linter.unusedSimpArgs false
set_option linter.unusedVariables false
set_option maxHeartbeats 4000000
set_option maxRecDepth 100000
namespace Go.Proofs.YthiflhkcpanaaaaGreatDoor
open Go.RowKit
def TxnO (S:Nat->Prop) (w:World) (v:Value) (t:GX):Prop:=∃ a b:Value,v=.agg #[.int .i64 t.from_,a,b]/\jbh S w [a,b] t.change
theorem TxnO.read {S:Nat->Prop} {w:World} {v:Value} {t:GX} (h:TxnO S w v t):TxnR S w v t:=by
 obtain⟨a,b,h1,h2⟩:=h;obtain⟨a',b',h3,h4,h5⟩:=jbh.read h2 (fun _ h=>h);injection h3 with h3 h6
 injection h6 with h6 _
 subst h3 h6;exact⟨a,b,h1,h4,h5⟩
def wTxn (t:GX):Nat:=jbp t.change
theorem joy (t:GX) (v u:Value) (w:World) {S T:Nat->Prop} (hv:TxnR S w v t) (hu:TxnR T w u t) :
  Calls Tryz.prog 24 #[v,u] w fun e w'=>e=.returned (.bool true)/\Ext w w':=by
 obtain⟨a1,b1,rfl,ha1,hb1⟩:=hv;obtain⟨a2,b2,rfl,ha2,hb2⟩:=hu;obtain⟨A1,p1,rfl,hp1,hp1'⟩:=jaa.form ha1;obtain⟨B1,q1,rfl,hq1,hq1'⟩:=jaa.form hb1;obtain⟨A2,p2,rfl,hp2,hp2'⟩:=jaa.form ha2;obtain⟨B2,q2,rfl,hq2,hq2'⟩:=jaa.form hb2;have HA1:=zh ha1;have HB1:=zh hb1;have HA2:=zh ha2;have HB2:=zh hb2;clear ha1 hb1 ha2 hb2
 go_in;go_wp2_with (go_at_call 85;refine (jir t.change _ _ _ _ _ (HA1.o.ext (((Ext.refl _).alloc _).alloc _)) (HB1.o.ext (((Ext.refl _).alloc _).alloc _)) (HA2.o.ext (((Ext.refl _).alloc _).alloc _)) (HB2.o.ext (((Ext.refl _).alloc _).alloc _))).mono ?_;rintro e w1 ⟨rfl,hx1⟩)
 go_ret;exact⟨rfl,(((Ext.refl _).alloc _).alloc _).t hx1⟩
theorem jsq (t:GX) (v:Value) (l:Int) (w:World) (hl:0<=l/\l<=1048576) {S:Nat->Prop} (hv:TxnR S w v t) :
  Calls Tryz.prog 18 #[v,.int .i64 l] w fun e w'=>e=.returned (.int .i64 (purse l (wTxn t)))/\Ext w w':=by
 obtain⟨a,b,rfl,ha,hb⟩:=hv;obtain⟨A1,p1,rfl,hp1,hp1'⟩:=jaa.form ha;obtain⟨B1,q1,rfl,hq1,hq1'⟩:=jaa.form hb;have hw:=jbj (jku t.change _ _ l _ hl (ha.ext ((Ext.refl w).alloc (.cells #[.int .i64 t.from_,.slice A1 t.change.comes.length p1,.slice B1 t.change.goes.length q1] 46))) (hb.ext ((Ext.refl w).alloc (.cells #[.int .i64 t.from_,.slice A1 t.change.comes.length p1,.slice B1 t.change.goes.length q1] 46))));obtain⟨h0,h1⟩:=hl;clear ha hb;by_cases hq:l<wTxn t
 . have HP:=zh (jbf (l:=l) (n:=wTxn t) hq)
   have hw1:=zh (hw.1 hq);clear hw
   go_in;go_wp2_with (go_at_call 76;refine hw1.o.mono ?_;rintro e w1 ⟨rfl,hx1⟩)
   go_ret;exact⟨by rw[HP.o];rfl,((Ext.refl _).alloc _).t hx1⟩
 have HP:=zh (jcm (l:=l) (n:=wTxn t) (by omega));have hle:(jbp t.change:Int)<=l:=by have:¬ l<jbp t.change:=hq;omega
 have hw1:=zh (hw.2 hle);clear hw
 go_in;go_wp2_with (go_at_call 76;refine hw1.o.mono ?_;rintro e w1 ⟨rfl,hx1⟩)
 go_ret;exact⟨by rw[HP.o];rfl,((Ext.refl _).alloc _).t hx1⟩
theorem jsr (t:GX) (v:Value) (w:World) {S:Nat->Prop} (hv:TxnR S w v t) (hw:wTxn t<=1048576) :
  Calls Tryz.prog 21 #[v] w fun e w'=>(∃ u,e=.returned u/\TxnO (From w.heap.size) w' u t)/\Ext w w':=by
 obtain⟨a,b,rfl,ha,hb⟩:=hv;obtain⟨A1,p1,rfl,hp1,hp1'⟩:=jaa.form ha;obtain⟨B1,q1,rfl,hq1,hq1'⟩:=jaa.form hb;obtain⟨W0,hW0⟩:=nm (((w.alloc (.cells #[.int .i64 t.from_,.slice A1 t.change.comes.length p1,.slice B1 t.change.goes.length q1] 46)).alloc (.cells #[.int .i64 0,.slice none 0 0,.slice none 0 0] 52)).alloc (.cells #[.int .i64 0,.slice none 0 0,.slice none 0 0] 52));have hx0:Ext w W0:=by rw[hW0];exact (((Ext.refl _).alloc _).alloc _).alloc _
 have hR0:Blk W0 (w.heap.size+1) 52 #[.int .i64 0,.slice none 0 0,.slice none 0 0]:=by rw[hW0];exact (Blk.at_new (by simp)).alloc _
 have hO0:Blk W0 (w.heap.size+1+1) 52 #[.int .i64 0,.slice none 0 0,.slice none 0 0]:=by rw[hW0];exact Blk.at_new (by simp)
 have hs0:W0.heap.size=w.heap.size+3:=by rw[hW0];simp
 have hO1:Blk (W0.setCell ⟨w.heap.size+1+1,0,none⟩ (.int .i64 t.from_)) (w.heap.size+1+1) 52 #[.int .i64 t.from_,.slice none 0 0,.slice none 0 0]:=by simpa using hO0.set_ 0 (.int .i64 t.from_)
 have hR1:=hR0.far (p:=⟨w.heap.size+1+1,0,none⟩) (by simp) (.int .i64 t.from_);have hx1:Ext w (W0.setCell ⟨w.heap.size+1+1,0,none⟩ (.int .i64 t.from_)):=hx0.setNew (by simp;omega) _;have HA:=zh (ha.ext hx1);have HB:=zh (hb.ext hx1);have HR1:=zh hR1;have HO1:=zh hO1;have HS0:=zh (show (W0.setCell ⟨w.heap.size+1+1,0,none⟩ (.int .i64 t.from_)).heap.size=w.heap.size+3 from by rw[jee,hs0]);have HW0:=zh hW0;have HV1:=zh (show W0.setCell ⟨w.heap.size+1+1,0,none⟩ (.int .i64 t.from_)=((w.alloc (.cells #[.int .i64 t.from_,.slice A1 t.change.comes.length p1,.slice B1 t.change.goes.length q1] 46)).alloc (.cells #[.int .i64 0,.slice none 0 0,.slice none 0 0] 52)).alloc (.cells #[.int .i64 t.from_,.slice none 0 0,.slice none 0 0] 52) from by rw[hW0];go_simp);have HX1:=zh hx1;have HN:=zh hw;clear ha hb hx0 hx1 hR0 hO0 hO1 hR1 hs0 hw hW0
 go_in;go_wp2_with (fail)
 first|rw[<- HW0.o]|rw[<- HV1.o]
 refine (jkx t.change _ _ _ HA.o HB.o HN.o).mono ?_;rintro e w1 ⟨⟨v1,u1,rfl,hE⟩,hx1⟩;obtain⟨⟨D1,d1,rfl,he1,he2⟩,⟨D2,d2,rfl,he3,he4⟩⟩:=jbh.forms hE;have HE:=zh hE;have HY1:=zh (HX1.o.t hx1);have hR:=HR1.o.ext hx1;have hO:=HO1.o.ext hx1;have o0:=hO.cell 0;have o1:=hO.cell 1;have o2:=hO.cell 2;have f1:=hO.frozen 1;have f2:=hO.frozen 2;have r0:=hR.cell 0;have r1:=hR.cell 1;have r2:=hR.cell 2;have g0:=hR.frozen 0;have g1:=hR.frozen 1;have g2:=hR.frozen 2;have lO:=hO.lt;clear hE hx1 hR hO;go_wp2;refine bodyPost_ret (v:=.agg #[.int .i64 t.from_,.slice D1 t.change.comes.length d1,.slice D2 t.change.goes.length d2]) (by simp[results,Tryz.results21,go_sem,o0,o1,o2,r0,r1,r2]) rfl ⟨⟨_,rfl,?_⟩,?_⟩
 . refine ⟨_,_,rfl,jbh.imp HE.o (fun i hi _=>?_) ?_ ?_⟩
   . have h:w.heap.size+3<=i:=by have h2:=HS0.o;rw[<- h2];exact hi
     show w.heap.size<=i;omega
   . rw [HS0.o]
     exact (((((Agree.refl _ _).set (by simp) _).set (by simp) _).set (by simp) _).set (by simp) _).set (by simp) _
   go_size
 exact (((((HY1.o.setNew (by simp;omega) _).setNew (by simp;omega) _).setNew (by simp) _).setNew (by simp) _).setNew (by simp) _)
end Go.Proofs.YthiflhkcpanaaaaGreatDoor
namespace Go.Proofs.YthiflhkcpanaaaaGreatDoor
open Go Go.RowKit
def jfy {α:Type} (F:Fence) (n:Nat) (P:Program) (g:Nat) (lb:Array Value) (encs:α->Array Value) (Step:World->World->Prop) (E:World->World->α->Prop) (Kp:World->World->Prop) (S:List α->Prop) (N:Nat) (w:World):Prop :=
 ∀ (l:Nat) (J:List α->World->Prop) (W:World),Below w.heap.size w W->(∀ s A B,J s A->Step A B->J s B) ->
   (∀ pre x W0 W1,J pre W0->Step W0 W1->E W0 W1 x->pre.length<N->YieldAt F (n-1) P l (encs x) W1 fun e W'=>e=.returned (.bool true)/\J (pre++[x]) W'/\Kp W1 W') ->
   J [] W->CallsIn F n P g (#[.func (.yield l) #[] #[]]++lb) W fun e W'=>(∃ v,e=.returned v)/\∃ xs,S xs/\J xs W'
structure jcy (D:Nat) (A B:World):Prop where
 os:B.os=A.os
 tape:B.tape=A.tape
 output:B.output=A.output
 size:A.heap.size<=B.heap.size
 block:∀ b,b<A.heap.size->b≠D->b≠D+1->B.heap[b]? = A.heap[b]?
theorem jcy.putObj {D l:Nat} (W:World) (o:Obj) (hl:l=D∨l=D+1):jcy D W (W.putObj l o) :=
 ⟨rfl,rfl,rfl,by simp,fun b _ h1 h2=>World.putObj_heap_other (by omega)⟩
def j1j {α:Type} (Kp:World->World->Prop) (I:List α->World->Prop) (xs:List α) (W:World):Exit->Act->World->Prop
 | .normal,_,W'=>KeepsOthers W W'/\Kp W W'/\I xs W'
 | _,_,_=>False
variable {F:Fence} {n:Nat} {P:Program}
theorem jf6 {α:Type} {fo:Operand} {ps:Array Tmp} {assign body:Code} {Q:Exit->Act->World->Prop} {a:Act} {w:World}
  (hro:F.round=none) (h1:1<=n) {gf:Nat} {lb:Array Value} (hg:a.eval fo=.func (.func gf) #[] lb) (hFg:F.fn gf) (eg:∀ args w,(callFunc gf args).run P w=.ok (.enter gf args) w)
  {encs:α->Array Value} {Step Kp:World->World->Prop} {E:World->World->α->Prop} {S:List α->Prop} {N:Nat} {w0:World} (hseq:jfy F (n-1) P gf lb encs Step E Kp S N w0)
  (hSk:∀ (A B:World) (l:Nat) (o:Obj),Step A B->w.heap.size<=l->A.heap[l]? = some o->o.isCells=false->B.heap[l]? = some o)
  (hKt:∀ {A B C:World},Kp A B->Kp B C->Kp A C) (hKb:∀ (W:World) (l:Nat) (o o':Obj),w.heap.size<=l->W.heap[l]? = some o->o.isCells=false->o.isWalk=false->Kp W (W.putObj l o')) (hb0:Below w0.heap.size w0 w) (hps:∀ x,(encs x).size=ps.size)
  (I:List α->World->Prop) (hI:∀ s A B,I s A->jcy w.heap.size A B->I s B) (hIS:∀ s A B,I s A->Step A B->I s B) (h0:I [] w) (a₁:α->World->Act) (g:α->World->World) (hgs:∀ x W,KeepsOthers W (g x W)) (hgk:∀ x W,Kp W (g x W))
  (hassign:∀ (x:α) (W:World) (K:Act->World->Prop),K (a₁ x W) (g x W) ->
   assign.wpIn (F.inRound (w.heap.size+1)) (n-1-1) P (Exit.then K (fun _ _ _=>False)) { tmps:=(ps.zip (encs x)).foldl (fun t (p,v)=>t.setIfInBounds p v) a.tmps,defers:=[] } W)
  (hbody:∀ (pre:List α) (x:α) (W0 W1:World) (o':Obj),I pre W0->Step W0 W1->E W0 W1 x->pre.length<N->w.heap.size+1<W0.heap.size->w.heap.size+1<W1.heap.size->(∃ o:Obj,W1.heap[w.heap.size+1]? = some o/\o.isCells=false) ->
   body.wpIn (F.inRound (w.heap.size+1)) (n-1-1) P (j1j Kp I (pre++[x]) ((g x W1).putObj (w.heap.size+1) o')) (a₁ x W1) ((g x W1).putObj (w.heap.size+1) o'))
  (hdone:∀ (xs:List α) (W:World),S xs->I xs W->W.heap[w.heap.size]? = some (.deferred (some []))->Q .normal { a with defers:= { target:=.collected w.heap.size,args:= #[] } :: a.defers } W) :
  (Code.rangeFunc fo ps assign body).wpIn F n P Q a w:=by
 refine wpIn_rangeFunc ?_;intro fn hfn;rw[hro];obtain⟨D,hD⟩:=nm (w.heap.size);obtain⟨rec,hrec⟩:∃ rec:LoopState->Option Code->Loop,rec=fun st pe=> { state:=st,pending:=pe,fn,tmps:=a.tmps,params:=ps,assign,body,defers:=D }:=⟨_,rfl⟩
 obtain⟨W1,hW1⟩:∃ W1,(w.alloc (.deferred (some []))).alloc (.loop (rec .ready none))=W1:=⟨_,rfl⟩
 have hL1:W1.heap[D+1]? = some (.loop (rec .ready none)):=by
  have h:=World.alloc_heap_new (w.alloc (.deferred (some []))) (.loop (rec .ready none));rw[World.size_alloc,hW1,<- hD] at h;exact h
 have hK1:W1.heap[D]? = some (.deferred (some [])):=by
  rw[<- hW1,hD];exact (Below.heap_alloc _ _ _ (by simp)).trans (World.alloc_heap_new w _)
 have hI1:I [] W1:=by
  refine hI _ _ _ h0 ?_;rw[<- hW1];exact⟨rfl,rfl,rfl,by simp only[World.size_alloc];omega,fun b hb _ _=>(Below.heap_alloc _ _ b (by simp only[World.size_alloc];omega)).trans (Below.heap_alloc _ _ b hb)⟩
 have hb1:Below w0.heap.size w0 W1:=by
  rw[<- hW1];exact hb0.trans ((((Below.refl _ w).alloc (Nat.le_refl _) _).alloc (by simp) _).mono hb0.size)
 rw[<- hD] at hSk hKb hI hassign hbody hdone
 -- the three facts that go through every step
 let J:List α->World->Prop:=fun pre W=>I pre W/\W.heap[D+1]? = some (.loop (rec .ready none))/\W.heap[D]? = some (.deferred (some []))
 have hJ:∀ s A B,J s A->Step A B->J s B:=fun s A B h hs=>⟨hIS s A B h.1 hs,hSk A B _ _ hs (by omega) h.2.1 rfl,hSk A B _ _ hs (Nat.le_refl _) h.2.2 rfl⟩
 have round:∀ pre x W0 W2,J pre W0->Step W0 W2->E W0 W2 x->pre.length<N->YieldAt F (n-1-1) P (D+1) (encs x) W2 fun e W'=>e=.returned (.bool true)/\J (pre++[x]) W'/\Kp W2 W':=by
  intro pre x W0 W2 h0 hs he hlen;have hlt0:D+1<W0.heap.size:=(Array.getElem?_eq_some_iff.1 h0.2.1).1;obtain⟨_,hl,hk⟩:=hJ pre W0 W2 h0 hs;have hlt:D+1<W2.heap.size:=(Array.getElem?_eq_some_iff.1 hl).1;have hy:=run_yield (P:=P) (args:=encs x) hl (by rw[hrec];exact hps x);rw[hrec] at hy;have hlg:=(hgs x W2).same _ _ hl rfl;have hltg:D+1<(g x W2).heap.size:=(Array.getElem?_eq_some_iff.1 hlg).1;have hl2:((g x W2).putObj (D+1) (.loop { rec .ready none with state:=.busy })).heap[D+1]? = some (.loop { rec .ready none with state:=.busy }):=World.putObj_heap_same hltg;have hk2:((g x W2).putObj (D+1) (.loop { rec .ready none with state:=.busy })).heap[D]? = some (.deferred (some [])):=(World.putObj_heap_other (by omega)).trans ((hgs x W2).same _ _ hk rfl);refine⟨fn,_,assign,body,hy,roundIn_of_wpIn hfn (hassign x W2 _ ⟨_,run_beginRound hlg (by rw[hrec]),?_⟩)⟩;refine wpIn_mono (hbody pre x W0 W2 (.loop { rec .ready none with state:=.busy }) h0.1 hs he hlen hlt0 hlt ⟨_,hl,rfl⟩) ?_;intro e a3 W3 hp
  cases e with
  | normal =>
    obtain⟨hk3,hkp3,hi3⟩:=hp;have hl3:=hk3.same _ _ hl2 rfl;have hr:=run_endRound (P:=P) none hl3;rw[hrec] at hr;refine⟨_,_,hr,?_⟩;rw[hrec] at hl3;refine⟨rfl,⟨hI _ _ _ hi3 (jcy.putObj _ _ (.inr rfl)),?_,?_⟩,hKt (hKt (hKt (hgk x W2) (hKb _ _ _ _ (by omega) hlg rfl rfl)) hkp3) (hKb _ _ _ _ (by omega) hl3 rfl rfl)⟩
    . rw[World.putObj_heap_same (Array.getElem?_eq_some_iff.1 hl3).1,hrec];rfl
    . exact (World.putObj_heap_other (by omega)).trans (hk3.same _ _ hk2 rfl)
  | ret=>exact hp.elim
  | exit id=>exact hp.elim
  | goto t=>exact hp.elim
  | panic ch=>exact hp.elim
  | outgrown=>exact hp.elim
 refine⟨D+1,[{ target:=.collected D,args:= #[] }],W1,{ target:=.fn (.func gf) lb,args:= #[.func (.yield (D+1)) #[] #[]] },W1,gf,#[.func (.yield (D+1)) #[] #[]]++lb,W1,?_,?_,?_,?_,fun _=>h1,?_⟩
 . rw[<- hW1,hrec,hD];exact run_enterLoop_outer _ _ _ _ _
 . simp only [resolve,hg]
   simp[go_sem]
 . intro f' hf';simp[Target.leads] at hf';subst hf';exact hFg
 . simp[invoke,go_sem,eg]
 refine (hseq (D+1) J W1 hb1 hJ round ⟨hI1,hL1,hK1⟩).mono ?_;rintro e W2 ⟨⟨v,rfl⟩,xs,hS,hi,hl,hk⟩;have hend:=run_endLoop (P:=P) hl (by rw[hrec];simp);rw[hrec] at hend;exact⟨none,_,hend,hdone xs _ hS (hI _ _ _ hi (jcy.putObj _ _ (.inr rfl))) ((World.putObj_heap_other (by omega)).trans hk)⟩
end Go.Proofs.YthiflhkcpanaaaaGreatDoor
namespace Go.Proofs.YthiflhkcpanaaaaGreatDoor
open Go Go.RowKit
def jss {α:Type} (F:Fence) (n:Nat) (P:Program) (g:Nat) (lb:Array Value) (encs:α->Array Value) (Step:World->World->Prop) (E:List α->α->Prop) (Kp:World->World->Prop) (S Sp:List α->Prop) (w:World):Prop :=
 ∀ (l:Nat) (J Jx:List α->World->Prop) (W:World),Below w.heap.size w W->(∀ s A B,J s A->Step A B->J s B) ->
   (∀ pre x W0 W1,J pre W0->Step W0 W1->E pre x->YieldAt F (n-1) P l (encs x) W1 fun e W'=>(e=.returned (.bool true)/\J (pre++[x]) W'/\Kp W1 W')∨(e=.returned (.bool false)/\Jx (pre++[x]) W')) ->
   J [] W->CallsIn F n P g (#[.func (.yield l) #[] #[]]++lb) W fun e W'=>(∃ v,e=.returned v)/\((∃ xs,S xs/\J xs W')∨(∃ pre,Sp pre/\Jx pre W'))
def jz5 {α:Type} (Kp:World->World->Prop) (I Ix:List α->World->Prop) (xs:List α) (W:World):Exit->Act->World->Prop
 | .normal,_,W'=>KeepsOthers W W'/\Kp W W'/\I xs W'
 | .ret,_,W'=>KeepsOthers W W'/\Ix xs W'
 | _,_,_=>False
variable {F:Fence} {n:Nat} {P:Program}
theorem jj6 {α:Type} {fo:Operand} {ps:Array Tmp} {assign body:Code} {Q:Exit->Act->World->Prop} {a:Act} {w:World}
  (hro:F.round=none) (h1:1<=n) {gf:Nat} {lb:Array Value} (hg:a.eval fo=.func (.func gf) #[] lb) (hFg:F.fn gf) (eg:∀ args w,(callFunc gf args).run P w=.ok (.enter gf args) w)
  {encs:α->Array Value} {Step Kp:World->World->Prop} {E:List α->α->Prop} {S Sp:List α->Prop} {w0:World} (hseq:jss F (n-1) P gf lb encs Step E Kp S Sp w0)
  (hSk:∀ (A B:World) (l:Nat) (o:Obj),Step A B->w.heap.size<=l->A.heap[l]? = some o->o.isCells=false->B.heap[l]? = some o)
  (hKt:∀ {A B C:World},Kp A B->Kp B C->Kp A C) (hKb:∀ (W:World) (l:Nat) (o o':Obj),w.heap.size<=l->W.heap[l]? = some o->o.isCells=false->o.isWalk=false->Kp W (W.putObj l o')) (hb0:Below w0.heap.size w0 w) (hps:∀ x,(encs x).size=ps.size)
  (I Ix:List α->World->Prop) (hI:∀ s A B,I s A->jcy w.heap.size A B->I s B) (hIx:∀ s A B,Ix s A->jcy w.heap.size A B->Ix s B) (hIS:∀ s A B,I s A->Step A B->I s B) (h0:I [] w) (a₁:α->World->Act) (g:α->World->World) (hgs:∀ x W,KeepsOthers W (g x W)) (hgk:∀ x W,Kp W (g x W))
  (hassign:∀ (x:α) (W:World) (K:Act->World->Prop),K (a₁ x W) (g x W) ->
   assign.wpIn (F.inRound (w.heap.size+1)) (n-1-1) P (Exit.then K (fun _ _ _=>False)) { tmps:=(ps.zip (encs x)).foldl (fun t (p,v)=>t.setIfInBounds p v) a.tmps,defers:=[] } W)
  (hbody:∀ (pre:List α) (x:α) (W0 W1:World) (o':Obj),o'.isCells=false->I pre W0->Step W0 W1->E pre x->w.heap.size+1<W0.heap.size->w.heap.size+1<W1.heap.size->(∃ o:Obj,W1.heap[w.heap.size+1]? = some o/\o.isCells=false)->(∃ o:Obj,W1.heap[w.heap.size]? = some o/\o.isCells=false) ->
   body.wpIn (F.inRound (w.heap.size+1)) (n-1-1) P (jz5 Kp I Ix (pre++[x]) ((g x W1).putObj (w.heap.size+1) o')) (a₁ x W1) ((g x W1).putObj (w.heap.size+1) o'))
  (hdone:∀ (xs:List α) (W:World),S xs->I xs W->W.heap[w.heap.size]? = some (.deferred (some []))->Q .normal { a with defers:= { target:=.collected w.heap.size,args:= #[] } :: a.defers } W)
  (hstop:∀ (pre:List α) (W:World),Sp pre->Ix pre W->W.heap[w.heap.size]? = some (.deferred (some []))->Code.ret.wpIn F n P Q { a with defers:= { target:=.collected w.heap.size,args:= #[] } :: a.defers } W) :
  (Code.rangeFunc fo ps assign body).wpIn F n P Q a w:=by
 refine wpIn_rangeFunc ?_;intro fn hfn;rw[hro];obtain⟨D,hD⟩:=nm (w.heap.size);obtain⟨rec,hrec⟩:∃ rec:LoopState->Option Code->Loop,rec=fun st pe=> { state:=st,pending:=pe,fn,tmps:=a.tmps,params:=ps,assign,body,defers:=D }:=⟨_,rfl⟩
 obtain⟨W1,hW1⟩:∃ W1,(w.alloc (.deferred (some []))).alloc (.loop (rec .ready none))=W1:=⟨_,rfl⟩
 have hL1:W1.heap[D+1]? = some (.loop (rec .ready none)):=by
  have h:=World.alloc_heap_new (w.alloc (.deferred (some []))) (.loop (rec .ready none));rw[World.size_alloc,hW1,<- hD] at h;exact h
 have hK1:W1.heap[D]? = some (.deferred (some [])):=by
  rw[<- hW1,hD];exact (Below.heap_alloc _ _ _ (by simp)).trans (World.alloc_heap_new w _)
 have hI1:I [] W1:=by
  refine hI _ _ _ h0 ?_;rw[<- hW1];exact⟨rfl,rfl,rfl,by simp only[World.size_alloc];omega,fun b hb _ _=>(Below.heap_alloc _ _ b (by simp only[World.size_alloc];omega)).trans (Below.heap_alloc _ _ b hb)⟩
 have hb1:Below w0.heap.size w0 W1:=by
  rw[<- hW1];exact hb0.trans ((((Below.refl _ w).alloc (Nat.le_refl _) _).alloc (by simp) _).mono hb0.size)
 rw[<- hD] at hSk hKb hI hIx hassign hbody hdone hstop
 -- the three facts that go through every step
 let J:List α->World->Prop:=fun pre W=>I pre W/\W.heap[D+1]? = some (.loop (rec .ready none))/\W.heap[D]? = some (.deferred (some []))
 have hJ:∀ s A B,J s A->Step A B->J s B:=fun s A B h hs=>⟨hIS s A B h.1 hs,hSk A B _ _ hs (by omega) h.2.1 rfl,hSk A B _ _ hs (Nat.le_refl _) h.2.2 rfl⟩
 let Jx:List α->World->Prop:=fun pre W=>Ix pre W/\W.heap[D+1]? = some (.loop (rec .done (some .ret)))/\W.heap[D]? = some (.deferred (some []))
 have round:∀ pre x W0 W2,J pre W0->Step W0 W2->E pre x->YieldAt F (n-1-1) P (D+1) (encs x) W2 fun e W'=>(e=.returned (.bool true)/\J (pre++[x]) W'/\Kp W2 W')∨(e=.returned (.bool false)/\Jx (pre++[x]) W'):=by
  intro pre x W0 W2 h0 hs he;have hlt0:D+1<W0.heap.size:=(Array.getElem?_eq_some_iff.1 h0.2.1).1;obtain⟨_,hl,hk⟩:=hJ pre W0 W2 h0 hs;have hlt:D+1<W2.heap.size:=(Array.getElem?_eq_some_iff.1 hl).1;have hy:=run_yield (P:=P) (args:=encs x) hl (by rw[hrec];exact hps x);rw[hrec] at hy;have hlg:=(hgs x W2).same _ _ hl rfl;have hltg:D+1<(g x W2).heap.size:=(Array.getElem?_eq_some_iff.1 hlg).1;have hl2:((g x W2).putObj (D+1) (.loop { rec .ready none with state:=.busy })).heap[D+1]? = some (.loop { rec .ready none with state:=.busy }):=World.putObj_heap_same hltg;have hk2:((g x W2).putObj (D+1) (.loop { rec .ready none with state:=.busy })).heap[D]? = some (.deferred (some [])):=(World.putObj_heap_other (by omega)).trans ((hgs x W2).same _ _ hk rfl);refine⟨fn,_,assign,body,hy,roundIn_of_wpIn hfn (hassign x W2 _ ⟨_,run_beginRound hlg (by rw[hrec]),?_⟩)⟩;refine wpIn_mono (hbody pre x W0 W2 (.loop { rec .ready none with state:=.busy }) rfl h0.1 hs he hlt0 hlt ⟨_,hl,rfl⟩ ⟨_,hk,rfl⟩) ?_;intro e a3 W3 hp
  cases e with
  | normal =>
    obtain⟨hk3,hkp3,hi3⟩:=hp;have hl3:=hk3.same _ _ hl2 rfl;have hr:=run_endRound (P:=P) none hl3;rw[hrec] at hr;refine⟨_,_,hr,?_⟩;rw[hrec] at hl3;refine .inl ⟨rfl,⟨hI _ _ _ hi3 (jcy.putObj _ _ (.inr rfl)),?_,?_⟩,hKt (hKt (hKt (hgk x W2) (hKb _ _ _ _ (by omega) hlg rfl rfl)) hkp3) (hKb _ _ _ _ (by omega) hl3 rfl rfl)⟩
    . rw[World.putObj_heap_same (Array.getElem?_eq_some_iff.1 hl3).1,hrec];rfl
    . exact (World.putObj_heap_other (by omega)).trans (hk3.same _ _ hk2 rfl)
  | ret =>
    obtain⟨hk3,hi3⟩:=hp;have hl3:=hk3.same _ _ hl2 rfl;have hr:=run_endRound (P:=P) (some .ret) hl3;rw[hrec] at hr;refine⟨_,_,hr,?_⟩;rw[hrec] at hl3;refine .inr ⟨rfl,hIx _ _ _ hi3 (jcy.putObj _ _ (.inr rfl)),?_,?_⟩
    . rw[World.putObj_heap_same (Array.getElem?_eq_some_iff.1 hl3).1,hrec];rfl
    . exact (World.putObj_heap_other (by omega)).trans (hk3.same _ _ hk2 rfl)
  | exit id=>exact hp.elim
  | goto t=>exact hp.elim
  | panic ch=>exact hp.elim
  | outgrown=>exact hp.elim
 refine⟨D+1,[{ target:=.collected D,args:= #[] }],W1,{ target:=.fn (.func gf) lb,args:= #[.func (.yield (D+1)) #[] #[]] },W1,gf,#[.func (.yield (D+1)) #[] #[]]++lb,W1,?_,?_,?_,?_,fun _=>h1,?_⟩
 . rw[<- hW1,hrec,hD];exact run_enterLoop_outer _ _ _ _ _
 . simp only [resolve,hg]
   simp[go_sem]
 . intro f' hf';simp[Target.leads] at hf';subst hf';exact hFg
 . simp[invoke,go_sem,eg]
 refine (hseq (D+1) J Jx W1 hb1 hJ round ⟨hI1,hL1,hK1⟩).mono ?_;rintro e W2 ⟨⟨v,rfl⟩,(⟨xs,hS,hi,hl,hk⟩|⟨pre,hSp,hi,hl,hk⟩)⟩
 . have hend:=run_endLoop (P:=P) hl (by rw[hrec];simp)
   rw[hrec] at hend;exact⟨none,_,hend,hdone xs _ hS (hI _ _ _ hi (jcy.putObj _ _ (.inr rfl))) ((World.putObj_heap_other (by omega)).trans hk)⟩
 have hend:=run_endLoop (P:=P) hl (by rw[hrec];simp);rw[hrec] at hend;exact⟨some .ret,_,hend,hstop pre _ hSp (hIx _ _ _ hi (jcy.putObj _ _ (.inr rfl))) ((World.putObj_heap_other (by omega)).trans hk)⟩
end Go.Proofs.YthiflhkcpanaaaaGreatDoor
namespace Go.Proofs.YthiflhkcpanaaaaGreatDoor
open Go.RowKit Go.Shelf
attribute [local go_sem] Oper.semAt_some
theorem jky (n:Nat) (hn:1<=n) (B1 B2:Nat) (R:Nat->Prop) (w:World) (s1 s2:Value) (ps qs:List P2)
  (hB1:R B1) (hB2:R B2) (c10:w.cell? ⟨B1,0,none⟩=some s1) (c11:w.cell? ⟨B1,1,none⟩=some (.func (.func 194) #[] #[]))
  (c20:w.cell? ⟨B2,0,none⟩=some s2) (h1:jdo R w s1 ps) (h2:jdo R w s2 qs) :
  jfy Fence.wide n Tryz.prog 195 #[.pointer (some ⟨B1,0,none⟩),.pointer (some ⟨B2,0,none⟩)] encME (fun A B=>Ext A B) (fun _ _ x=>x∈jah ps qs) (KeepR R) (fun L=>L=jah ps qs) (jah ps qs).length w:=by
 intro l J W hW hJ hY h0;obtain⟨A1,d1,rfl,hd1,hd1'⟩:=jaa.form h1;obtain⟨A2,d2,rfl,hd2,hd2'⟩:=jaa.form h2;have hw0:KeepR R w W:=.of_ext hW;have HY:=zh hY;have HJ:=zh hJ;have H1:=zh h1;have H2:=zh h2;have HB1:=zh hB1;have HB2:=zh hB2;have C10:=zh c10;have C11:=zh c11;have C20:=zh c20;clear hY hJ h1 h2 c10 c11 c20 hW hB1 hB2;refine callsIn_of_wp Tryz.func195 rfl trivial ?_ rfl;simp only[Tryz.ntmps195,List.size_toArray,List.length_cons,List.length_nil,Nat.reduceAdd,Nat.reduceSub,Array.replicate_succ,Array.replicate_zero,List.push_toArray,List.append_toArray,List.nil_append,List.cons_append]
 gi_wp2
 gi_loopw [4,5] (fun i j wr=>∃ (a b:Nat) (pre:List ME),(a<=ps.length/\b<=qs.length)/\i=.int .i64 a/\j=.int .i64 b/\J1 (jah ps qs=pre++jah (ps.drop a) (qs.drop b))/\J pre wr/\KeepR R w wr) (fun i j _=>(ps.length-(intOf i).toNat)+(qs.length-(intOf j).toNat))
 case atStart=>exact⟨0,0,[],⟨Nat.zero_le _,Nat.zero_le _⟩,rfl,rfl,rfl,h0,hw0⟩
 case round =>
  obtain⟨a,b,pre,⟨ha,hb⟩,rfl,rfl,hm,hJs,hk⟩:=hrel;have e10:=hk.cell HB1.o C10.o;have e11:=hk.cell HB1.o C11.o;have e20:=hk.cell HB2.o C20.o;have hl1:=jcc e10;have hl2:=jcc e20;have hga:¬ a<ps.length->ps.drop a=[]:=fun h=>List.drop_eq_nil_of_le (by omega)
  have hgb:¬ b<qs.length->qs.drop b=[]:=fun h=>List.drop_eq_nil_of_le (by omega)
  have HGA:=zh hga;have HGB:=zh hgb;clear hga hgb;by_cases h1:a<ps.length
  . obtain ⟨ba,offa,x,rfl,hba,hxk,hxs,htx,hx0,hx1⟩:=jdo.at_ (H1.o.imp (fun _ h=>h) hk.2 hk.1) h1
    have HDX:=zh (jbq hxk);have HTX:=zh htx;have t1:decide (a<ps.length)=true:=decide_eq_true h1;have t2:(((a:Nat):Int) == ((ps.length:Nat):Int))=false:=by rw[beq_eq_false_iff_ne];omega
    have hi0:(0:Int)<=(a:Int):=Int.natCast_nonneg _;have hi1:(a:Int)<(ps.length:Int):=by omega
    clear hxk htx;by_cases h2:b<qs.length
    . obtain ⟨bb,offb,y,rfl,hbb,hyk,hys,hty,hy0,hy1⟩:=jdo.at_ (H2.o.imp (fun _ h=>h) hk.2 hk.1) h2
      have HDY:=zh (jbq hyk);have HTY:=zh hty;have t3:decide (b<qs.length)=true:=decide_eq_true h2;have t4:(((b:Nat):Int) == ((qs.length:Nat):Int))=false:=by rw[beq_eq_false_iff_ne];omega
      have hj0:(0:Int)<=(b:Int):=Int.natCast_nonneg _;have hj1:(b:Int)<(qs.length:Int):=by omega
      have HC:=zh (fun (W:World) (h:Ext wr W)=>jlv x.1 y.1 x.2 y.2 W (HTX.o.ext h) (HTY.o.ext h));clear hyk hty
      gi_wp2
      refine wpIn_wide.2 (jaw (by kernel_rfl) (by kernel_rfl) ?_);repeat (go_big_quiet_step ((go_at_call 194;exact jbk (HC.o _ (Later.ext _)))))
      refine wpQuiet_nil ?_;rintro w1 ⟨⟨_,hx⟩,rfl⟩;have hJ1:J pre w1:=HJ.o _ _ _ hJs hx;have hk1:KeepR R w w1:=hk.trans (.of_ext hx);have hz:=hx.size;have hl1':B1<w1.heap.size:=by omega
      have hl2':B2<w1.heap.size:=by omega
      have hba':ba<w1.heap.size:=by omega
      have hbb':bb<w1.heap.size:=by omega
      have f10:=(KeepR.of_ext (R:=Any) hx).cell trivial e10;have f20:=(KeepR.of_ext (R:=Any) hx).cell trivial e20;have fx0:=(KeepR.of_ext (R:=Any) hx).cell trivial hx0;have fx1:=(KeepR.of_ext (R:=Any) hx).cell trivial hx1;have fy0:=(KeepR.of_ext (R:=Any) hx).cell trivial hy0;have fy1:=(KeepR.of_ext (R:=Any) hx).cell trivial hy1;clear hz e10 e11 e20 hx0 hx1 hy0 hy1 hl1 hl2 hba hbb hJs hx HC;rcases Int.lt_trichotomy (cmpA x.1 y.1) 0 with hc|hc|hc
      . have HM:=zh (show jah ps qs=pre++(⟨x.1,x.2,0⟩ :: jah (ps.drop (a+1)) (qs.drop b)) from by rw[hm.o,HDX.o,HDY.o,jia _ _ hc])
        have HM2:=zh (show jah ps qs=(pre++[(⟨x.1,x.2,0⟩:ME)])++jah (ps.drop (a+1)) (qs.drop b) from by rw[HM.o,List.append_assoc];rfl);obtain⟨fn,tmps,assign,body,hy,hR⟩:=HY.o pre (⟨x.1,x.2,0⟩:ME) w1 w1 hJ1 (Ext.refl _) (by rw[HM.o];simp) (by rw[HM.o];simp);dsimp only[encME] at hy;have HR:=zh hR;clear hR
        gi_wp2
        refine HR.o.mono ?_;rintro e W3 ⟨rfl,hJ3,hk3⟩
        . gi_wp2
          go_roundw
          case rel=>exact⟨(a+1),b,pre++[_],⟨by omega,by omega⟩,by go_num,rfl,HM2,hJ3,hk1.trans hk3⟩
          case measure=>simp[intOf];omega
      . have HM:=zh (show jah ps qs=pre++(⟨x.1,x.2,2⟩ :: jah (ps.drop (a+1)) (qs.drop (b+1))) from by rw[hm.o,HDX.o,HDY.o,jic _ _ hc])
        have hc1:¬ cmpA x.1 y.1<0:=by omega
        have hc2:¬ 0<cmpA x.1 y.1:=by omega
        clear hc;have HM2:=zh (show jah ps qs=(pre++[(⟨x.1,x.2,2⟩:ME)])++jah (ps.drop (a+1)) (qs.drop (b+1)) from by rw[HM.o,List.append_assoc];rfl);obtain⟨fn,tmps,assign,body,hy,hR⟩:=HY.o pre (⟨x.1,x.2,2⟩:ME) w1 w1 hJ1 (Ext.refl _) (by rw[HM.o];simp) (by rw[HM.o];simp);dsimp only[encME] at hy;have HR:=zh hR;clear hR
        gi_wp2
        refine HR.o.mono ?_;rintro e W3 ⟨rfl,hJ3,hk3⟩
        . gi_wp2
          go_roundw
          case rel=>exact⟨(a+1),(b+1),pre++[_],⟨by omega,by omega⟩,by go_num,by go_num,HM2,hJ3,hk1.trans hk3⟩
          case measure=>simp[intOf];omega
      have HM:=zh (show jah ps qs=pre++(⟨y.1,y.2,1⟩ :: jah (ps.drop a) (qs.drop (b+1))) from by rw[hm.o,HDX.o,HDY.o,jib _ _ hc]);have HM2:=zh (show jah ps qs=(pre++[(⟨y.1,y.2,1⟩:ME)])++jah (ps.drop a) (qs.drop (b+1)) from by rw[HM.o,List.append_assoc];rfl);obtain⟨fn,tmps,assign,body,hy,hR⟩:=HY.o pre (⟨y.1,y.2,1⟩:ME) w1 w1 hJ1 (Ext.refl _) (by rw[HM.o];simp) (by rw[HM.o];simp);dsimp only[encME] at hy;have HR:=zh hR;clear hR
      gi_wp2
      refine HR.o.mono ?_;rintro e W3 ⟨rfl,hJ3,hk3⟩
      . gi_wp2
        go_roundw
        case rel=>exact⟨a,(b+1),pre++[_],⟨by omega,by omega⟩,rfl,by go_num,HM2,hJ3,hk1.trans hk3⟩
        case measure=>simp[intOf];omega
    have HM:=zh (show jah ps qs=pre++(⟨x.1,x.2,0⟩ :: jah (ps.drop (a+1)) (qs.drop b)) from by rw[hm.o,HGB.o h2,HDX.o,jhn]);have t3:decide (b<qs.length)=false:=decide_eq_false h2;have t4:(((b:Nat):Int) == ((qs.length:Nat):Int))=true:=by rw[beq_iff_eq];omega
    have HM2:=zh (show jah ps qs=(pre++[(⟨x.1,x.2,0⟩:ME)])++jah (ps.drop (a+1)) (qs.drop b) from by rw[HM.o,List.append_assoc];rfl);obtain⟨fn,tmps,assign,body,hy,hR⟩:=HY.o pre (⟨x.1,x.2,0⟩:ME) wr wr hJs (Ext.refl _) (by rw[HM.o];simp) (by rw[HM.o];simp);dsimp only[encME] at hy;have HR:=zh hR;clear hR
    gi_wp2
    refine HR.o.mono ?_;rintro e W3 ⟨rfl,hJ3,hk3⟩
    . gi_wp2
      go_roundw
      case rel=>exact⟨(a+1),b,pre++[_],⟨by omega,by omega⟩,by go_num,rfl,HM2,hJ3,hk.trans hk3⟩
      case measure=>simp[intOf];omega
  have t1:decide (a<ps.length)=false:=decide_eq_false h1;have t2:(((a:Nat):Int) == ((ps.length:Nat):Int))=true:=by rw[beq_iff_eq];omega
  by_cases h2:b<qs.length
  . obtain ⟨bb,offb,y,rfl,hbb,hyk,hys,hty,hy0,hy1⟩:=jdo.at_ (H2.o.imp (fun _ h=>h) hk.2 hk.1) h2
    have HM:=zh (show jah ps qs=pre++(⟨y.1,y.2,1⟩ :: jah (ps.drop a) (qs.drop (b+1))) from by rw[hm.o,HGA.o h1,jbq hyk,jgk]);have t3:decide (b<qs.length)=true:=decide_eq_true h2;have hj0:(0:Int)<=(b:Int):=Int.natCast_nonneg _;have hj1:(b:Int)<(qs.length:Int):=by omega
    clear hyk hty;have HM2:=zh (show jah ps qs=(pre++[(⟨y.1,y.2,1⟩:ME)])++jah (ps.drop a) (qs.drop (b+1)) from by rw[HM.o,List.append_assoc];rfl);obtain⟨fn,tmps,assign,body,hy,hR⟩:=HY.o pre (⟨y.1,y.2,1⟩:ME) wr wr hJs (Ext.refl _) (by rw[HM.o];simp) (by rw[HM.o];simp);dsimp only[encME] at hy;have HR:=zh hR;clear hR
    gi_wp2
    refine HR.o.mono ?_;rintro e W3 ⟨rfl,hJ3,hk3⟩
    . gi_wp2
      go_roundw
      case rel=>exact⟨a,(b+1),pre++[_],⟨by omega,by omega⟩,rfl,by go_num,HM2,hJ3,hk.trans hk3⟩
      case measure=>simp[intOf];omega
  have HM:=zh (show jah ps qs=pre from by rw[hm.o,HGA.o h1,HGB.o h2,ji9,List.append_nil]);have t3:decide (b<qs.length)=false:=decide_eq_false h2
  gi_wp2
  go_end0
  exact⟨⟨_,rfl⟩,_,HM.o.symm,hJs⟩
structure BE where
 i:Nat
 x:GC
 A:Option Addr
 an:Nat
 ac:Nat
 B:Option Addr
 bn:Nat
 bc:Nat
def encBE (e:BE):Array Value:= #[.int .i64 (e.i:Int),.agg #[.slice e.A e.an e.ac,.slice e.B e.bn e.bc]]
def BackE (R:Nat->Prop) (w:World) (gs:List GC) (pre:List BE) (e:BE):Prop :=
 e.i+1+pre.length=gs.length/\gs[e.i]? = some e.x/\jab R w (.slice e.A e.an e.ac) e.x.comes/\jab R w (.slice e.B e.bn e.bc) e.x.goes
theorem jan.atS {S:Nat->Prop} {w:World} {A:Option Addr} {n c:Nat} {xs:List GC} (h:jan S w (.slice A n c) xs) {k:Nat} (hk:k<n) :
  ∃ (b off:Nat) (x:GC) (v u:Value),A=some ⟨b,off,none⟩/\b<w.heap.size/\S b/\xs[k]? = some x/\jab S w v x.comes/\jab S w u x.goes /\
    w.cell? ⟨b,off+k*2,none⟩=some v/\w.cell? ⟨b,off+k*2+1,none⟩=some u:=by
 obtain⟨A',c',hv,h1,h2,h3⟩:=h;injection hv with hA hn hc
 subst hA;subst hn;obtain⟨b,off,ha,hb,hs,hcell⟩:=h3 (by omega);obtain⟨cs,hl,hcs,v,u,rfl,hE1,hE2⟩:=hcell k xs[k] (List.getElem?_eq_getElem hk);exact⟨b,off,xs[k],v,u,ha,hb,hs,List.getElem?_eq_getElem hk,hE1,hE2,hcs 0 _ rfl,hcs 1 _ rfl⟩
theorem jst (v:Value) (w:World) (A:Option Addr) (n c:Nat) (hv:v=.slice A n c) :
  Calls Tryz.prog 63 #[v] w fun e w' =>
   e=.returned (.func (.func 129) #[] #[.pointer (some ⟨w.heap.size,0,none⟩)])/\w'=w.alloc (.cells #[v] 25):=by
 subst hv
 go_in;go_wp2;go_ret;exact⟨rfl,rfl⟩
theorem jm2 (n:Nat) (hn:1<=n) (pb:Nat) (R:Nat->Prop) (w:World) (A:Option Addr) (c:Nat) (gs:List GC) (hB:R pb) (c0:w.cell? ⟨pb,0,none⟩=some (.slice A gs.length c)) (h1:jan R w (.slice A gs.length c) gs) :
  jss Fence.wide n Tryz.prog 129 #[.pointer (some ⟨pb,0,none⟩)] encBE (fun A B=>Ext A B) (BackE R w gs) (KeepR R) (fun L=>L.length=gs.length) (fun _=>True) w:=by
 intro l J Jx W hW hJ hY h0
 have hgl:gs.length<=9223372036854775807:=by
  obtain⟨A',c',hv,k1,k2,_⟩:=id h1;unfold maxLen at k2;omega
 have hww:wrap64 ((gs.length:Int)-1)=(gs.length:Int)-1:=IntWalk.wrap64_in _ (by omega);have hw0:KeepR R w W:=.of_ext hW;have HY:=zh hY;have HJ:=zh hJ;have H1:=zh h1;have HB:=zh hB;have C0:=zh c0;have e0:=hw0.cell hB c0;have hl0:=jcc e0;clear hY hJ h1 c0 hW hB;refine callsIn_of_wp Tryz.func129 rfl trivial ?_ rfl;simp only[Tryz.ntmps129,List.size_toArray,List.length_cons,List.length_nil,Nat.reduceAdd,Nat.reduceSub,Array.replicate_succ,Array.replicate_zero,List.push_toArray,List.append_toArray,List.nil_append,List.cons_append]
 gi_wp2
 gi_loopw [3] (fun i wr=>∃ pre:List BE,pre.length<=gs.length/\i=.int .i64 ((gs.length:Int)-1-pre.length)/\J pre wr/\KeepR R w wr) (fun i _=>(intOf i+1).toNat)
 case atStart=>exact⟨[],Nat.zero_le _,by simp,h0,hw0⟩
 case round =>
  obtain⟨pre,hp,rfl,hJs,hk⟩:=hrel;have e10:=hk.cell HB.o C0.o;have hl1:=jcc e10;by_cases hlt:pre.length<gs.length
  . obtain ⟨k,hk1⟩:∃ k,k+1+pre.length=gs.length:=⟨gs.length-1-pre.length,by omega⟩
    have hkl:k<gs.length:=by omega
    have hki:(gs.length:Int)-1-pre.length=(k:Int):=by omega
    have hk0:(0:Int)<=(k:Int):=by omega
    have hk2:(k:Int)<(gs.length:Int):=by omega
    obtain⟨b,off,x,v,u,rfl,hb,hRb,hxk,hv,hu,hp0,hp1⟩:=jan.atS H1.o hkl;obtain⟨VA,va,rfl,_,_⟩:=jaa.form hv;obtain⟨UA,ua,rfl,_,_⟩:=jaa.form hu;have q0:=hk.cell hRb hp0;have q1:=hk.cell hRb hp1;have hb':=jcc q0;obtain⟨fn,tmps,assign,body,hy,hR⟩:=HY.o pre (⟨k,x,VA,x.comes.length,va,UA,x.goes.length,ua⟩:BE) wr wr hJs (Ext.refl _) ⟨hk1,hxk,hv,hu⟩;dsimp only[encBE] at hy;have HR:=zh hR;clear hR hv hu hxk hp0 hp1;rw[hki];have hwk:wrap64 ((k:Int)-1)=(k:Int)-1:=IntWalk.wrap64_in _ (by omega)
    gi_wp2
    refine HR.o.mono ?_;rintro e W3 (⟨rfl,hJ3,hk3⟩|⟨rfl,hJx3⟩)
    . gi_wp2
      go_roundw
      case rel=>exact⟨pre++[_],by simp;omega,by simp only[List.length_append,List.length_cons,List.length_nil];go_num,hJ3,hk.trans hk3⟩
      case measure=>first|(simp[intOf];done)|(simp[intOf];omega)
    gi_wp2
    refine bodyPost_ret (results_none rfl _ _ _) rfl ?_;exact⟨⟨_,rfl⟩,.inr ⟨pre++[_],trivial,hJx3⟩⟩
  have hpl:pre.length=gs.length:=by omega
  have hki:(gs.length:Int)-1-pre.length = -1:=by omega
  rw[hki]
  gi_wp2
  go_end0
  exact⟨⟨_,rfl⟩,.inl ⟨pre,hpl,hJs⟩⟩
end Go.Proofs.YthiflhkcpanaaaaGreatDoor
