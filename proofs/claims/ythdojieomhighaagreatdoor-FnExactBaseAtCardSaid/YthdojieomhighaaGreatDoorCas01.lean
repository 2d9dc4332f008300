/- Own texts, joined. -/
import Derived.RangeFuncNested
import Derived.RangeFuncBound
import Derived.RangeFuncCalls
import Derived.RangeFuncLeaves
import Derived.RangeFuncWrites
import Derived.WalkKit
import Derived.WalkSpells
import Derived.Lib.Hide
import Derived.Deep.Draws
import Derived.Handy
import Derived.Lib.Strings
import Derived.Lib.Bytealg
import Derived.Test.YthdojieomhighaaGreatDoorRows
import Derived.StillTailTactics
import Derived.BigQuiet
import Derived.OrdersHeld
set_option linter.unusedSimpArgs false
set_option linter.unusedVariables false
set_option maxHeartbeats 1000000
set_option maxRecDepth 100000
namespace Go.Proofs.YthdojieomhighaaGreatDoor
open Go Go.RowKit
def jfh {α:Type} (F:Fence) (n:Nat) (P:Program) (g:Nat) (lb:Array Value) (encs:α→Array Value) (Step:World→World→Prop) (E:World→World→α→Prop) (Kp:World→World→Prop) (S:List α→Prop) (N:Nat) (w:World):Prop :=
 ∀ (l:Nat) (J:List α→World→Prop) (W:World),Below w.heap.size w W→(∀ s A B,J s A→Step A B→J s B) →
   (∀ pre x W0 W1,J pre W0→Step W0 W1→E W0 W1 x→pre.length<N→YieldAt F (n-1) P l (encs x) W1 fun e W'=>e=.returned (.bool true)∧J (pre++[x]) W'∧Kp W1 W') →
   J [] W→CallsIn F n P g (#[.func (.yield l) #[] #[]]++lb) W fun e W'=>(∃ v,e=.returned v)∧∃ xs,S xs∧J xs W'
structure jcv (D:Nat) (A B:World):Prop where
 os:B.os=A.os
 tape:B.tape=A.tape
 output:B.output=A.output
 size:A.heap.size≤B.heap.size
 block:∀ b,b<A.heap.size→b≠D→b≠D+1→B.heap[b]? = A.heap[b]?
theorem jcv.putObj {D l:Nat} (W:World) (o:Obj) (hl:l=D∨l=D+1):jcv D W (W.putObj l o) :=
 ⟨rfl,rfl,rfl,by simp,fun b _ h1 h2=>World.putObj_heap_other (by omega)⟩
def jza {α:Type} (Kp:World→World→Prop) (I:List α→World→Prop) (xs:List α) (W:World):Exit→Act→World→Prop
 | .normal,_,W'=>KeepsOthers W W'∧Kp W W'∧I xs W'
 | _,_,_=>False
variable {F:Fence} {n:Nat} {P:Program}
theorem jfx {α:Type} {fo:Operand} {ps:Array Tmp} {assign body:Code} {Q:Exit→Act→World→Prop} {a:Act} {w:World}
  (hro:F.round=none) (h1:1≤n) {gf:Nat} {lb:Array Value} (hg:a.eval fo=.func (.func gf) #[] lb) (hFg:F.fn gf) (eg:∀ args w,(callFunc gf args).run P w=.ok (.enter gf args) w)
  {encs:α→Array Value} {Step Kp:World→World→Prop} {E:World→World→α→Prop} {S:List α→Prop} {N:Nat} {w0:World} (hseq:jfh F (n-1) P gf lb encs Step E Kp S N w0)
  (hSk:∀ (A B:World) (l:Nat) (o:Obj),Step A B→w.heap.size≤l→A.heap[l]? = some o→o.isCells=false→B.heap[l]? = some o)
  (hKt:∀ {A B C:World},Kp A B→Kp B C→Kp A C) (hKb:∀ (W:World) (l:Nat) (o o':Obj),w.heap.size≤l→W.heap[l]? = some o→o.isCells=false→o.isWalk=false→Kp W (W.putObj l o')) (hb0:Below w0.heap.size w0 w) (hps:∀ x,(encs x).size=ps.size)
  (I:List α→World→Prop) (hI:∀ s A B,I s A→jcv w.heap.size A B→I s B) (hIS:∀ s A B,I s A→Step A B→I s B) (h0:I [] w) (a₁:α→World→Act) (g:α→World→World) (hgs:∀ x W,KeepsOthers W (g x W)) (hgk:∀ x W,Kp W (g x W))
  (hassign:∀ (x:α) (W:World) (K:Act→World→Prop),K (a₁ x W) (g x W) →
   assign.wpIn (F.inRound (w.heap.size+1)) (n-1-1) P (Exit.then K (fun _ _ _=>False)) { tmps:=(ps.zip (encs x)).foldl (fun t (p,v)=>t.setIfInBounds p v) a.tmps,defers:=[] } W)
  (hbody:∀ (pre:List α) (x:α) (W0 W1:World) (o':Obj),I pre W0→Step W0 W1→E W0 W1 x→pre.length<N→w.heap.size+1<W0.heap.size→w.heap.size+1<W1.heap.size→(∃ o:Obj,W1.heap[w.heap.size+1]? = some o∧o.isCells=false) →
   body.wpIn (F.inRound (w.heap.size+1)) (n-1-1) P (jza Kp I (pre++[x]) ((g x W1).putObj (w.heap.size+1) o')) (a₁ x W1) ((g x W1).putObj (w.heap.size+1) o'))
  (hdone:∀ (xs:List α) (W:World),S xs→I xs W→W.heap[w.heap.size]? = some (.deferred (some []))→Q .normal { a with defers:= { target:=.collected w.heap.size,args:= #[] } :: a.defers } W) :
  (Code.rangeFunc fo ps assign body).wpIn F n P Q a w:=by
 refine wpIn_rangeFunc ?_;intro fn hfn;rw[hro]
 obtain⟨D,hD⟩:∃ D,D=w.heap.size:=⟨_,rfl⟩
 obtain⟨rec,hrec⟩:∃ rec:LoopState→Option Code→Loop,rec=fun st pe=> { state:=st,pending:=pe,fn,tmps:=a.tmps,params:=ps,assign,body,defers:=D }:=⟨_,rfl⟩
 obtain⟨W1,hW1⟩:∃ W1,(w.alloc (.deferred (some []))).alloc (.loop (rec .ready none))=W1:=⟨_,rfl⟩
 have hL1:W1.heap[D+1]? = some (.loop (rec .ready none)):=by
  have h:=World.alloc_heap_new (w.alloc (.deferred (some []))) (.loop (rec .ready none));rw[World.size_alloc,hW1,← hD] at h;exact h
 have hK1:W1.heap[D]? = some (.deferred (some [])):=by
  rw[← hW1,hD];exact (Below.heap_alloc _ _ _ (by simp)).trans (World.alloc_heap_new w _)
 have hI1:I [] W1:=by
  refine hI _ _ _ h0 ?_;rw[← hW1];exact⟨rfl,rfl,rfl,by simp only[World.size_alloc];omega,fun b hb _ _=>(Below.heap_alloc _ _ b (by simp only[World.size_alloc];omega)).trans (Below.heap_alloc _ _ b hb)⟩
 have hb1:Below w0.heap.size w0 W1:=by
  rw[← hW1];exact hb0.trans ((((Below.refl _ w).alloc (Nat.le_refl _) _).alloc (by simp) _).mono hb0.size)
 rw[← hD] at hSk hKb hI hassign hbody hdone
 -- the three facts that go through every step
 let J:List α→World→Prop:=fun pre W=>I pre W∧W.heap[D+1]? = some (.loop (rec .ready none))∧W.heap[D]? = some (.deferred (some []))
 have hJ:∀ s A B,J s A→Step A B→J s B:=fun s A B h hs=>⟨hIS s A B h.1 hs,hSk A B _ _ hs (by omega) h.2.1 rfl,hSk A B _ _ hs (Nat.le_refl _) h.2.2 rfl⟩
 have round:∀ pre x W0 W2,J pre W0→Step W0 W2→E W0 W2 x→pre.length<N→YieldAt F (n-1-1) P (D+1) (encs x) W2 fun e W'=>e=.returned (.bool true)∧J (pre++[x]) W'∧Kp W2 W':=by
  intro pre x W0 W2 h0 hs he hlen;have hlt0:D+1<W0.heap.size:=(Array.getElem?_eq_some_iff.1 h0.2.1).1;obtain⟨_,hl,hk⟩:=hJ pre W0 W2 h0 hs;have hlt:D+1<W2.heap.size:=(Array.getElem?_eq_some_iff.1 hl).1;have hy:=run_yield (P:=P) (args:=encs x) hl (by rw[hrec];exact hps x);rw[hrec] at hy;have hlg:=(hgs x W2).same _ _ hl rfl;have hltg:D+1<(g x W2).heap.size:=(Array.getElem?_eq_some_iff.1 hlg).1;have hl2:((g x W2).putObj (D+1) (.loop { rec .ready none with state:=.busy })).heap[D+1]? = some (.loop { rec .ready none with state:=.busy }):=World.putObj_heap_same hltg;have hk2:((g x W2).putObj (D+1) (.loop { rec .ready none with state:=.busy })).heap[D]? = some (.deferred (some [])):=(World.putObj_heap_other (by omega)).trans ((hgs x W2).same _ _ hk rfl);refine⟨fn,_,assign,body,hy,roundIn_of_wpIn hfn (hassign x W2 _ ⟨_,run_beginRound hlg (by rw[hrec]),?_⟩)⟩;refine wpIn_mono (hbody pre x W0 W2 (.loop { rec .ready none with state:=.busy }) h0.1 hs he hlen hlt0 hlt ⟨_,hl,rfl⟩) ?_;intro e a3 W3 hp
  cases e with
  | normal =>
    obtain⟨hk3,hkp3,hi3⟩:=hp;have hl3:=hk3.same _ _ hl2 rfl;have hr:=run_endRound (P:=P) none hl3;rw[hrec] at hr;refine⟨_,_,hr,?_⟩;rw[hrec] at hl3;refine⟨rfl,⟨hI _ _ _ hi3 (jcv.putObj _ _ (.inr rfl)),?_,?_⟩,hKt (hKt (hKt (hgk x W2) (hKb _ _ _ _ (by omega) hlg rfl rfl)) hkp3) (hKb _ _ _ _ (by omega) hl3 rfl rfl)⟩
    · rw[World.putObj_heap_same (Array.getElem?_eq_some_iff.1 hl3).1,hrec];rfl
    · exact (World.putObj_heap_other (by omega)).trans (hk3.same _ _ hk2 rfl)
  | ret=>exact hp.elim
  | exit id=>exact hp.elim
  | goto t=>exact hp.elim
  | panic ch=>exact hp.elim
  | outgrown=>exact hp.elim
 refine⟨D+1,[{ target:=.collected D,args:= #[] }],W1,{ target:=.fn (.func gf) lb,args:= #[.func (.yield (D+1)) #[] #[]] },W1,gf,#[.func (.yield (D+1)) #[] #[]]++lb,W1,?_,?_,?_,?_,fun _=>h1,?_⟩
 · rw[← hW1,hrec,hD];exact run_enterLoop_outer _ _ _ _ _
 · simp only [resolve,hg]
   simp[go_sem]
 · intro f' hf';simp[Target.leads] at hf';subst hf';exact hFg
 · simp[invoke,go_sem,eg]
 refine (hseq (D+1) J W1 hb1 hJ round ⟨hI1,hL1,hK1⟩).mono ?_;rintro e W2 ⟨⟨v,rfl⟩,xs,hS,hi,hl,hk⟩;have hend:=run_endLoop (P:=P) hl (by rw[hrec];simp);rw[hrec] at hend;exact⟨none,_,hend,hdone xs _ hS (hI _ _ _ hi (jcv.putObj _ _ (.inr rfl))) ((World.putObj_heap_other (by omega)).trans hk)⟩
end Go.Proofs.YthdojieomhighaaGreatDoor
namespace Go.Proofs.YthdojieomhighaaGreatDoor
open Go Go.RowKit
def jpr {α:Type} (F:Fence) (n:Nat) (P:Program) (g:Nat) (lb:Array Value) (encs:α→Array Value) (Step:World→World→Prop) (E:List α→α→Prop) (Kp:World→World→Prop) (S Sp:List α→Prop) (w:World):Prop :=
 ∀ (l:Nat) (J Jx:List α→World→Prop) (W:World),Below w.heap.size w W→(∀ s A B,J s A→Step A B→J s B) →
   (∀ pre x W0 W1,J pre W0→Step W0 W1→E pre x→YieldAt F (n-1) P l (encs x) W1 fun e W'=>(e=.returned (.bool true)∧J (pre++[x]) W'∧Kp W1 W')∨(e=.returned (.bool false)∧Jx (pre++[x]) W')) →
   J [] W→CallsIn F n P g (#[.func (.yield l) #[] #[]]++lb) W fun e W'=>(∃ v,e=.returned v)∧((∃ xs,S xs∧J xs W')∨(∃ pre,Sp pre∧Jx pre W'))
def jwz {α:Type} (Kp:World→World→Prop) (I Ix:List α→World→Prop) (xs:List α) (W:World):Exit→Act→World→Prop
 | .normal,_,W'=>KeepsOthers W W'∧Kp W W'∧I xs W'
 | .ret,_,W'=>KeepsOthers W W'∧Ix xs W'
 | _,_,_=>False
variable {F:Fence} {n:Nat} {P:Program}
theorem jix {α:Type} {fo:Operand} {ps:Array Tmp} {assign body:Code} {Q:Exit→Act→World→Prop} {a:Act} {w:World}
  (hro:F.round=none) (h1:1≤n) {gf:Nat} {lb:Array Value} (hg:a.eval fo=.func (.func gf) #[] lb) (hFg:F.fn gf) (eg:∀ args w,(callFunc gf args).run P w=.ok (.enter gf args) w)
  {encs:α→Array Value} {Step Kp:World→World→Prop} {E:List α→α→Prop} {S Sp:List α→Prop} {w0:World} (hseq:jpr F (n-1) P gf lb encs Step E Kp S Sp w0)
  (hSk:∀ (A B:World) (l:Nat) (o:Obj),Step A B→w.heap.size≤l→A.heap[l]? = some o→o.isCells=false→B.heap[l]? = some o)
  (hKt:∀ {A B C:World},Kp A B→Kp B C→Kp A C) (hKb:∀ (W:World) (l:Nat) (o o':Obj),w.heap.size≤l→W.heap[l]? = some o→o.isCells=false→o.isWalk=false→Kp W (W.putObj l o')) (hb0:Below w0.heap.size w0 w) (hps:∀ x,(encs x).size=ps.size)
  (I Ix:List α→World→Prop) (hI:∀ s A B,I s A→jcv w.heap.size A B→I s B) (hIx:∀ s A B,Ix s A→jcv w.heap.size A B→Ix s B) (hIS:∀ s A B,I s A→Step A B→I s B) (h0:I [] w) (a₁:α→World→Act) (g:α→World→World) (hgs:∀ x W,KeepsOthers W (g x W)) (hgk:∀ x W,Kp W (g x W))
  (hassign:∀ (x:α) (W:World) (K:Act→World→Prop),K (a₁ x W) (g x W) →
   assign.wpIn (F.inRound (w.heap.size+1)) (n-1-1) P (Exit.then K (fun _ _ _=>False)) { tmps:=(ps.zip (encs x)).foldl (fun t (p,v)=>t.setIfInBounds p v) a.tmps,defers:=[] } W)
  (hbody:∀ (pre:List α) (x:α) (W0 W1:World) (o':Obj),o'.isCells=false→I pre W0→Step W0 W1→E pre x→w.heap.size+1<W0.heap.size→w.heap.size+1<W1.heap.size→(∃ o:Obj,W1.heap[w.heap.size+1]? = some o∧o.isCells=false)→(∃ o:Obj,W1.heap[w.heap.size]? = some o∧o.isCells=false) →
   body.wpIn (F.inRound (w.heap.size+1)) (n-1-1) P (jwz Kp I Ix (pre++[x]) ((g x W1).putObj (w.heap.size+1) o')) (a₁ x W1) ((g x W1).putObj (w.heap.size+1) o'))
  (hdone:∀ (xs:List α) (W:World),S xs→I xs W→W.heap[w.heap.size]? = some (.deferred (some []))→Q .normal { a with defers:= { target:=.collected w.heap.size,args:= #[] } :: a.defers } W)
  (hstop:∀ (pre:List α) (W:World),Sp pre→Ix pre W→W.heap[w.heap.size]? = some (.deferred (some []))→Code.ret.wpIn F n P Q { a with defers:= { target:=.collected w.heap.size,args:= #[] } :: a.defers } W) :
  (Code.rangeFunc fo ps assign body).wpIn F n P Q a w:=by
 refine wpIn_rangeFunc ?_;intro fn hfn;rw[hro]
 obtain⟨D,hD⟩:∃ D,D=w.heap.size:=⟨_,rfl⟩
 obtain⟨rec,hrec⟩:∃ rec:LoopState→Option Code→Loop,rec=fun st pe=> { state:=st,pending:=pe,fn,tmps:=a.tmps,params:=ps,assign,body,defers:=D }:=⟨_,rfl⟩
 obtain⟨W1,hW1⟩:∃ W1,(w.alloc (.deferred (some []))).alloc (.loop (rec .ready none))=W1:=⟨_,rfl⟩
 have hL1:W1.heap[D+1]? = some (.loop (rec .ready none)):=by
  have h:=World.alloc_heap_new (w.alloc (.deferred (some []))) (.loop (rec .ready none));rw[World.size_alloc,hW1,← hD] at h;exact h
 have hK1:W1.heap[D]? = some (.deferred (some [])):=by
  rw[← hW1,hD];exact (Below.heap_alloc _ _ _ (by simp)).trans (World.alloc_heap_new w _)
 have hI1:I [] W1:=by
  refine hI _ _ _ h0 ?_;rw[← hW1];exact⟨rfl,rfl,rfl,by simp only[World.size_alloc];omega,fun b hb _ _=>(Below.heap_alloc _ _ b (by simp only[World.size_alloc];omega)).trans (Below.heap_alloc _ _ b hb)⟩
 have hb1:Below w0.heap.size w0 W1:=by
  rw[← hW1];exact hb0.trans ((((Below.refl _ w).alloc (Nat.le_refl _) _).alloc (by simp) _).mono hb0.size)
 rw[← hD] at hSk hKb hI hIx hassign hbody hdone hstop
 -- the three facts that go through every step
 let J:List α→World→Prop:=fun pre W=>I pre W∧W.heap[D+1]? = some (.loop (rec .ready none))∧W.heap[D]? = some (.deferred (some []))
 have hJ:∀ s A B,J s A→Step A B→J s B:=fun s A B h hs=>⟨hIS s A B h.1 hs,hSk A B _ _ hs (by omega) h.2.1 rfl,hSk A B _ _ hs (Nat.le_refl _) h.2.2 rfl⟩
 let Jx:List α→World→Prop:=fun pre W=>Ix pre W∧W.heap[D+1]? = some (.loop (rec .done (some .ret)))∧W.heap[D]? = some (.deferred (some []))
 have round:∀ pre x W0 W2,J pre W0→Step W0 W2→E pre x→YieldAt F (n-1-1) P (D+1) (encs x) W2 fun e W'=>(e=.returned (.bool true)∧J (pre++[x]) W'∧Kp W2 W')∨(e=.returned (.bool false)∧Jx (pre++[x]) W'):=by
  intro pre x W0 W2 h0 hs he;have hlt0:D+1<W0.heap.size:=(Array.getElem?_eq_some_iff.1 h0.2.1).1;obtain⟨_,hl,hk⟩:=hJ pre W0 W2 h0 hs;have hlt:D+1<W2.heap.size:=(Array.getElem?_eq_some_iff.1 hl).1;have hy:=run_yield (P:=P) (args:=encs x) hl (by rw[hrec];exact hps x);rw[hrec] at hy;have hlg:=(hgs x W2).same _ _ hl rfl;have hltg:D+1<(g x W2).heap.size:=(Array.getElem?_eq_some_iff.1 hlg).1;have hl2:((g x W2).putObj (D+1) (.loop { rec .ready none with state:=.busy })).heap[D+1]? = some (.loop { rec .ready none with state:=.busy }):=World.putObj_heap_same hltg;have hk2:((g x W2).putObj (D+1) (.loop { rec .ready none with state:=.busy })).heap[D]? = some (.deferred (some [])):=(World.putObj_heap_other (by omega)).trans ((hgs x W2).same _ _ hk rfl);refine⟨fn,_,assign,body,hy,roundIn_of_wpIn hfn (hassign x W2 _ ⟨_,run_beginRound hlg (by rw[hrec]),?_⟩)⟩;refine wpIn_mono (hbody pre x W0 W2 (.loop { rec .ready none with state:=.busy }) rfl h0.1 hs he hlt0 hlt ⟨_,hl,rfl⟩ ⟨_,hk,rfl⟩) ?_;intro e a3 W3 hp
  cases e with
  | normal =>
    obtain⟨hk3,hkp3,hi3⟩:=hp;have hl3:=hk3.same _ _ hl2 rfl;have hr:=run_endRound (P:=P) none hl3;rw[hrec] at hr;refine⟨_,_,hr,?_⟩;rw[hrec] at hl3;refine .inl ⟨rfl,⟨hI _ _ _ hi3 (jcv.putObj _ _ (.inr rfl)),?_,?_⟩,hKt (hKt (hKt (hgk x W2) (hKb _ _ _ _ (by omega) hlg rfl rfl)) hkp3) (hKb _ _ _ _ (by omega) hl3 rfl rfl)⟩
    · rw[World.putObj_heap_same (Array.getElem?_eq_some_iff.1 hl3).1,hrec];rfl
    · exact (World.putObj_heap_other (by omega)).trans (hk3.same _ _ hk2 rfl)
  | ret =>
    obtain⟨hk3,hi3⟩:=hp;have hl3:=hk3.same _ _ hl2 rfl;have hr:=run_endRound (P:=P) (some .ret) hl3;rw[hrec] at hr;refine⟨_,_,hr,?_⟩;rw[hrec] at hl3;refine .inr ⟨rfl,hIx _ _ _ hi3 (jcv.putObj _ _ (.inr rfl)),?_,?_⟩
    · rw[World.putObj_heap_same (Array.getElem?_eq_some_iff.1 hl3).1,hrec];rfl
    · exact (World.putObj_heap_other (by omega)).trans (hk3.same _ _ hk2 rfl)
  | exit id=>exact hp.elim
  | goto t=>exact hp.elim
  | panic ch=>exact hp.elim
  | outgrown=>exact hp.elim
 refine⟨D+1,[{ target:=.collected D,args:= #[] }],W1,{ target:=.fn (.func gf) lb,args:= #[.func (.yield (D+1)) #[] #[]] },W1,gf,#[.func (.yield (D+1)) #[] #[]]++lb,W1,?_,?_,?_,?_,fun _=>h1,?_⟩
 · rw[← hW1,hrec,hD];exact run_enterLoop_outer _ _ _ _ _
 · simp only [resolve,hg]
   simp[go_sem]
 · intro f' hf';simp[Target.leads] at hf';subst hf';exact hFg
 · simp[invoke,go_sem,eg]
 refine (hseq (D+1) J Jx W1 hb1 hJ round ⟨hI1,hL1,hK1⟩).mono ?_;rintro e W2 ⟨⟨v,rfl⟩,(⟨xs,hS,hi,hl,hk⟩|⟨pre,hSp,hi,hl,hk⟩)⟩
 · have hend:=run_endLoop (P:=P) hl (by rw[hrec];simp)
   rw[hrec] at hend;exact⟨none,_,hend,hdone xs _ hS (hI _ _ _ hi (jcv.putObj _ _ (.inr rfl))) ((World.putObj_heap_other (by omega)).trans hk)⟩
 have hend:=run_endLoop (P:=P) hl (by rw[hrec];simp);rw[hrec] at hend;exact⟨some .ret,_,hend,hstop pre _ hSp (hIx _ _ _ hi (jcv.putObj _ _ (.inr rfl))) ((World.putObj_heap_other (by omega)).trans hk)⟩
end Go.Proofs.YthdojieomhighaaGreatDoor
namespace Go.Proofs.YthdojieomhighaaGreatDoor
open Go.RowKit
/-! ### Short words for the printed walks -/
theorem tk {P:Program} {ops:Array Oper} {Q:Exit→Act→World→Prop} {md:Region.Mode} {S:World→Prop} (i:Nat) {oi:Oper} {v:Value} {fuel:Nat} {listed:Array Bool} {a:Act} {w:World} (hi:ops[i]? = some oi)
  (hv:∀ w,S w→(execOp a.eval oi).run P w=.ok (.value v) w) (h:wpAnyH P md ops Q S fuel (listed.setIfInBounds i true) (a.put oi.dst v) w)
  (hs:Region.noSelect ops=true:=by kernel_rfl) (hf:Region.free md ops listed i=true:=by kernel_rfl) (hr:(Region.ready md ops listed).contains i=true:=by kernel_rfl)
  (hQ:∀ c a w,Q (.panic c) (a.put oi.dst v) w→Q (.panic c) a w:=by exact fun _ _ _ h=>h) (hg:Region.wanted oi (yielded ops a.tmps)=true:=by kernel_rfl) (hS:S w:=by assumption):wpAnyH P md ops Q S (fuel+1) listed a w :=
 wpAnyH_take hi hs hf hr hQ (Or.inl ⟨hg,hv⟩) hS h
theorem zh {p:Prop} (h:p):_root_.Go.RowKit.Hid p:=_root_.Go.Lib.hid h
theorem twice {p q:Prop} (h:p→q) (k:p):q:=h k
theorem nm {α:Type} (x:α):∃ y,y=x:=⟨_,rfl⟩
theorem stz:(∀ (l:List Value) (i:Nat) (a:Value),l.toArray.setIfInBounds i a=(l.set i a).toArray)∧(∀ (x:Value) (l:List Value) (a:Value),(x :: l).set 0 a=a :: l)∧(∀ (x:Value) (l:List Value) (n:Nat) (a:Value),(x :: l).set (n+1) a=x :: l.set n a) :=
 ⟨fun _ _ _=>List.setIfInBounds_toArray ..,fun _ _ _=>rfl,fun _ _ _ _=>rfl⟩
structure GT where
 v:Bool
 n:ByteArray
structure GA where
 n:ByteArray
 args:List GT
structure GP where
 no:Bool
 atom:GA
structure GR where
 head:GA
 body:List GP
structure GC where
 comes:List GA
 goes:List GA
def wTerm (t:GT):Nat:=t.n.size
def jbt (l:List GT):Nat:=l.length+(l.map wTerm).sum
def wAtom (a:GA):Nat:=a.n.size+jbt a.args
def jb1 (l:List GA):Nat:=l.length+(l.map wAtom).sum
def wPart (p:GP):Nat:=wAtom p.atom
def jdb (l:List GP):Nat:=l.length+(l.map wPart).sum
def wRule (r:GR):Nat:=wAtom r.head+jdb r.body
def jdc (l:List GR):Nat:=l.length+(l.map wRule).sum
def jbp (c:GC):Nat:=jb1 c.comes+jb1 c.goes
theorem jps {α:Type} (f:α→Nat) {l:List α} {x:α} (h:x∈l):f x≤(l.map f).sum:=by
 induction l with
 | nil=>cases h
 | cons y l ih =>
   rw[List.map_cons,List.sum_cons]
   rcases List.mem_cons.1 h with rfl|h
   · omega
   have:=ih h;omega
theorem jm5 {l:List GA} {x:GA} (h:x∈l):wAtom x≤jb1 l:=Nat.le_trans (jps wAtom h) (Nat.le_add_left _ _)
theorem ju7 {l:List GT} {x:GT} (h:x∈l):wTerm x≤jbt l:=Nat.le_trans (jps wTerm h) (Nat.le_add_left _ _)
theorem ju8 {l:List GP} {x:GP} (h:x∈l):wPart x≤jdb l:=Nat.le_trans (jps wPart h) (Nat.le_add_left _ _)
theorem ju9 {l:List GR} {x:GR} (h:x∈l):wRule x≤jdc l:=Nat.le_trans (jps wRule h) (Nat.le_add_left _ _)
theorem ja6 {a b:Bool} (h:a=b):Ending.returned (.bool a)=.returned (.bool b):=by rw[h]
theorem jsb {a b:ByteArray} (h:a=b):Ending.returned (.string a)=.returned (.string b):=by rw[h]
abbrev Ext (w w':World):Prop:=Below w.heap.size w w'
theorem Ext.refl (w:World):Ext w w:=Below.refl _ _
theorem Ext.trans' {a b c:World} (h:Ext a b) (k:Ext b c):Ext a c:=Below.trans h (Below.mono k h.size)
theorem Ext.alloc {a w:World} (h:Ext a w) (o:Obj):Ext a (w.alloc o):=Below.alloc h h.size o
theorem Ext.drew {a w:World} (h:Ext a w):Ext a w.drew:=Below.drew h
theorem Ext.drewN {a w:World} (h:Ext a w) (n:Nat):Ext a (w.drewN n):=⟨h.os,h.tape,h.output,h.size,h.block⟩
theorem Ext.setNew {a w:World} (h:Ext a w) {p:Addr} (hp:a.heap.size≤p.block) (u:Value):Ext a (w.setCell p u):=Below.setCell h hp u
theorem Ext.cells {w w1:World} (hb:Ext w w1):(∀ b o,b<w.heap.size→w1.cell? ⟨b,o,none⟩=w.cell? ⟨b,o,none⟩)∧(∀ b o,b<w.heap.size→w1.frozen? ⟨b,o,none⟩=w.frozen? ⟨b,o,none⟩) :=
 ⟨fun b o h=>Below.cell hb (p:=⟨b,o,none⟩) h,fun b o h=>Below.frozen hb (p:=⟨b,o,none⟩) h⟩
def Agree (S:Nat→Prop) (w w':World):Prop:=∀ b,S b→b<w.heap.size→w'.heap[b]? = w.heap[b]?
theorem Agree.of_ext {S:Nat→Prop} {w w':World} (h:Ext w w'):Agree S w w':=fun b _ hb=>h.block b hb
theorem Agree.refl (S:Nat→Prop) (w:World):Agree S w w:=fun _ _ _=>rfl
theorem Agree.trans' {S:Nat→Prop} {a b c:World} (h:Agree S a b) (k:Agree S b c) (hs:a.heap.size≤b.heap.size):Agree S a c :=
 fun i hi hb=>(k i hi (by omega)).trans (h i hi hb)
theorem Agree.setCell {S:Nat→Prop} {a w:World} (h:Agree S a w) {p:Addr} (hp:¬ S p.block) (u:Value):Agree S a (w.setCell p u) :=
 fun i hi hb=>(Below.heap_setCell w p u i (fun e=>hp (e▸hi))).trans (h i hi hb)
theorem jcm {w:World} {b o:Nat} {u:Value} (h:w.cell? ⟨b,o,none⟩=some u):b<w.heap.size:=by
 rcases Nat.lt_or_ge b w.heap.size with hlt|hge
 · exact hlt
 simp[World.cell?,Array.getElem?_eq_none hge] at h
def jaa {α:Type} (S:Nat→Prop) (size:Nat) (E:World→List Value→α→Prop) (w:World) (v:Value) (xs:List α):Prop :=
 ∃ A c,v=.slice A xs.length c∧xs.length≤c∧c≤maxLen ∧
   (0 < xs.length→∃ b off,A=some ⟨b,off,none⟩∧b<w.heap.size∧S b ∧
    ∀ (i:Nat) (x:α),xs[i]? = some x→∃ cs:List Value,cs.length=size∧(∀ (j:Nat) (u:Value),cs[j]? = some u→w.cell? ⟨b,off+(i*size+j),none⟩=some u)∧E w cs x)
theorem jaa.imp {α:Type} {S S':Nat→Prop} {size:Nat} {E E':World→List Value→α→Prop} {w w':World} {v:Value} {xs:List α}
  (hE:∀ cs x,x∈xs→E w cs x→E' w' cs x) (hS:∀ b,S b→S' b) (h:jaa S size E w v xs) (he:Agree S w w') (hsz:w.heap.size≤w'.heap.size):jaa S' size E' w' v xs:=by
 obtain⟨A,c,hv,h1,h2,h3⟩:=h;refine⟨A,c,hv,h1,h2,fun h0=>?_⟩;obtain⟨b,off,ha,hb,hs,hc⟩:=h3 h0;refine⟨b,off,ha,Nat.lt_of_lt_of_le hb hsz,hS b hs,fun i x hx=>?_⟩;obtain⟨cs,hl,hcs,hEx⟩:=hc i x hx;exact⟨cs,hl,fun j u hu=>(World.cell?_of_block (w:=w) (a:=⟨b,_,none⟩) (he b hs hb)).trans (hcs j u hu),hE _ _ (List.mem_of_getElem? hx) hEx⟩
abbrev Any:Nat→Prop:=fun _=>True
abbrev From (n:Nat):Nat→Prop:=fun b=>n≤b
theorem jeu {N b:Nat} (h:b<N):¬ From N b:=Nat.not_le.2 h
theorem Agree.set {N:Nat} {a w:World} (h:Agree (From N) a w) {p:Addr} (hp:p.block<N) (u:Value):Agree (From N) a (w.setCell p u):=h.setCell (jeu hp) u
theorem jdi {N M:Nat} (h:M≤N):∀ b,From N b→From M b:=fun _ hb=>Nat.le_trans h hb
def TermE (_:World) (cs:List Value) (t:GT):Prop:=cs=[.bool t.v,.string t.n]∧t.n.size≤maxLen
def jae (S:Nat→Prop):World→Value→List GT→Prop:=jaa S 2 TermE
def AtomE (S:Nat→Prop) (w:World) (cs:List Value) (a:GA):Prop:=∃ v,cs=[.string a.n,v]∧a.n.size≤maxLen∧jae S w v a.args
def jac (S:Nat→Prop):World→Value→List GA→Prop:=jaa S 2 (AtomE S)
def PartE (S:Nat→Prop) (w:World) (cs:List Value) (p:GP):Prop:=∃ v,cs=[.bool p.no,.string p.atom.n,v]∧p.atom.n.size≤maxLen∧jae S w v p.atom.args
def jao (S:Nat→Prop):World→Value→List GP→Prop:=jaa S 3 (PartE S)
def RuleE (S:Nat→Prop) (w:World) (cs:List Value) (r:GR):Prop:=∃ v u,cs=[.string r.head.n,v,u]∧r.head.n.size≤maxLen∧jae S w v r.head.args∧jao S w u r.body
def jal (S:Nat→Prop):World→Value→List GR→Prop:=jaa S 3 (RuleE S)
def jof (S:Nat→Prop) (w:World) (cs:List Value) (c:GC):Prop:=∃ v u,cs=[v,u]∧jac S w v c.comes∧jac S w u c.goes
section
variable {S S':Nat→Prop} {w w':World}
theorem jae.imp {v:Value} {xs:List GT} (h:jae S w v xs) (hS:∀ b,S b→S' b) (he:Agree S w w') (hsz:w.heap.size≤w'.heap.size):jae S' w' v xs :=
 jaa.imp (E:=TermE) (w:=w) (fun _ _ _ h=>h) hS h he hsz
theorem AtomE.imp {cs:List Value} {a:GA} (h:AtomE S w cs a) (hS:∀ b,S b→S' b) (he:Agree S w w') (hsz:w.heap.size≤w'.heap.size):AtomE S' w' cs a:=by
 obtain⟨v,h1,h2,h3⟩:=h;exact⟨v,h1,h2,h3.imp hS he hsz⟩
theorem jac.imp {v:Value} {xs:List GA} (h:jac S w v xs) (hS:∀ b,S b→S' b) (he:Agree S w w') (hsz:w.heap.size≤w'.heap.size):jac S' w' v xs :=
 jaa.imp (fun _ _ _ h=>h.imp hS he hsz) hS h he hsz
theorem PartE.imp {cs:List Value} {a:GP} (h:PartE S w cs a) (hS:∀ b,S b→S' b) (he:Agree S w w') (hsz:w.heap.size≤w'.heap.size):PartE S' w' cs a:=by
 obtain⟨v,h1,h2,h3⟩:=h;exact⟨v,h1,h2,h3.imp hS he hsz⟩
theorem jao.imp {v:Value} {xs:List GP} (h:jao S w v xs) (hS:∀ b,S b→S' b) (he:Agree S w w') (hsz:w.heap.size≤w'.heap.size):jao S' w' v xs :=
 jaa.imp (fun _ _ _ h=>h.imp hS he hsz) hS h he hsz
theorem RuleE.imp {cs:List Value} {a:GR} (h:RuleE S w cs a) (hS:∀ b,S b→S' b) (he:Agree S w w') (hsz:w.heap.size≤w'.heap.size):RuleE S' w' cs a:=by
 obtain⟨v,u,h1,h2,h3,h4⟩:=h;exact⟨v,u,h1,h2,h3.imp hS he hsz,h4.imp hS he hsz⟩
theorem jal.imp {v:Value} {xs:List GR} (h:jal S w v xs) (hS:∀ b,S b→S' b) (he:Agree S w w') (hsz:w.heap.size≤w'.heap.size):jal S' w' v xs :=
 jaa.imp (fun _ _ _ h=>h.imp hS he hsz) hS h he hsz
theorem jae.ext {v:Value} {xs:List GT} (h:jae S w v xs) (he:Ext w w'):jae S w' v xs:=h.imp (fun _ h=>h) (.of_ext he) he.size
theorem jac.ext {v:Value} {xs:List GA} (h:jac S w v xs) (he:Ext w w'):jac S w' v xs:=h.imp (fun _ h=>h) (.of_ext he) he.size
theorem jao.ext {v:Value} {xs:List GP} (h:jao S w v xs) (he:Ext w w'):jao S w' v xs:=h.imp (fun _ h=>h) (.of_ext he) he.size
theorem jal.ext {v:Value} {xs:List GR} (h:jal S w v xs) (he:Ext w w'):jal S w' v xs:=h.imp (fun _ h=>h) (.of_ext he) he.size
theorem jae.drew_ {v:Value} {xs:List GT} (h:jae S w v xs):jae S w.drew v xs:=h.ext (Ext.refl _).drew
theorem jac.drew_ {v:Value} {xs:List GA} (h:jac S w v xs):jac S w.drew v xs:=h.ext (Ext.refl _).drew
theorem jao.drew_ {v:Value} {xs:List GP} (h:jao S w v xs):jao S w.drew v xs:=h.ext (Ext.refl _).drew
theorem jae.sub {v:Value} {xs:List GT} (h:jae S w v xs) (hS:∀ b,S b→S' b):jae S' w v xs:=h.imp hS (.refl _ _) (Nat.le_refl _)
theorem jac.sub {v:Value} {xs:List GA} (h:jac S w v xs) (hS:∀ b,S b→S' b):jac S' w v xs:=h.imp hS (.refl _ _) (Nat.le_refl _)
theorem jao.sub {v:Value} {xs:List GP} (h:jao S w v xs) (hS:∀ b,S b→S' b):jao S' w v xs:=h.imp hS (.refl _ _) (Nat.le_refl _)
theorem jal.sub {v:Value} {xs:List GR} (h:jal S w v xs) (hS:∀ b,S b→S' b):jal S' w v xs:=h.imp hS (.refl _ _) (Nat.le_refl _)
end
section
variable {α:Type} {S:Nat→Prop} {size:Nat} {E:World→List Value→α→Prop} {w:World}
theorem jaa.form {v:Value} {xs:List α} (h:jaa S size E w v xs) :
  ∃ A c,v=.slice A xs.length c∧xs.length≤c∧c≤9223372036854775807:=by
 obtain⟨A,c,hv,h1,h2,_⟩:=h;exact⟨A,c,hv,h1,h2⟩
theorem jaa.at_ {A:Option Addr} {n c:Nat} {xs:List α} (h:jaa S size E w (.slice A n c) xs) {k:Nat} (hk:k<n) :
  ∃ (b off:Nat) (x:α) (cs:List Value),A=some ⟨b,off,none⟩∧b<w.heap.size∧xs[k]? = some x∧cs.length=size ∧
    (∀ (j:Nat) (u:Value),cs[j]? = some u→w.cell? ⟨b,off+(k*size+j),none⟩=some u)∧E w cs x:=by
 obtain⟨A',c',hv,h1,h2,h3⟩:=h
 injection hv with hA hn hc
 subst hA;subst hn;obtain⟨b,off,ha,hb,_,hcell⟩:=h3 (by omega);obtain⟨cs,hl,hcs,hEx⟩:=hcell k xs[k] (List.getElem?_eq_getElem hk);exact⟨b,off,xs[k],cs,ha,hb,List.getElem?_eq_getElem hk,hl,hcs,hEx⟩
theorem jaa.nil_ (c:Nat) (hc:c≤maxLen) (A:Option Addr):jaa S size E w (.slice A 0 c) []:=⟨A,c,rfl,Nat.zero_le _,hc,fun h=>absurd h (by simp)⟩
end
theorem jae.at_ {S:Nat→Prop} {w:World} {A:Option Addr} {n c:Nat} {xs:List GT} (h:jae S w (.slice A n c) xs) {k:Nat} (hk:k<n) :
  ∃ (b off:Nat) (x:GT),A=some ⟨b,off,none⟩∧b<w.heap.size∧xs[k]? = some x∧x.n.size≤maxLen ∧
    w.cell? ⟨b,off+k*2,none⟩=some (.bool x.v)∧w.cell? ⟨b,off+k*2+1,none⟩=some (.string x.n):=by
 obtain⟨b,off,x,cs,hA,hb,hx,_,hc,rfl,hs⟩:=jaa.at_ h hk;exact⟨b,off,x,hA,hb,hx,hs,hc 0 _ rfl,hc 1 _ rfl⟩
theorem jac.at_ {S:Nat→Prop} {w:World} {A:Option Addr} {n c:Nat} {xs:List GA} (h:jac S w (.slice A n c) xs) {k:Nat} (hk:k<n) :
  ∃ (b off:Nat) (x:GA) (v:Value),A=some ⟨b,off,none⟩∧b<w.heap.size∧xs[k]? = some x∧x.n.size≤maxLen∧jae S w v x.args ∧
    w.cell? ⟨b,off+k*2,none⟩=some (.string x.n)∧w.cell? ⟨b,off+k*2+1,none⟩=some v:=by
 obtain⟨b,off,x,cs,hA,hb,hx,_,hc,v,rfl,hs,ht⟩:=jaa.at_ h hk;exact⟨b,off,x,v,hA,hb,hx,hs,ht,hc 0 _ rfl,hc 1 _ rfl⟩
theorem jao.at_ {S:Nat→Prop} {w:World} {A:Option Addr} {n c:Nat} {xs:List GP} (h:jao S w (.slice A n c) xs) {k:Nat} (hk:k<n) :
  ∃ (b off:Nat) (x:GP) (v:Value),A=some ⟨b,off,none⟩∧b<w.heap.size∧xs[k]? = some x∧x.atom.n.size≤maxLen∧jae S w v x.atom.args ∧
    w.cell? ⟨b,off+k*3,none⟩=some (.bool x.no)∧w.cell? ⟨b,off+k*3+1,none⟩=some (.string x.atom.n)∧w.cell? ⟨b,off+k*3+2,none⟩=some v:=by
 obtain⟨b,off,x,cs,hA,hb,hx,_,hc,v,rfl,hs,ht⟩:=jaa.at_ h hk;exact⟨b,off,x,v,hA,hb,hx,hs,ht,hc 0 _ rfl,hc 1 _ rfl,hc 2 _ rfl⟩
theorem jal.at_ {S:Nat→Prop} {w:World} {A:Option Addr} {n c:Nat} {xs:List GR} (h:jal S w (.slice A n c) xs) {k:Nat} (hk:k<n) :
  ∃ (b off:Nat) (x:GR) (v u:Value),A=some ⟨b,off,none⟩∧b<w.heap.size∧xs[k]? = some x∧x.head.n.size≤maxLen∧jae S w v x.head.args∧jao S w u x.body ∧
    w.cell? ⟨b,off+k*3,none⟩=some (.string x.head.n)∧w.cell? ⟨b,off+k*3+1,none⟩=some v∧w.cell? ⟨b,off+k*3+2,none⟩=some u:=by
 obtain⟨b,off,x,cs,hA,hb,hx,_,hc,v,u,rfl,hs,ht,hp⟩:=jaa.at_ h hk;exact⟨b,off,x,v,u,hA,hb,hx,hs,ht,hp,hc 0 _ rfl,hc 1 _ rfl,hc 2 _ rfl⟩
def Blk (w:World) (g:Nat) (t:TypeId) (cs:Array Value):Prop:=w.heap[g]? = some (.cells cs t (0,0))
section
variable {w w':World} {g:Nat} {t:TypeId} {cs:Array Value}
theorem Blk.lt (h:Blk w g t cs):g<w.heap.size:=by
 rcases Nat.lt_or_ge g w.heap.size with hlt|hge
 · exact hlt
 unfold Blk at h;rw[Array.getElem?_eq_none hge] at h;cases h
theorem Blk.cell (h:Blk w g t cs) (i:Nat):w.cell? ⟨g,i,none⟩=cs[i]? :=by unfold Blk at h;simp[World.cell?,h]
theorem Blk.frozen (h:Blk w g t cs) (i:Nat):w.frozen? ⟨g,i,none⟩=false:=by
 unfold Blk at h;simp[World.frozen?,h]
theorem Blk.new (w:World) (t:TypeId) (cs:Array Value):Blk (w.alloc (.cells cs t)) w.heap.size t cs:=by
 show (w.heap.push _)[w.heap.size]? = _;rw[Array.getElem?_push,if_pos rfl]
theorem Blk.drew (h:Blk w g t cs):Blk w.drew g t cs:=h
theorem Blk.drewN (h:Blk w g t cs) (n:Nat):Blk (w.drewN n) g t cs:=h
theorem Blk.alloc (h:Blk w g t cs) (o:Obj):Blk (w.alloc o) g t cs:=(Below.heap_alloc w o g h.lt).trans h
theorem Blk.set_ (h:Blk w g t cs) (i:Nat) (u:Value):Blk (w.setCell ⟨g,i,none⟩ u) g t (cs.setIfInBounds i u):=by
 unfold Blk at h ⊢;simp[World.setCell,Array.getElem?_modify,h]
theorem Blk.far (h:Blk w g t cs) {p:Addr} (hp:g≠p.block) (u:Value):Blk (w.setCell p u) g t cs:=(Below.heap_setCell w p u g hp).trans h
theorem Blk.ext (h:Blk w g t cs) (hb:Ext w w'):Blk w' g t cs:=(hb.block g h.lt).trans h
theorem Blk.below {B:Nat} (h:Blk w g t cs) (hb:Below B w w') (hg:g<B):Blk w' g t cs:=(hb.block g hg).trans h
end
theorem made {P:Program} (t e:TypeId) (i:TypeInfo) (z:Value) (ht:P.underlying t=some (.slice e)) (hi:P.info? e=some i) (hz:i.zero=some z)
  (n:Nat) (hbytes:i.bytes*n≤281474976710656) (h63:n≤9223372036854775807) :
  ∃ cs:Array Value,cs.size=n*i.size∧∀ W:World,(Instr.makeSlice t (.int .i64 (n:Int)) (.int .i64 (n:Int))).run P W=.ok (.slice (some ⟨W.heap.size,0,none⟩) n n) (W.alloc (.cells cs e)):=by
 refine⟨madeCells z.cells (n*i.size),size_madeCells _ _,fun W=>?_⟩
 have hb:(i.bytes:Int)*(n:Int)≤281474976710656:=by
  have h:((i.bytes*n:Nat):Int)≤281474976710656:=by omega
  rwa [Int.natCast_mul] at h
 have hr:=run_make (P:=P) W t e i z ht hi hz .i64 .i64 n n (by omega) (by omega) hb (by omega);simp only[Int.toNat_natCast] at hr;exact hr
theorem Blk.ready {w:World} {g:Nat} {t:TypeId} {cs:Array Value} (h:Blk w g t cs) {i:Nat} (hi:i<cs.size):(∃ u,w.cell? ⟨g,i,none⟩=some u)∧w.frozen? ⟨g,i,none⟩=false :=
 ⟨⟨cs[i],by rw[h.cell];exact Array.getElem?_eq_getElem hi⟩,h.frozen i⟩
def jfy {α:Type} (size:Nat) (E:World→List Value→α→Prop) (w:World) (cs:Array Value) (xs:List α) (k:Nat):Prop :=
 ∀ (i:Nat) (x:α),i<k→xs[i]? = some x→∃ l:List Value,l.length=size∧(∀ (j:Nat) (u:Value),l[j]? = some u→cs[i*size+j]? = some u)∧E w l x
theorem jfy.zero {α:Type} (size:Nat) (E:World→List Value→α→Prop) (w:World) (cs:Array Value) (xs:List α):jfy size E w cs xs 0:=fun _ _ h=>absurd h (by omega)
theorem jfy.two {α:Type} {E E':World→List Value→α→Prop} {w w':World} {cs:Array Value} {xs:List α} {k:Nat} {a b:Value} {x:α}
  (h:jfy 2 E w cs xs k) (hE:∀ cs x,E w cs x→E' w' cs x) (hk:xs[k]? = some x) (hs:k*2+1<cs.size) (hx:E' w' [a,b] x) :
  jfy 2 E' w' ((cs.setIfInBounds (k*2) a).setIfInBounds (k*2+1) b) xs (k+1):=by
 intro i y hi hy
 by_cases hik:i=k
 · subst hik
   rw[hk] at hy;injection hy with hy;subst hy
   refine⟨[a,b],rfl,fun j u hu=>?_,hx⟩
   match j,hu with
   | 0,hu=>simp at hu;subst hu;simp[show i*2<cs.size from by omega]
   | 1,hu=>simp at hu;subst hu;simp[hs]
 obtain⟨l,h1,h2,h3⟩:=h i y (by omega) hy;refine⟨l,h1,fun j u hu=>?_,hE _ _ h3⟩
 have hj:j<2:=by rw[← h1];rcases Nat.lt_or_ge j l.length with h|h;exact h;rw[List.getElem?_eq_none h] at hu;cases hu
 rw[Array.getElem?_setIfInBounds_ne (by omega),Array.getElem?_setIfInBounds_ne (by omega)];exact h2 j u hu
end Go.Proofs.YthdojieomhighaaGreatDoor
namespace Go.Proofs.YthdojieomhighaaGreatDoor
open Go.RowKit
def jj2 (c:UInt8):Bool:=decide ((97≤c.toNat∧c.toNat≤122)∨(48≤c.toNat∧c.toNat≤57))
def upper (c:UInt8):Bool:=decide (65≤c.toNat∧c.toNat≤90)
def jc3 (l:List UInt8):Bool:=l.all jj2
def inB (n lo hi:Int):Bool:=decide (lo≤n∧n≤hi)
theorem jsc {n lo hi:Int} (h1:lo≤n) (h2:n≤hi):inB n lo hi=true:=decide_eq_true ⟨h1,h2⟩
theorem jw0 {n lo hi:Int} (h1:n<lo):inB n lo hi=false:=decide_eq_false (by omega)
theorem jty {n lo hi:Int} (h1:hi<n):inB n lo hi=false:=decide_eq_false (by omega)
def jbu (s:ByteArray):Bool:=jc3 s.data.toList && inB s.size 1 8
def isNot (s:ByteArray):Bool:=s.toList == [110,111,116]
def jay (s:ByteArray):Bool:=jbu s && !(isNot s)
def capB (s:ByteArray):Bool:=match s.data.toList with | []=>false|c :: _=>upper c
def jch (s:ByteArray):Bool:=capB s && decide (s.size≤8) && jc3 (s.data.toList.drop 1)
def ja1 (t:GT):Bool:=if t.v then jch t.n else jay t.n
def jat (a:GA):Bool:=jay a.n && decide (a.args.length≤3) && a.args.all ja1
def factB (a:GA):Bool:=jat a && a.args.all fun t=> !t.v
theorem jiy {c:UInt8} (h:jj2 c=true):(97≤c.toNat∧c.toNat≤122)∨(48≤c.toNat∧c.toNat≤57):=of_decide_eq_true h
theorem jpt {c:UInt8} (h:jj2 c=false):c.toNat<48∨(57<c.toNat∧c.toNat<97)∨122<c.toNat:=by
 have:=of_decide_eq_false h;omega
theorem jfi (l:List UInt8) (c:UInt8):jc3 (l++[c])=(jc3 l && jj2 c):=by simp[jc3]
theorem jm6 (s:ByteArray) (k:Nat) (h:k<s.size):s.data.toList.take (k+1)=s.data.toList.take k++[s[k]]:=by
 rw[List.take_succ_eq_append_getElem (by simpa using h)];rfl
theorem jtz (s:ByteArray):s.data.toList.take s.size=s.data.toList:=List.take_of_length_le (by simp)
theorem jj3 {l:List UInt8} {k:Nat} (h:jc3 (l.take k)=false):jc3 l=false:=by
 rw[← List.take_append_drop k l];unfold jc3 at h ⊢;rw[List.all_append,h];rfl
theorem jpu (s:ByteArray) (k:Nat):(s.extract k s.size).data.toList=s.data.toList.drop k:=by
 simp only[ByteArray.data_extract,Array.toList_extract];rw[List.extract_eq_take_drop];exact List.take_of_length_le (by simp)
theorem jk8 (s:ByteArray) (k:Nat) (_h:k≤s.size):(s.extract k s.size).size=s.size-k:=by
 simp[ByteArray.size_extract]
theorem jf3 {s:ByteArray} (h:0<s.size):capB s=upper s[0]:=by
 unfold capB
 have h1:s.data.toList=s[0] :: s.data.toList.drop 1:=by
  have h2:0<s.data.toList.length:=by simpa using h
  have h3:=List.drop_eq_getElem_cons h2;rw[List.drop_zero] at h3;exact h3
 rw[h1]
theorem jva {s:ByteArray} (hp:0<s.size) (hu:upper s[0]=true) (h1:¬ s.size=1):jch s=(jbu (s.extract 1 s.size) && decide (s.size≤8)):=by
 unfold jch jbu;rw[jf3 hp,hu,jpu,jk8 s 1 (by omega)]
 by_cases h8:s.size≤8
 · rw[jsc (by omega) (by omega)];simp[h8]
 simp[h8]
theorem jbo {α:Type} (p:α→Bool) (l:List α) (k:Nat) (x:α) (h:l[k]? = some x):(l.take (k+1)).all p=((l.take k).all p && p x):=by
 obtain⟨hk,rfl⟩:=List.getElem?_eq_some_iff.1 h;rw[List.take_succ_eq_append_getElem hk,List.all_append];simp
theorem jbf {α:Type} (p:α→Bool) (l:List α) (k:Nat) (x:α) (h:l[k]? = some x) (hp:p x=false):l.all p=false:=by
 rw[List.all_eq_false];exact⟨x,List.mem_of_getElem? h,by simp[hp]⟩
theorem jbm {α:Type} (p:α→Bool) (l:List α) (k:Nat) (hk:¬ k<l.length) (h:(l.take k).all p=true):l.all p=true:=by
 rwa [List.take_of_length_le (by omega)] at h
theorem je4:∀ (x y:List UInt8),Lib.compareBytes x y=if Op.bytesLess x y=true then -1 else if (x == y)=true then 0 else 1
 | [],[]=>rfl
 | [],_ :: _=>rfl
 | _ :: _,[]=>rfl
 | a :: x,b :: y=>by
   have ih:=je4 x y;unfold Lib.compareBytes Op.bytesLess
   by_cases h1:a<b
   · simp[h1]
   by_cases h2:b<a
   · have hne:¬ a=b:=fun e=>h1 (e▸h2)
     simp[h1,h2,hne]
   have hab:a=b:=by
     have h3:=UInt8.not_lt.1 h1;have h4:=UInt8.not_lt.1 h2;exact UInt8.le_antisymm h4 h3
   subst hab;simp[h1,ih]
def cmpS (a b:ByteArray):Int:=Lib.compareBytes a.data.toList b.data.toList
theorem jpv {a b:ByteArray} (h:Op.bytesLess a.toList b.toList=true):cmpS a b = -1:=by
 unfold cmpS;rw[je4,← ByteArray.toList_eq,← ByteArray.toList_eq,if_pos h]
theorem jpw {a b:ByteArray} (h1:Op.bytesLess a.toList b.toList=false) (h:(!a.toList == b.toList)=false):cmpS a b=0:=by
 unfold cmpS;rw[je4,← ByteArray.toList_eq,← ByteArray.toList_eq,if_neg (by simp[h1]),if_pos (by simpa using h)]
theorem jpx {a b:ByteArray} (h1:Op.bytesLess a.toList b.toList=false) (h:(!a.toList == b.toList)=true):cmpS a b=1:=by
 unfold cmpS;rw[je4,← ByteArray.toList_eq,← ByteArray.toList_eq,if_neg (by simp[h1]),if_neg (by simpa using h)]
def jev:List GT→List GT→Int
 | [],[]=>0
 | [],_ :: _=> -1
 | _ :: _,[]=>1
 | s :: x,t :: y=>if cmpS s.n t.n=0 then jev x y else cmpS s.n t.n
def cmpA (a b:GA):Int:=if cmpS a.n b.n=0 then jev a.args b.args else cmpS a.n b.n
theorem jm7 (a b:ByteArray):cmpS a b = -1∨cmpS a b=0∨cmpS a b=1:=by
 unfold cmpS;rw[je4];split
 · exact .inl rfl
 split
 · exact .inr (.inl rfl)
 exact .inr (.inr rfl)
theorem jbq {α:Type} {l:List α} {k:Nat} {x:α} (h:l[k]? = some x):l.drop k=x :: l.drop (k+1):=by
 obtain⟨hk,rfl⟩:=List.getElem?_eq_some_iff.1 h;exact List.drop_eq_getElem_cons hk
def jd7 (x y:List GT) (k:Nat) (q:Int):Int:=if q=0 then jev (x.drop k) (y.drop k) else q
theorem jj4 {x y:List GT} {k:Nat} {s t:GT} (hs:x[k]? = some s) (ht:y[k]? = some t):jd7 x y k 0=jd7 x y (k+1) (cmpS s.n t.n):=by
 unfold jd7;rw[if_pos rfl,jbq hs,jbq ht];rfl
theorem jj5 {x y:List GT} {k:Nat} {q:Int} (h:¬ q=0):jd7 x y k q=q:=if_neg h
theorem jfj {x y:List GT} {k:Nat} (h:x.length≤k∨y.length≤k) (hk:k≤x.length∧k≤y.length) :
  jd7 x y k 0=if x.length<y.length then -1 else if y.length<x.length then 1 else 0:=by
 unfold jd7;rw[if_pos rfl]
 rcases Nat.lt_or_ge k x.length with h1|h1
 · have h2:y.length≤k:=by omega
   rw[jbq (List.getElem?_eq_getElem h1),List.drop_eq_nil_of_le h2,if_neg (by omega),if_pos (by omega)];rfl
 rcases Nat.lt_or_ge k y.length with h2|h2
 · rw[jbq (List.getElem?_eq_getElem h2),List.drop_eq_nil_of_le h1,if_pos (by omega)];rfl
 rw[List.drop_eq_nil_of_le h1,List.drop_eq_nil_of_le h2,if_neg (by omega),if_neg (by omega)];rfl
theorem jt0 (n lo hi:Int) (w:World) :
  Calls Tryz.prog 123 #[.int .i64 n,.int .i64 lo,.int .i64 hi] w fun e w'=>e=.returned (.bool (inB n lo hi))∧w'=w:=by
 by_cases h1:lo≤n
 · by_cases h2:n≤hi
   · have HD:=zh (jsc h1 h2)
     go_enter Tryz.func123,Tryz.ntmps123
     go_wp2;go_ret;exact⟨by rw[HD.out];rfl,rfl⟩
   have HD:=zh (jty (lo:=lo) (Int.not_le.1 h2))
   go_enter Tryz.func123,Tryz.ntmps123
   go_wp2;go_ret;exact⟨by rw[HD.out];rfl,rfl⟩
 have HD:=zh (jw0 (hi:=hi) (Int.not_le.1 h1))
 go_enter Tryz.func123,Tryz.ntmps123
 go_wp2;go_ret;exact⟨by rw[HD.out];rfl,rfl⟩
theorem jhx (s:ByteArray) (w:World) (hs:s.size≤maxLen) :
  Calls Tryz.prog 121 #[.string s] w fun e w'=>e=.returned (.bool (jbu s))∧w'=w:=by
 unfold maxLen at hs
 go_enter Tryz.func121,Tryz.ntmps121
 go_wp2
 go_loop [3] (fun i=>∃ k:Nat,k≤s.size∧i=.int .i64 k∧Hid (jc3 (s.data.toList.take k)=true)) (fun i=>s.size-(intOf i).toNat)
 case atStart=>exact⟨0,Nat.zero_le _,rfl,rfl⟩
 case round =>
  obtain⟨k,hk,rfl,hp⟩:=hrel
  by_cases hlt:k<s.size
  · have HT:=zh (jm6 s k hlt)
    have hc:s[k].toNat<256:=s[k].toNat_lt
    cases hd:jj2 s[k]
    · have HF:=zh (show jbu s=false from by
        have:jc3 (s.data.toList.take (k+1))=false:=by rw[HT.out,jfi,hd,Bool.and_false]
        unfold jbu;rw[jj3 this];rfl)
      rcases jpt hd with h|h|h
      all_goals
       clear hd;go_wp2;go_ret;exact⟨by rw[HF.out];rfl,rfl⟩
    have HP:=zh (show jc3 (s.data.toList.take (k+1))=true from by rw[HT.out,jfi,hd,hp.out];rfl)
    rcases jiy hd with h|h
    all_goals
     clear hd;go_wp2
     go_round
     case rel=>exact⟨k+1,by omega,by go_num,HP⟩
     case measure=>simp[intOf];omega
  have HF:=zh (show inB s.size 1 8=jbu s from by
    have hkk:k=s.size:=by omega
    have hp1:=hp.out;rw[hkk,jtz] at hp1
    unfold jbu;rw[hp1];rfl)
  go_wp2_with (go_at_call 123;refine (jt0 _ _ _ _).mono ?_;rintro e w' ⟨rfl,rfl⟩)
  go_ret;exact⟨by rw[← HF.out];rfl,rfl⟩
theorem jg2 (s:ByteArray) (w:World) (hs:s.size≤maxLen) :
  Calls Tryz.prog 61 #[.string s] w fun e w'=>e=.returned (.bool (jay s))∧w'=w:=by
 have hw:=jhx s w hs
 cases hl:jbu s
 · have HF:=zh (show jay s=false from by unfold jay;rw[hl];rfl)
   rw[hl] at hw;have HW:=zh hw;clear hw hl
   go_enter Tryz.func61,Tryz.ntmps61
   go_wp2_with (go_at_call 121;refine HW.out.mono ?_;rintro e w' ⟨rfl,rfl⟩)
   go_ret;exact⟨by rw[HF.out];rfl,rfl⟩
 have HF:=zh (show jay s = !(isNot s) from by unfold jay;rw[hl];rfl);rw[hl] at hw;have HW:=zh hw;clear hw hl
 go_enter Tryz.func61,Tryz.ntmps61
 go_wp2_with (go_at_call 121;refine HW.out.mono ?_;rintro e w' ⟨rfl,rfl⟩)
 go_ret;exact⟨by rw[HF.out];rfl,rfl⟩
theorem jai {P:Program} {f:FuncId} {args:Array Value} {w:World} {b:Bool} {R:World→Prop} (h:Calls P f args w fun e w'=>e=.returned (.bool b)∧R w') :
  (b=true→Calls P f args w fun e w'=>e=.returned (.bool true)∧R w')∧(b=false→Calls P f args w fun e w'=>e=.returned (.bool false)∧R w') :=
 ⟨fun hb=>by rw[hb] at h;exact h,fun hb=>by rw[hb] at h;exact h⟩
theorem jvb (t:GT) (w:World) (hs:t.n.size≤maxLen) :
  Calls Tryz.prog 169 #[.agg #[.bool t.v,.string t.n]] w fun e w'=>e=.returned (.bool (ja1 t))∧Ext w w':=by
 obtain⟨v,s⟩:=t
 cases v
 · have HF:=zh (show ja1 ⟨false,s⟩=jay s from rfl)
   go_enter Tryz.func169,Tryz.ntmps169
   go_wp2_with (go_at_call 61;refine (jg2 s _ hs).mono ?_;rintro e w' ⟨rfl,rfl⟩)
   go_ret;exact⟨by rw[HF.out];rfl,(Ext.refl _).alloc _⟩
 have HF:=zh (show ja1 ⟨true,s⟩=jch s from rfl);have hm:s.size≤9223372036854775807:=hs
 by_cases h0:s.size=0
 · have HC:=zh (show jch s=false from by
     have:s.data.toList=[]:=by apply List.eq_nil_of_length_eq_zero;simpa using h0
     unfold jch capB;rw[this];rfl)
   have H0:=zh h0
   have hz:(((s.size:Nat):Int) == 0)=true:=by simp[h0]
   clear h0
   go_enter Tryz.func169,Tryz.ntmps169
   go_wp2;go_ret;exact⟨by rw[HF.out,HC.out];rfl,(Ext.refl _).alloc _⟩
 have hp:0<s.size:=Nat.pos_of_ne_zero h0
 have hz:(((s.size:Nat):Int) == 0)=false:=by rw[beq_eq_false_iff_ne];omega
 have hc:s[0].toNat<256:=s[0].toNat_lt
 cases hu:upper s[0]
 · have HC:=zh (show jch s=false from by unfold jch;rw[jf3 hp,hu];rfl)
   have hr:s[0].toNat<65∨90<s[0].toNat:=by have h9:=of_decide_eq_false hu;clear hs hz;omega
   clear hu
   rcases hr with hr|hr
   all_goals
    go_enter Tryz.func169,Tryz.ntmps169
    go_wp2;go_ret;exact⟨by rw[HF.out,HC.out];rfl,(Ext.refl _).alloc _⟩
 obtain⟨hr1,hr2⟩:=of_decide_eq_true hu
 by_cases h1:s.size=1
 · have HC:=zh (show jch s=true from by
     have hd:s.data.toList.drop 1=[]:=by apply List.eq_nil_of_length_eq_zero;simp[h1]
     unfold jch;rw[jf3 hp,hu,hd,h1];rfl)
   have hy:(((s.size:Nat):Int) == 1)=true:=by simp[h1]
   have H1:=zh h1;clear h1 hu
   go_enter Tryz.func169,Tryz.ntmps169
   go_wp2;go_ret;exact⟨by rw[HF.out,HC.out];rfl,(Ext.refl _).alloc _⟩
 have hy:(((s.size:Nat):Int) == 1)=false:=by rw[beq_eq_false_iff_ne];omega
 have hv:=jva hp hu h1;have hw:=jai (jhx (s.extract 1 s.size) (w.alloc (.cells #[.bool true,.string s] 60)) (by rw[jk8 _ _ hp];exact Nat.le_trans (Nat.sub_le _ _) hs))
 cases hl:jbu (s.extract 1 s.size)
 · have HX:=zh (show jch s=false from by rw[hv,hl];rfl)
   have HW:=zh (hw.2 hl);clear h1 hu hw hv hl
   go_enter Tryz.func169,Tryz.ntmps169
   go_wp2_with (go_at_call 121;refine HW.out.mono ?_;rintro e w1 ⟨rfl,rfl⟩)
   go_ret;exact⟨by rw[HF.out,HX.out];rfl,(Ext.refl _).alloc _⟩
 have HW:=zh (hw.1 hl)
 by_cases h8:s.size≤8
 · have HX:=zh (show jch s=true from by rw[hv,hl];simp[h8])
   clear h1 hu hw hv hl
   go_enter Tryz.func169,Tryz.ntmps169
   go_wp2_with (go_at_call 121;refine HW.out.mono ?_;rintro e w1 ⟨rfl,rfl⟩)
   go_ret;exact⟨by rw[HF.out,HX.out];exact ja6 (by simp;omega),(Ext.refl _).alloc _⟩
 have HX:=zh (show jch s=false from by rw[hv,hl];simp[h8]);clear h1 hu hw hv hl
 go_enter Tryz.func169,Tryz.ntmps169
 go_wp2_with (go_at_call 121;refine HW.out.mono ?_;rintro e w1 ⟨rfl,rfl⟩)
 go_ret;exact⟨by rw[HF.out,HX.out];exact ja6 (by simp;omega),(Ext.refl _).alloc _⟩
theorem jew (a:GA) (v:Value) (w:World) {S:Nat→Prop} (hs:a.n.size≤maxLen) (hv:jae S w v a.args) :
  Calls Tryz.prog 122 #[.agg #[.string a.n,v]] w fun e w'=>e=.returned (.bool (jat a))∧Ext w w':=by
 obtain⟨A,c,rfl,hc1,hc2⟩:=jaa.form hv;have HV:=zh (hv.ext ((Ext.refl w).alloc (.cells #[.string a.n,.slice A a.args.length c] 43)));clear hv
 go_enter Tryz.func122,Tryz.ntmps122
 go_wp2
 go_loopw [3] (fun i wr=>∃ k:Nat,k≤a.args.length∧i=.int .i64 k∧Hid ((a.args.take k).all ja1=true)∧Ext (w.alloc (.cells #[.string a.n,.slice A a.args.length c] 43)) wr) (fun i _=>a.args.length-(intOf i).toNat)
 case atStart=>exact⟨0,Nat.zero_le _,rfl,rfl,Ext.refl _⟩
 case round =>
  obtain⟨k,hk,rfl,hp,hx⟩:=hrel;obtain⟨hcc,hcf⟩:=hx.cells
  by_cases hlt:k<a.args.length
  · obtain ⟨b,off,x,rfl,hb,hxk,hxs,hc0,hc1⟩:=jae.at_ (HV.out.ext hx) hlt
    have HK:=zh hxk;have hw:=jai (jvb x wr hxs);clear hxk
    cases ht:ja1 x
    · have HF:=zh (show jat a=false from by unfold jat;rw[jbf _ _ k x HK.out ht,Bool.and_false])
      have HW:=zh (hw.2 ht);clear hw ht
      go_wp2_with (go_at_call 169;refine HW.out.mono ?_;rintro e w1 ⟨rfl,hx1⟩)
      go_ret;exact⟨by rw[HF.out];rfl,((Ext.refl _).alloc _).trans' (hx.trans' hx1)⟩
    have HP:=zh (show (a.args.take (k+1)).all ja1=true from by rw[jbo _ _ k x HK.out,hp.out,ht];rfl);have HW:=zh (hw.1 ht);clear hw ht
    go_wp2_with (go_at_call 169;refine HW.out.mono ?_;rintro e w1 ⟨rfl,hx1⟩)
    go_roundw
    case rel=>exact⟨k+1,by omega,by go_num,HP,hx.trans' hx1⟩
    case measure=>simp[intOf];omega
  have hall:=jbm _ _ k hlt hp.out;have hw:=jai (jg2 a.n wr hs);clear hp
  cases hn:jay a.n
  · have HF:=zh (show jat a=false from by unfold jat;rw[hn];rfl)
    have HW:=zh (hw.2 hn);clear hw hn hall
    go_wp2_with (go_at_call 61;refine HW.out.mono ?_;rintro e w1 ⟨rfl,rfl⟩)
    go_ret;exact⟨by rw[HF.out];rfl,((Ext.refl _).alloc _).trans' hx⟩
  have HF:=zh (show jat a=decide (a.args.length≤3) from by unfold jat;rw[hn,hall];simp);have HW:=zh (hw.1 hn);clear hw hn hall
  go_wp2_with (go_at_call 61;refine HW.out.mono ?_;rintro e w1 ⟨rfl,rfl⟩)
  go_ret;exact⟨by rw[HF.out];exact ja6 (by simp;omega),((Ext.refl _).alloc _).trans' hx⟩
end Go.Proofs.YthdojieomhighaaGreatDoor
