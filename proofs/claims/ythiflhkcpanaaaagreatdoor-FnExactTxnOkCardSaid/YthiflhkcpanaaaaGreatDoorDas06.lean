/- Own texts, joined. -/
import Derived.Test.YthiflhkcpanaaaaGreatDoorDas05
import Derived.Maps.OwnSet
import Derived.Maps.OwnOps
import Derived.Maps.Views
import Derived.StringKeys
import Derived.Lib.IndexMore
set_option linter.unusedSimpArgs false
set_option linter.unusedVariables false
namespace Go.Proofs.YthiflhkcpanaaaaGreatDoor
open Go.RowKit
/-! ### The places of names -/
def idxB:List ByteArray->ByteArray->Option Nat
 | [],_=>none
 | y :: l,x=>if y=x then some 0 else (idxB l x).map (· +1)
theorem jd6:∀ {l:List ByteArray} {x:ByteArray} {i:Nat},idxB l x=some i->l[i]? = some x
 | y :: l,x,i,h=>by
   unfold idxB at h;split at h
   . rename_i e;injection h with h;subst h;rw[e];rfl
   cases hi:idxB l x with
   | none=>rw[hi] at h;cases h
   | some j =>
     rw[hi] at h;injection h with h;subst h
     rw[List.getElem?_cons_succ];exact jd6 hi
theorem jc9 {l:List ByteArray} {x:ByteArray} {i:Nat} (h:idxB l x=some i):i<l.length:=(List.getElem?_eq_some_iff.1 (jd6 h)).1
theorem j0n {l:List ByteArray} {x y:ByteArray} {i:Nat} (h:idxB l x=some i) (k:idxB l y=some i):x=y:=by
 have h1:=jd6 h;rw[jd6 k] at h1;injection h1 with h1;exact h1.symm
theorem jcq:∀ {l:List ByteArray} {x:ByteArray},x∈l->∃ i,idxB l x=some i
 | y :: l,x,h=>by
   unfold idxB;by_cases e:y=x
   . exact⟨0,by rw[if_pos e]⟩
   rcases List.mem_cons.1 h with h|h
   . exact absurd h.symm e
   obtain⟨i,hi⟩:=jcq h;exact⟨i+1,by rw[if_neg e,hi];rfl⟩
theorem jih:∀ (l:List ByteArray) (y x:ByteArray),idxB (l++[y]) x=match idxB l x with|some i=>some i|none=>if y=x then some l.length else none
 | [],y,x=>by simp[idxB]
 | z :: l,y,x=>by
   simp only[List.cons_append,idxB,jih l y x];by_cases e:z=x
   . simp[e]
   simp only[if_neg e]
   cases idxB l x with
   | some i=>rfl
   | none =>
     by_cases e2:y=x
     . simp[e2]
     simp[e2]
def jf4:List GR->List ByteArray->List ByteArray
 | [],hs=>hs
 | r :: l,hs=>jf4 l (if (idxB hs r.head.n).isSome then hs else hs++[r.head.n])
def heads (l:List GR):List ByteArray:=jf4 l []
theorem jl2:∀ (l:List GR) (r:GR) (hs:List ByteArray),jf4 (l++[r]) hs=if (idxB (jf4 l hs) r.head.n).isSome then jf4 l hs else jf4 l hs++[r.head.n]
 | [],r,hs=>rfl
 | x :: l,r,hs=>by
   simp only[List.cons_append,jf4];exact jl2 l r _
theorem jwm (l:List GR) (r:GR):heads (l++[r])=if (idxB (heads l) r.head.n).isSome then heads l else heads l++[r.head.n]:=jl2 l r []
theorem jn2:∀ (l:List GR) (hs:List ByteArray),(jf4 l hs).length<=hs.length+l.length
 | [],hs=>Nat.le_refl _
 | x :: l,hs=>by
   have:=jn2 l (if (idxB hs x.head.n).isSome then hs else hs++[x.head.n]);simp only[jf4];split at this
   . rename_i e;rw[if_pos e,List.length_cons];omega
   rename_i e;rw[if_neg e,List.length_cons];rw[List.length_append,List.length_singleton] at this;omega
theorem jq6 (l:List GR):(heads l).length<=l.length:=by
 have:=jn2 l [];simpa [heads] using this
theorem jn3:∀ {l:List GR} {hs:List ByteArray} {x:ByteArray},x∈jf4 l hs↔x∈hs∨∃ r∈l,r.head.n=x
 | [],hs,x=>by simp[jf4]
 | y :: l,hs,x=>by
   simp only[jf4];rw[jn3];by_cases e:(idxB hs y.head.n).isSome
   . rw [if_pos e]
     obtain⟨i,hi⟩:=Option.isSome_iff_exists.1 e;have hm:y.head.n∈hs:=List.mem_of_getElem? (jd6 hi)
     constructor
     . rintro (h|⟨r,hr,h⟩)
       . exact .inl h
       exact .inr ⟨r,List.mem_cons_of_mem _ hr,h⟩
     rintro (h|⟨r,hr,h⟩)
     . exact .inl h
     rcases List.mem_cons.1 hr with rfl|hr
     . exact .inl (h▸hm)
     exact .inr ⟨r,hr,h⟩
   rw[if_neg e]
   constructor
   . rintro (h|⟨r,hr,h⟩)
     . rcases List.mem_append.1 h with h|h
       . exact .inl h
       exact .inr ⟨y,by simp,(List.mem_singleton.1 h).symm⟩
     exact .inr ⟨r,List.mem_cons_of_mem _ hr,h⟩
   rintro (h|⟨r,hr,h⟩)
   . exact .inl (List.mem_append_left _ h)
   rcases List.mem_cons.1 hr with rfl|hr
   . exact .inl (List.mem_append_right _ (by simp[h]))
   exact .inr ⟨r,hr,h⟩
theorem jcs {l:List GR} {x:ByteArray}:x∈heads l↔∃ r∈l,r.head.n=x:=by
 unfold heads;rw[jn3];simp
/-! ### Levels by places -/
def Low (l:List GR) (o:List Nat):Prop:=o.length=(heads l).length/\(∀ i,i<o.length->at0 o i<o.length)/\∀ f:ByteArray->Nat,dep l f->(∀ x∈heads l,f x<(heads l).length)->∀ x i,idxB (heads l) x=some i->at0 o i<=f x
theorem jva (n i:Nat):at0 (List.replicate n 0) i=0:=by
 unfold at0;rw[List.getD_eq_getElem?_getD,List.getElem?_replicate];split<;>rfl
theorem Low.start (l:List GR):Low l (List.replicate (heads l).length 0):=by
 refine⟨List.length_replicate,fun i hi=>?_,fun f _ _ x i _=>?_⟩
 . rw[jva];omega
 rw[jva];exact Nat.zero_le _
theorem Low.least {l:List GR} {o:List Nat} (h:Low l o) {f:ByteArray->Nat} (hd:dep l f) (hb:∀ x∈heads l,f x<(heads l).length) {r:GR} {p:GP} (hr:r∈l) (hp:p∈r.body) {j:Nat} (hj:idxB (heads l) p.atom.n=some j):at0 o j+one p.no<=f r.head.n:=by
 have h1:=h.2.2 f hd hb _ _ hj;have h2:=hd r hr p hp (jcs.1 (List.mem_of_getElem? (jd6 hj)));omega
theorem Low.set {l:List GR} {o:List Nat} (h:Low l o) {r:GR} {p:GP} (hr:r∈l) (hp:p∈r.body) {j own:Nat} (hj:idxB (heads l) p.atom.n=some j) (ho:idxB (heads l) r.head.n=some own) (hlt:at0 o j+one p.no<(heads l).length):Low l (o.set own (at0 o j+one p.no)):=by
 have hown:own<o.length:=by rw[h.1];exact jc9 ho
 refine⟨List.length_set.trans h.1,fun i hi=>?_,fun f hd hb x i hx=>?_⟩
 . rw [List.length_set] at hi ⊢
   rw[jfs hown];split
   . rw[h.1];exact hlt
   exact h.2.1 i hi
 rw[jfs hown];split
 . rename_i e
   subst e;have:=j0n hx ho;subst this;exact h.least hd hb hr hp hj
 exact h.2.2 f hd hb x i hx
open Classical in
theorem Low.cycle {l:List GR} {o:List Nat} (h:Low l o) {r:GR} {p:GP} (hr:r∈l) (hp:p∈r.body) {j:Nat} (hj:idxB (heads l) p.atom.n=some j) (hge:(heads l).length<=at0 o j+one p.no):jdp l=true:=by
 unfold jdp;refine decide_eq_true fun hs=>?_
 obtain⟨f,hd,hb⟩:=jl1 (hs:=heads l) (fun r hr=>jcs.2 ⟨r,hr,rfl⟩) hs;have h1:=h.least hd hb hr hp hj;have h2:=hb _ (jcs.2 ⟨r,hr,rfl⟩);omega
def metB (l:List GR) (o:List Nat) (r:GR) (p:GP):Prop:=∀ j own,idxB (heads l) p.atom.n=some j->idxB (heads l) r.head.n=some own->at0 o j+one p.no<=at0 o own
open Classical in
theorem jq7 {l:List GR} {o:List Nat} (h:∀ r∈l,∀ p∈r.body,metB l o r p):jdp l=false:=by
 unfold jdp
 refine decide_eq_false fun hn=>hn ⟨fun x=>match idxB (heads l) x with|some i=>at0 o i|none=>0,fun r hr p hp he=>?_⟩
 obtain⟨own,ho⟩:=jcq (jcs.2 ⟨r,hr,rfl⟩);obtain⟨j,hj⟩:=jcq (jcs.2 he);have:=h r hr p hp j own hj ho;simp only[hj,ho];exact this
theorem j10 {o:List Nat}:∀ {i v:Nat},i<o.length->at0 o i<v->o.sum<(o.set i v).sum:=by
 induction o with
 | nil=>intro i v h _;exact absurd h (Nat.not_lt_zero _)
 | cons x o ih =>
   intro i v h hv
   cases i with
   | zero =>
     have hv':x<v:=hv;simp only[List.set_cons_zero,List.sum_cons];omega
   | succ i =>
     have:=ih (i:=i) (v:=v) (by simpa using h) hv;simp only[List.set_cons_succ,List.sum_cons];omega
theorem Low.sum_le {l:List GR} {o:List Nat} (h:Low l o):o.sum<=(heads l).length*(heads l).length:=by
 have:=jpf (o:=o) (n:=o.length) (fun x hx=>by
  obtain⟨i,hi,rfl⟩:=List.getElem_of_mem hx;have:=h.2.1 i hi;have e:=jdg hi;rw[List.getElem?_eq_getElem hi] at e;injection e with e
  rw[e];exact this)
 rw[h.1] at this;exact this
/-! ### One pass of the program over rules -/
def Pass (l:List GR) (o0 o:List Nat) (b:Bool) (i j:Nat):Prop :=
 (b=true->o0.sum<o.sum)/\(b=false->o=o0/\(∀ i' r,i'<i->l[i']? = some r->∀ p∈r.body,metB l o0 r p)/\∀ r,l[i]? = some r->∀ j' p,j'<j->r.body[j']? = some p->metB l o0 r p)
theorem Pass.start (l:List GR) (o:List Nat):Pass l o o false 0 0   :=⟨fun h=>(by cases h),fun _=>⟨rfl,fun _ _ h=>absurd h (Nat.not_lt_zero _),fun _ _ _ _ h=>absurd h (Nat.not_lt_zero _)⟩⟩
theorem Pass.part {l:List GR} {o0 o:List Nat} {b:Bool} {i j:Nat} {r:GR} {p:GP} (h:Pass l o0 o b i j) (hr:l[i]? = some r) (hp:r.body[j]? = some p) (hm:metB l o r p):Pass l o0 o b i (j+1):=by
 refine⟨h.1,fun hb=>?_⟩;obtain⟨rfl,h2,h3⟩:=h.2 hb;refine⟨rfl,h2,fun r' hr' j' p' hj hp'=>?_⟩;have e:r'=r:=Option.some.inj (hr'.symm.trans hr);subst e;rcases Nat.lt_or_ge j' j with hlt|hge
 . exact h3 _ hr _ _ hlt hp'
 have e:j'=j:=by omega
 subst e;have e2:p'=p:=Option.some.inj (hp'.symm.trans hp);subst e2;exact hm
theorem Pass.moved {l:List GR} {o0 o:List Nat} {b:Bool} {i j own v:Nat} (h:Pass l o0 o b i j) (hown:own<o.length) (hv:at0 o own<v):Pass l o0 (o.set own v) true i (j+1):=by
 refine⟨fun _=>?_,fun hb=>by cases hb⟩;have h1:=j10 hown hv
 cases b with
 | true=>have:=h.1 rfl;omega
 | false=>obtain⟨rfl,_⟩:=h.2 rfl;exact h1
theorem Pass.rule {l:List GR} {o0 o:List Nat} {b:Bool} {i j:Nat} {r:GR} (h:Pass l o0 o b i j) (hr:l[i]? = some r) (hj:r.body.length<=j):Pass l o0 o b (i+1) 0:=by
 refine⟨h.1,fun hb=>?_⟩;obtain⟨rfl,h2,h3⟩:=h.2 hb;refine⟨rfl,fun i' r' hi hr' p hp=>?_,fun _ _ _ _ h=>absurd h (Nat.not_lt_zero _)⟩;rcases Nat.lt_or_ge i' i with hlt|hge
 . exact h2 _ _ hlt hr' p hp
 have e:i'=i:=by omega
 subst e;obtain⟨j',hj',rfl⟩:=List.getElem_of_mem hp;have e:r'=r:=Option.some.inj (hr'.symm.trans hr);subst e;exact h3 _ hr j' _ (by omega) (List.getElem?_eq_getElem hj')
theorem Pass.done {l:List GR} {o0 o:List Nat} {i j:Nat} (h:Pass l o0 o false i j) (hi:l.length<=i):o=o0/\∀ r∈l,∀ p∈r.body,metB l o r p:=by
 obtain⟨rfl,h2,_⟩:=h.2 rfl;refine⟨rfl,fun r hr p hp=>?_⟩;obtain⟨k,hk,rfl⟩:=List.getElem_of_mem hr;exact h2 k _ (by omega) (List.getElem?_eq_getElem hk) p hp
/-! ### Maps of names to numbers -/
def MapN (w:World) (B n:Nat) (f:ByteArray->Option Nat):Prop :=
 ∃ D : DataW Unit,w.ownsMap Tryz.prog 9 (plainElem Tryz.prog 3) B n D/\Maps.size D=n /\
   ∀ s:ByteArray,Maps.has D (.string s.data.toList)=(f s).isSome/\D.atKey (.string s.data.toList) (.lit (.int .i64 0))=.lit (.int .i64 (((f s).getD 0:Nat):Int))
theorem jl3:Go.Maps.Keyed Tryz.prog 9:=Go.Maps.string_keyed Tryz.underlying9
theorem jtj (w:World):(zeroValue 3).run Tryz.prog w=.ok (.int .i64 0) w:=by kernel_rfl
theorem MapN.made (w:World):MapN (w.alloc (.map #[] 0)) w.heap.size 0 (fun _=>none) :=
 ⟨.map [],World.ownsMap_made _ _ _ _,rfl,fun _=>⟨rfl,rfl⟩⟩
theorem MapN.alloc {w:World} {B n:Nat} {f:ByteArray->Option Nat} (h:MapN w B n f) (o:Obj):MapN (w.alloc o) B n f:=by
 obtain⟨D,h1,h2⟩:=h;exact⟨D,h1.alloc o,h2⟩
theorem MapN.lt {w:World} {B n:Nat} {f:ByteArray->Option Nat} (h:MapN w B n f):B<w.heap.size:=by
 obtain⟨D,h1,h2⟩:=h;exact h1.lt
theorem MapN.drew {w:World} {B n:Nat} {f:ByteArray->Option Nat} (h:MapN w B n f):MapN w.drew B n f:=h
theorem MapN.setCell {w:World} {B n:Nat} {f:ByteArray->Option Nat} (h:MapN w B n f) {a:Addr} (ha:B≠a.block) (u:Value):MapN (w.setCell a u) B n f:=by
 obtain⟨D,h1,h2⟩:=h;exact⟨D,h1.setCell ha u,h2⟩
theorem MapN.ext {w w':World} {B n:Nat} {f:ByteArray->Option Nat} (h:MapN w B n f) (hx:w'.heap[B]? = w.heap[B]?):MapN w' B n f:=by
 obtain⟨D,⟨es,clock,hb,r⟩,h2⟩:=h;exact⟨D,⟨es,clock,by rw[hx];exact hb,r⟩,h2⟩
theorem MapN.same {w:World} {B n:Nat} {f g:ByteArray->Option Nat} (h:MapN w B n f) (e:∀ x,f x=g x):MapN w B n g:=by
 rwa [show g=f from funext fun x=>(e x).symm]
theorem j1w {s x:ByteArray} (h:x≠s):Lit.string x.data.toList≠Lit.string s.data.toList:=fun e=>by
 injection e with e
 exact h (by cases x;cases s;simpa using Array.toList_inj.1 e)
theorem MapN.put {w w':World} {B n m v:Nat} {f:ByteArray->Option Nat} {s:ByteArray} {D:DataW Unit} (h:w.ownsMap Tryz.prog 9 (plainElem Tryz.prog 3) B n D) (hz:Maps.size D=n) (hf:∀ s:ByteArray,Maps.has D (.string s.data.toList)=(f s).isSome/\D.atKey (.string s.data.toList) (.lit (.int .i64 0))=.lit (.int .i64 (((f s).getD 0:Nat):Int)))
  (h1:w'.ownsMap Tryz.prog 9 (plainElem Tryz.prog 3) B m (D.put (.string s.data.toList) (.lit (.int .i64 ((v:Nat):Int))))):MapN w' B (if (f s).isSome then n else n+1) (fun x=>if x=s then some v else f x):=by
 have hsz:Maps.size (D.put (.string s.data.toList) (.lit (.int .i64 ((v:Nat):Int))))=if (f s).isSome then n else n+1:=by
  rw[Maps.size_put (h.tidy jl3),(hf s).1,hz]
 have h2:w'.ownsMap Tryz.prog 9 (plainElem Tryz.prog 3) B (if (f s).isSome then n else n+1) (D.put (.string s.data.toList) (.lit (.int .i64 ((v:Nat):Int)))):=by
  obtain⟨es,clock,hb,F,hs,e⟩:=h1;refine⟨es,clock,hb,F,?_,e⟩;rw[<- hsz,e];simp[Maps.size,length_sorted]
 refine⟨_,h2,hsz,fun x=>?_⟩;by_cases e:x=s
 . subst e
   dsimp only;rw[Maps.has_put_same h.isMap (by exact trivial),Maps.atKey_put_same h.isMap (by exact trivial),if_pos rfl];exact⟨rfl,rfl⟩
 dsimp only;rw[Maps.has_put_other (j1w e),Maps.atKey_put_other (j1w e),if_neg e];exact hf x
section
variable (w:World) {ops:Array Oper} {rest:List Oper} {o:Oper} {a:Act} {Q:Exit->Act->World->Prop}
theorem jhe (hg:o.guard=none) (m x:Operand) (hop:o.op=Op.lookup 187 m x true) (B n:Nat) (f:ByteArray->Option Nat) (hm:a.eval m=.map (some B)) (hown:MapN w B n f) (s:ByteArray) (hx:a.eval x=.string s) (hs:s.size<=maxLen)
  (hK:wpList Tryz.prog ops Q rest (a.put o.dst (.tuple #[.int .i64 (((f s).getD 0:Nat):Int),.bool (f s).isSome])) w):wpList Tryz.prog ops Q (o :: rest) a w:=by
 obtain⟨D,h1,h2,h3⟩:=hown;refine wpList_lookup_own_ok_int w hg m x _ hop 9 3 .i64 jl3 Tryz.underlying187 Tryz.underlying3 (jtj _) B n D hm h1 _ _ hx (Go.WideMaps.keyOf_string_mk Tryz.underlying9 hs) ?_;intro c hat hwc;have h4:=(h3 s).2.symm.trans hat
 have h5:c=(((f s).getD 0:Nat):Int):=by
  injection h4 with h4;injection h4 with _ h4;exact h4.symm
 rw[(h3 s).1,h5];exact hK
theorem jft (hg:o.guard=none) (m x:Operand) (hop:o.op=Op.lookup 187 m x false) (B n:Nat) (f:ByteArray->Option Nat) (hm:a.eval m=.map (some B)) (hown:MapN w B n f) (s:ByteArray) (hx:a.eval x=.string s) (hs:s.size<=maxLen)
  (hK:wpList Tryz.prog ops Q rest (a.put o.dst (.int .i64 (((f s).getD 0:Nat):Int))) w):wpList Tryz.prog ops Q (o :: rest) a w:=by
 obtain⟨D,h1,h2,h3⟩:=hown;refine wpList_lookup_own_int w hg m x _ hop 9 3 .i64 jl3 Tryz.underlying187 Tryz.underlying3 (jtj _) B n D hm h1 _ _ hx (Go.WideMaps.keyOf_string_mk Tryz.underlying9 hs) ?_;intro c hat hwc;have h4:=(h3 s).2.symm.trans hat
 have h5:c=(((f s).getD 0:Nat):Int):=by
  injection h4 with h4;injection h4 with _ h4;exact h4.symm
 rw[h5];exact hK
theorem jen (hg:o.guard=none) (m x v:Operand) (hop:o.op=Op.mapUpdate 187 m x v) (B n:Nat) (f:ByteArray->Option Nat) (hm:a.eval m=.map (some B)) (hown:MapN w B n f) (hn:n<=1000000) (s:ByteArray) (hx:a.eval x=.string s) (hs:s.size<=maxLen) (k:Nat) (hv:a.eval v=.int .i64 ((k:Nat):Int)) (hk:k<=1000000)
  (hK:∀ w',MapN w' B (if (f s).isSome then n else n+1) (fun x=>if x=s then some k else f x)->w.grownBy w' (some B)->wpList Tryz.prog ops Q rest (a.put o.dst undef) w'):wpList Tryz.prog ops Q (o :: rest) a w:=by
 obtain⟨D,h1,h2,h3⟩:=hown;refine wpList_mapUpdate_own w hg m x v _ hop 9 3 jl3 Tryz.underlying187 _ B n D hm h1 (by unfold maxLen;omega) _ _ _ hx hv (Go.WideMaps.keyOf_string_mk Tryz.underlying9 hs) _ [] (plainElem_int Tryz.underlying3 (WalkArith.wf_i64 (by omega))) ?_;intro w' h4 h5;exact hK w' (MapN.put h1 h2 h3 h4) h5
theorem jbr (hg:o.guard=none) (m:Operand) (hop:o.op=Op.call { callee:=Callee.builtin Builtin.len,args:= #[m],argTypes:= #[187] }) (B n:Nat) (f:ByteArray->Option Nat) (hm:a.eval m=.map (some B)) (hown:MapN w B n f)
  (hK:wpList Tryz.prog ops Q rest (a.put o.dst (.int .i64 ((n:Nat):Int))) w):wpList Tryz.prog ops Q (o :: rest) a w:=by
 obtain⟨D,h1,h2,h3⟩:=hown;refine wpList_len_own w hg m _ hop 9 3 Tryz.underlying187 _ B n D hm h1 ?_;rw[h2];exact hK
end
end Go.Proofs.YthiflhkcpanaaaaGreatDoor
namespace Go.Proofs.YthiflhkcpanaaaaGreatDoor
open Go.RowKit
structure LB where
 ns:List ByteArray
 vs:List ByteArray
def LB.get (b:LB) (x:ByteArray):Option ByteArray:=match idxB b.ns x with
 | some i=>b.vs[i]?
 | none=>none
def LB.plus (b:LB) (n v:ByteArray):LB:=⟨b.ns++[n],b.vs++[v]⟩
def jq8:ByteArray:=⟨#[]⟩
def jcw (t f:GT) (b:LB):LB × Bool :=
 if t.v then match b.get t.n with
  | none=>(b.plus t.n f.n,true)
  | some v=>(b,decide (v=f.n))
 else (b,decide (t.n=f.n))
def jch:List GT->List GT->LB->LB × Bool
 | t :: ts,f :: fs,b=>if (jcw t f b).2 then jch ts fs (jcw t f b).1 else ((jcw t f b).1,false)
 | _,_,b=>(b,true)
def jcz (a fact:GA) (b:LB):LB × Bool:=if a.n=fact.n/\a.args.length=fact.args.length then jch a.args fact.args b else (b,false)
def fillT (b:LB) (t:GT):GT:=⟨false,if t.v then (b.get t.n).getD jq8 else t.n⟩
def fillN (a:GA) (b:LB):GA:=⟨a.n,a.args.map (fillT b)⟩
def jbs (a:GA) (list:List GA) (b:LB):List LB:=list.filterMap fun f=>if (jcz a f b).2 then some (jcz a f b).1 else none
def jbe (list:List GA) (out:List LB) (p:GP):List LB:=if p.no then out else out.flatMap (jbs p.atom list)
def heldB (list:List GA) (body:List GP) (b:LB):Bool:=body.all fun p=> !p.no || !hasA list (fillN p.atom b)
def allN (list:List GA) (body:List GP):List LB:=(body.foldl (jbe list) [⟨[],[]⟩]).filter (heldB list body)
def jbi (levels:List Nat) (level:Nat) (list:List GA) (out:List GA) (x:GR × Nat):List GA :=
 if at0 levels x.2=level then (allN list x.1.body).foldl (fun o b=>putA o (fillN x.1.head b)) out else out
def onceN (rules:List GR) (levels:List Nat) (level:Nat) (list:List GA):List GA:=rules.zipIdx.foldl (jbi levels level list) []
structure RL where
 list:List GA
 round:List Nat
def RL.put (r:RL) (n:Nat) (a:GA):RL:=if hasA r.list a then r else ⟨putA r.list a,r.round.take (ja8 r.list a)++[n]++r.round.drop (ja8 r.list a)⟩
def RL.puts (r:RL) (n:Nat) (l:List GA):RL:=l.foldl (fun r a=>r.put n a) r
def jeb (rules:List GR) (levels:List Nat) (level:Nat):Nat->RL->Nat->RL × Nat × Bool
 | 0,r,n=>(r,n,true)
 | f + 1,r,n =>
   let r2:=r.puts (n+1) (onceN rules levels level r.list)
   if 300<r2.list.length then (r2,n+1,false) else if r2.list.length=r.list.length then (r2,n,true) else jeb rules levels level f r2 (n+1)
def runL (rules:List GR) (levels:List Nat):Nat->Nat->RL->Nat->RL × Bool
 | 0,_,r,_=>(r,true)
 | k + 1,level,r,n=>match jeb rules levels level (302-r.list.length) r n with
   | (r2,n2,ok)=>if ok then runL rules levels k (level+1) r2 n2 else (r2,false)
def runN (rules:List GR) (given:List GA):RL × Bool:=runL rules (jap rules) (rules.length+1) 0 ⟨given,List.replicate given.length 0⟩ 0
def fitB (rules:List GR) (list:List GA):Bool:=list.all fun a=>(jaq rules).all fun b=> !(decide (b.n=a.n)) || decide (b.args.length=a.args.length)
noncomputable def jbm (rules:List GR) (given:List GA):Bool:=decide (jag rules=0) && jbb given 40 && fitB rules given
theorem RL.put_len (r:RL) (n:Nat) (a:GA):r.list.length<=(r.put n a).list.length/\(r.put n a).list.length<=r.list.length+1:=by
 unfold RL.put;split
 . exact⟨Nat.le_refl _,Nat.le_succ _⟩
 rename_i h;unfold putA;rw[if_neg h];have:=jgf r.list a;simp only[List.length_append,List.length_take,List.length_drop,List.length_cons,List.length_nil];omega
theorem RL.puts_len (n:Nat):∀ (l:List GA) (r:RL),r.list.length<=(r.puts n l).list.length/\(r.puts n l).list.length<=r.list.length+l.length
 | [],r=>⟨Nat.le_refl _,Nat.le_refl _⟩
 | a :: l,r=>by
   have h1:=r.put_len n a;have h2:=RL.puts_len n l (r.put n a);simp only[RL.puts,List.foldl_cons,List.length_cons] at *;omega
theorem RL.put_round {r:RL} {n:Nat} {a:GA} (h:r.round.length=r.list.length):(r.put n a).round.length=(r.put n a).list.length:=by
 unfold RL.put;split
 . exact h
 rename_i hh;unfold putA;rw[if_neg hh];simp only[List.length_append,List.length_take,List.length_drop,List.length_cons,List.length_nil,h]
theorem RL.puts_round (n:Nat):∀ (l:List GA) (r:RL),r.round.length=r.list.length->(r.puts n l).round.length=(r.puts n l).list.length
 | [],r,h=>h
 | a :: l,r,h=>RL.puts_round n l _ (RL.put_round h)
theorem jl4 (rules:List GR) (levels:List Nat) (level:Nat):∀ (f g:Nat) (r:RL) (n:Nat),r.list.length<=301->302-r.list.length<=f->f<=g->jeb rules levels level f r n=jeb rules levels level g r n
 | 0,g,r,n,h1,h2,h3=>by omega
 | f+1,0,r,n,h1,h2,h3=>by omega
 | f + 1,g+1,r,n,h1,h2,h3=>by
   simp only[jeb];split
   . rfl
   split
   . rfl
   rename_i h4 h5;have h6:=RL.puts_len (n+1) (onceN rules levels level r.list) r;exact jl4 rules levels level f g _ _ (by omega) (by omega) (by omega)
theorem jl5 (rules:List GR) (levels:List Nat) (level:Nat) (r:RL) (n:Nat) (h:r.list.length<=300) :
  jeb rules levels level (302-r.list.length) r n =
   (let r2:=r.puts (n+1) (onceN rules levels level r.list)
    if 300<r2.list.length then (r2,n+1,false) else if r2.list.length=r.list.length then (r2,n,true) else jeb rules levels level (302-r2.list.length) r2 (n+1)):=by
 obtain⟨f,hf⟩:∃ f,302-r.list.length=f+1:=⟨301-r.list.length,by omega⟩
 rw[hf];simp only[jeb];split
 . rfl
 split
 . rfl
 rename_i h4 h5;have h6:=RL.puts_len (n+1) (onceN rules levels level r.list) r;exact (jl4 rules levels level (302-(r.puts (n+1) (onceN rules levels level r.list)).list.length) f (r.puts (n+1) (onceN rules levels level r.list)) (n+1) (by omega) (Nat.le_refl _) (by omega)).symm
theorem jfc {α β:Type} (f:β->α->β) (o:β) (l:List α) (k:Nat) (x:α) (h:l[k]? = some x):(l.take (k+1)).foldl f o=f ((l.take k).foldl f o) x:=by
 obtain⟨hk,rfl⟩:=List.getElem?_eq_some_iff.1 h;rw[List.take_succ_eq_append_getElem hk,List.foldl_append];rfl
theorem jwn (a:GA) (list:List GA) (b:LB):(jbs a list b).length<=list.length:=List.length_filterMap_le _ _
theorem jvb {α β:Type} (f:α->List β) (n:Nat):∀ (l:List α),(∀ x∈l,(f x).length<=n)->(l.flatMap f).length<=l.length*n
 | [],_=>by simp
 | x :: l,h=>by
   have h1:=h x (by simp);have h2:=jvb f n l (fun x hx=>h x (List.mem_cons_of_mem _ hx));rw[List.flatMap_cons,List.length_append,List.length_cons,Nat.add_mul,Nat.one_mul];omega
theorem jtk (list:List GA) (out:List LB) (p:GP):(jbe list out p).length<=out.length*(list.length+1):=by
 unfold jbe;split
 . exact Nat.le_mul_of_pos_right _ (Nat.succ_pos _)
 refine Nat.le_trans (jvb _ list.length out fun b _=>jwn _ _ _) (Nat.mul_le_mul_left _ (Nat.le_succ _))
theorem jho (list:List GA):∀ (body:List GP) (out:List LB),(body.foldl (jbe list) out).length<=out.length*(list.length+1) ^ body.length
 | [],out=>by simp
 | p :: body,out=>by
   have h1:=jtk list out p;have h2:=jho list body (jbe list out p);rw[List.foldl_cons,List.length_cons,Nat.pow_succ];refine Nat.le_trans h2 ?_;rw[Nat.mul_comm ((list.length+1) ^ body.length),<- Nat.mul_assoc];exact Nat.mul_le_mul_right _ h1
def strOf (l:List UInt8):ByteArray:=⟨l.toArray⟩
theorem jfd (l:List UInt8):(strOf l).size=l.length:=by simp[strOf,ByteArray.size]
def jcx:List GT->List UInt8
 | []=>[]
 | [t]=>t.n.data.toList
 | t :: u :: l=>t.n.data.toList++[44]++jcx (u :: l)
def atomL (a:GA):List UInt8:=a.n.data.toList++[40]++jcx a.args++[41]
theorem jl6:∀ (l:List GT) (t:GT),jcx (l++[t])=(if l=[] then [] else jcx l++[44])++t.n.data.toList
 | [],t=>rfl
 | [u],t=>by simp[jcx]
 | u :: v :: l,t=>by
   have ih:=jl6 (v :: l) t;simp only[List.cons_append] at ih ⊢;simp only[jcx,ih];simp
theorem jtl {l:List GT} {k:Nat} {t:GT} (h:l[k]? = some t):jcx (l.take (k+1))=(if k=0 then [] else jcx (l.take k)++[44])++t.n.data.toList:=by
 obtain⟨hk,rfl⟩:=List.getElem?_eq_some_iff.1 h;rw[List.take_succ_eq_append_getElem hk,jl6]
 congr 1
 by_cases h0:k=0
 . subst h0;rfl
 rw[if_neg h0,if_neg];rw[List.take_eq_nil_iff];rintro (e|e)
 . exact h0 e
 subst e;simp at hk
theorem jjf:∀ (l:List GT),(jcx l).length<=jbz l
 | []=>Nat.zero_le _
 | [t]=>by simp[jcx,jbz,wTerm]
 | t :: u :: l=>by
   have ih:=jjf (u :: l);simp only[jcx,jbz,wTerm,List.length_append,List.length_cons,List.map_cons,List.sum_cons,List.length_nil] at ih ⊢;have:t.n.data.toList.length=t.n.size:=by simp
   omega
theorem jtm (l:List GT) (k:Nat):jbz (l.take k)<=jbz l:=by
 unfold jbz;have h:(l.map wTerm).sum=((l.take k++l.drop k).map wTerm).sum:=by rw[List.take_append_drop]
 rw[h,List.map_append,List.sum_append,List.length_take];omega
theorem jl7 (a:GA):(atomL a).length<=wAtom a+2:=by
 have:=jjf a.args;have h:a.n.data.toList.length=a.n.size:=by simp
 unfold atomL wAtom;simp only[List.length_append,List.length_cons,List.length_nil];omega
def jfe (c:UInt8):List UInt8->List (List UInt8)
 | []=>[[]]
 | x :: l=>if x=c then [] :: jfe c l else match jfe c l with | []=>[[x]]|p :: ps=>(x :: p) :: ps
theorem jhp {c:UInt8}:∀ {l:List UInt8},c ∉ l->jfe c l=[l]
 | [],_=>rfl
 | x :: l,h=>by
   have h1:x≠c:=fun e=>h (by simp[e])
   have h2:c ∉ l:=fun e=>h (List.mem_cons_of_mem _ e)
   unfold jfe;rw[if_neg h1,jhp h2]
theorem jjg {c:UInt8}:∀ {p l:List UInt8},c ∉ p->jfe c (p++c :: l)=p :: jfe c l
 | [],l,_=>by simp[jfe]
 | x :: p,l,h=>by
   have h1:x≠c:=fun e=>h (by simp[e])
   have h2:c ∉ p:=fun e=>h (List.mem_cons_of_mem _ e)
   have ih:=jjg (l:=l) h2;show (if x=c then [] :: jfe c (p++c :: l) else match jfe c (p++c :: l) with | []=>[[x]]|p :: ps=>(x :: p) :: ps)=_;rw[if_neg h1,ih]
def jkl (c:UInt8):Bool:=jka c || upper c
theorem jii {c:UInt8} (h:jkl c=true) (d:UInt8) (hd:jkl d=false):c≠d:=fun e=>by rw[e,hd] at h;cases h
theorem jvc {l:List UInt8} (h:jc5 l=true):∀ c∈l,jkl c=true:=fun c hc=>by
 have:=List.all_eq_true.1 h c hc;unfold jkl;rw[this];rfl
theorem jyg {s:ByteArray} (h:jaz s=true):∀ c∈s.data.toList,jkl c=true:=by
 unfold jaz jbu at h;simp only[Bool.and_eq_true] at h;exact jvc h.1.1
theorem jg3 {s:ByteArray} (h:jaz s=true):1<=s.size/\s.size<=8:=by
 unfold jaz jbu at h;simp only[Bool.and_eq_true] at h;have:=of_decide_eq_true h.1.2;omega
theorem jpg {t:GT} (h:ja3 t=true):∀ c∈t.n.data.toList,jkl c=true:=by
 unfold ja3 at h;split at h
 . unfold jcj at h
   simp only[Bool.and_eq_true] at h;intro c hc;unfold capB at h
   cases hl:t.n.data.toList with
   | nil=>rw[hl] at hc;cases hc
   | cons x l =>
     rw[hl] at h hc;rcases List.mem_cons.1 hc with rfl|hc
     . have hu:upper c=true:=h.1.1
       unfold jkl;rw[hu,Bool.or_true]
     exact jvc h.2 c (by simpa using hc)
 exact jyg h
theorem j0o {t:GT} (h:ja3 t=true):t.n.data.toList≠ []:=by
 unfold ja3 at h;split at h
 . unfold jcj capB at h
   simp only[Bool.and_eq_true] at h;intro e;rw[e] at h;exact absurd h.1.1 (by simp)
 intro e;have:=jg3 h;have hl:t.n.data.toList.length=t.n.size:=by simp
 rw[e] at hl;simp at hl;omega
theorem jvd {t:GT} (h:ja3 t=true):t.v=capB t.n:=by
 unfold ja3 at h;split at h
 . rename_i hv
   unfold jcj at h;simp only[Bool.and_eq_true] at h;rw[hv,h.1.1]
 rename_i hv;have hv':t.v=false:=by simpa using hv
 rw[hv'];unfold jaz jbu at h;simp only[Bool.and_eq_true] at h;unfold capB
 cases hl:t.n.data.toList with
 | nil=>rfl
 | cons x l =>
   rw[hl] at h;have h1:jka x=true:=List.all_eq_true.1 h.1.1 x (by simp);have h2:=ji4 h1;show false=upper x;unfold upper;rw[decide_eq_false (by omega)]
theorem jq9:∀ {l:List GT},(∀ t∈l,ja3 t=true)->∀ c∈jcx l,jkl c=true∨c=44
 | [],_,c,hc=>by simp[jcx] at hc
 | [t],h,c,hc=>.inl (jpg (h t (by simp)) c hc)
 | t :: u :: l,h,c,hc=>by
   unfold jcx at hc;simp only[List.mem_append,List.mem_singleton] at hc;rcases hc with (hc|hc)|hc
   . exact .inl (jpg (h t (by simp)) c hc)
   . exact .inr hc
   exact jq9 (l:=u :: l) (fun t ht=>h t (List.mem_cons_of_mem _ ht)) c hc
theorem jgo:∀ {l:List GT},(∀ t∈l,ja3 t=true)->l≠ []->jfe 44 (jcx l)=l.map fun t=>t.n.data.toList
 | [],_,h=>absurd rfl h
 | [t],h,_=>jhp (fun hc=>jii (jpg (h t (by simp)) 44 hc) 44 rfl rfl)
 | t :: u :: l,h,_=>by
   have ih:=jgo (l:=u :: l) (fun t ht=>h t (List.mem_cons_of_mem _ ht)) (by simp);show jfe 44 (t.n.data.toList++[44]++jcx (u :: l))=_;rw[List.append_assoc,List.singleton_append,jjg (fun hc=>jii (jpg (h t (by simp)) 44 hc) 44 rfl rfl),ih]
   rfl
theorem jn4 {l:List GT} (h:∀ t∈l,ja3 t=true) (hl:l≠ []):jcx l≠ []:=by
 match l,hl with
 | [t],_=>exact j0o (h t (by simp))
 | t :: u :: l,_=>simp[jcx]
theorem jck {a:GA} (h:jat a=true):jaz a.n=true/\a.args.length<=3/\∀ t∈a.args,ja3 t=true:=by
 unfold jat at h;simp only[Bool.and_eq_true,decide_eq_true_eq] at h;exact⟨h.1.1,h.1.2,List.all_eq_true.1 h.2⟩
theorem jn5 {a:GA} (h:jat a=true):jfe 40 (atomL a)=[a.n.data.toList,jcx a.args++[41]]:=by
 obtain⟨h1,h2,h3⟩:=jck h;unfold atomL;rw[List.append_assoc,List.append_assoc,List.singleton_append,jjg (fun hc=>jii (jyg h1 40 hc) 40 rfl rfl),jhp];intro hc;rcases List.mem_append.1 hc with hc|hc
 . rcases jq9 h3 40 hc with hc|hc
   . exact jii hc 40 rfl rfl
   cases hc
 simp at hc
theorem jgp {a b:ByteArray} (h:a.data.toList=b.data.toList):a=b:=by
 apply ByteArray.ext
 exact Array.toList_inj.1 h
theorem jra:∀ {l m:List GT},(∀ t∈l,ja3 t=true)->(∀ t∈m,ja3 t=true)->(l.map fun t=>t.n.data.toList)=(m.map fun t=>t.n.data.toList)->l=m
 | [],[],_,_,_=>rfl
 | [],_ :: _,_,_,h=>by simp at h
 | _ :: _,[],_,_,h=>by simp at h
 | t :: l,u :: m,hl,hm,h=>by
   simp only[List.map_cons,List.cons.injEq] at h;have hn:=jgp h.1;have hv:t.v=u.v:=by rw[jvd (hl t (by simp)),jvd (hm u (by simp)),hn]
   have:t=u:=by cases t;cases u;simp_all
   rw[this,jra (fun t ht=>hl t (List.mem_cons_of_mem _ ht)) (fun t ht=>hm t (List.mem_cons_of_mem _ ht)) h.2]
theorem jyh {l m:List GT} (hl:∀ t∈l,ja3 t=true) (hm:∀ t∈m,ja3 t=true) (h:jcx l=jcx m):l=m:=by
 by_cases h1:l=[]
 . subst h1
   by_cases h2:m=[]
   . exact h2.symm
   exact absurd h.symm (jn4 hm h2)
 by_cases h2:m=[]
 . subst h2;exact absurd h (jn4 hl h1)
 exact jra hl hm (by rw[<- jgo hl h1,<- jgo hm h2,h])
theorem jve {a b:GA} (ha:jat a=true) (hb:jat b=true) (h:atomL a=atomL b):a=b:=by
 have h1:=jn5 ha;have h2:=jn5 hb;rw[h,h2] at h1;simp only[List.cons.injEq,and_true] at h1;have e1:=jgp h1.1;have e2:=jyh (jck hb).2.2 (jck ha).2.2 (List.append_cancel_right h1.2);cases a;cases b;simp_all
theorem jij {a:GA} (h:factB a=true):jat a=true:=by
 unfold factB at h;simp only[Bool.and_eq_true] at h;exact h.1
/-! ### The reference's bindings -/
def LB.ok (b:LB):Prop:=b.ns.length=b.vs.length
theorem j0p {b:LB} (h:b.ok) {x:ByteArray}:b.get x=none↔idxB b.ns x=none:=by
 unfold LB.get
 cases hi:idxB b.ns x with
 | none=>simp
 | some i =>
   have:i<b.vs.length:=by rw[<- h];exact jc9 hi
   simp[List.getElem?_eq_getElem this]
theorem jph {b:LB} (h:b.ok) (n v x:ByteArray):(b.plus n v).get x=match b.get x with|some u=>some u|none=>if n=x then some v else none:=by
 cases hg:b.get x with
 | none =>
   have hi:=(j0p h).1 hg;unfold LB.get LB.plus;simp only[jih,hi];by_cases e:n=x
   . simp only [if_pos e]
     rw[h];simp
   . simp only[if_neg e]
 | some u =>
   unfold LB.get at hg
   cases hi:idxB b.ns x with
   | none=>rw[hi] at hg;cases hg
   | some i =>
     rw[hi] at hg;unfold LB.get LB.plus;simp only[jih,hi];have hlt:i<b.vs.length:=by rw[<- h];exact jc9 hi
     rw[List.getElem?_append_left hlt];exact hg
theorem jyi {b:LB} (h:b.ok) (n v:ByteArray):(b.plus n v).ok:=by
 unfold LB.ok LB.plus at *;simp[h]
def LB.more (b c:LB):Prop:=∀ x u,b.get x=some u->c.get x=some u
theorem jik (b:LB):b.more b:=fun _ _ h=>h
theorem jn6 {a b c:LB} (h:a.more b) (k:b.more c):a.more c:=fun x u hx=>k x u (h x u hx)
def valB (b:LB) (t:GT):Option ByteArray:=if t.v then b.get t.n else some t.n
theorem jrb {b c:LB} (h:b.more c) {t:GT} {u:ByteArray} (ht:valB b t=some u):valB c t=some u:=by
 unfold valB at *;split at ht
 . rename_i e;rw[if_pos e];exact h _ _ ht
 rename_i e;rw[if_neg e];exact ht
theorem jl8 {t f:GT} {b:LB} (hb:b.ok) (h:(jcw t f b).2=true):(jcw t f b).1.ok/\b.more (jcw t f b).1/\valB (jcw t f b).1 t=some f.n:=by
 unfold jcw at h ⊢;by_cases hv:t.v=true
 . simp only [if_pos hv] at h ⊢
   cases hg:b.get t.n with
   | none =>
     simp only;refine⟨jyi hb _ _,fun x u hx=>?_,?_⟩
     . rw[jph hb,hx]
     . unfold valB;rw[if_pos hv,jph hb,hg];simp
   | some v =>
     rw[hg] at h;simp only[decide_eq_true_eq] at h;simp only;exact⟨hb,jik _,by unfold valB;rw[if_pos hv,hg,h]⟩
 simp only[if_neg hv,decide_eq_true_eq] at h ⊢;exact⟨hb,jik _,by unfold valB;rw[if_neg hv,h]⟩
theorem jl9:∀ {ts fs:List GT} {b:LB},b.ok->ts.length=fs.length->(jch ts fs b).2=true->(jch ts fs b).1.ok/\b.more (jch ts fs b).1/\ts.map (valB (jch ts fs b).1)=fs.map (fun f=>some f.n)
 | [],[],b,hb,_,_=>⟨hb,jik _,rfl⟩
 | [],_ :: _,_,_,hl,_=>by simp at hl
 | _ :: _,[],_,_,hl,_=>by simp at hl
 | t :: ts,f :: fs,b,hb,hl,h=>by
   simp only[jch] at h ⊢;split at h
   . rename_i ht
     rw[if_pos ht];obtain⟨h1,h2,h3⟩:=jl8 hb ht;obtain⟨k1,k2,k3⟩:=jl9 h1 (by simpa using hl) h;refine⟨k1,jn6 h2 k2,?_⟩;rw[List.map_cons,List.map_cons,k3,jrb k2 h3]
   cases h
def LB.under (b:LB) (σ:ByteArray->ByteArray):Prop:=∀ x u,b.get x=some u->u=σ x
def valS (σ:ByteArray->ByteArray) (t:GT):ByteArray:=if t.v then σ t.n else t.n
theorem jkm {σ:ByteArray->ByteArray}:∀ {ts fs:List GT} {b:LB},b.ok->b.under σ->ts.map (valS σ)=fs.map (·.n)->(jch ts fs b).2=true/\(jch ts fs b).1.under σ
 | [],[],b,hb,hu,_=>⟨rfl,hu⟩
 | [],_ :: _,_,_,_,hm=>by simp at hm
 | _ :: _,[],_,_,_,hm=>by simp at hm
 | t :: ts, f :: fs,b,hb,hu,hm=>by
   rw[List.map_cons,List.map_cons] at hm;injection hm with hm1 hm2
   have key : (jcw t f b).2=true/\(jcw t f b).1.under σ:=by
    unfold jcw;unfold valS at hm1;by_cases hv:t.v=true
    . rw [if_pos hv] at hm1
      simp only[if_pos hv]
      cases hg:b.get t.n with
      | none =>
        refine⟨rfl,fun x u hx=>?_⟩;simp only at hx;rw[jph hb] at hx
        cases hg2:b.get x with
        | some y=>rw[hg2] at hx;injection hx with hx;rw[<- hx];exact hu x y hg2
        | none =>
          rw[hg2] at hx;simp only at hx;split at hx
          . rename_i e;injection hx with hx;rw[<- hx,<- e];exact hm1.symm
          . cases hx
      | some v =>
        simp only[decide_eq_true_eq];exact⟨(hu _ _ hg).trans hm1,hu⟩
    rw[if_neg hv] at hm1;simp only[if_neg hv,decide_eq_true_eq];exact⟨hm1,hu⟩
   have hok:(jcw t f b).1.ok:=(jl8 hb key.1).1;simp only[jch,if_pos key.1];exact jkm hok key.2 hm2
def jvf (list:List GA) (a:GA) (b:LB):Prop:=∃ f∈list,f.n=a.n/\a.args.map (valB b)=f.args.map (fun f=>some f.n)
def jff (list:List GA) (a:GA) (σ:ByteArray->ByteArray):Prop:=∃ f∈list,f.n=a.n/\f.args.map (·.n)=a.args.map (valS σ)
theorem jtn {list:List GA} {a:GA} {b c:LB} (h:jvf list a b) (k:b.more c):jvf list a c:=by
 obtain⟨f,h1,h2,h3⟩:=h;refine⟨f,h1,h2,?_⟩;rw[<- h3];refine List.map_congr_left fun t ht=>?_
 have:valB b t∈f.args.map (fun f=>some f.n):=by rw[<- h3];exact List.mem_map_of_mem ht
 obtain⟨g,_,hg⟩:=List.mem_map.1 this;rw[<- hg];exact jrb k hg.symm
theorem jpi {a:GA} {list:List GA} {b c:LB} (hb:b.ok) (h:c∈jbs a list b):c.ok/\b.more c/\jvf list a c:=by
 unfold jbs at h;obtain⟨f,hf,h⟩:=List.mem_filterMap.1 h;split at h
 . rename_i hm
   injection h with h
   subst h;unfold jcz at hm ⊢;split at hm
   . rename_i hc
     rw[if_pos hc];obtain⟨h1,h2,h3⟩:=jl9 hb hc.2 hm;exact⟨h1,h2,f,hf,hc.1.symm,h3⟩
   cases hm
 cases h
theorem jg4 {list:List GA}:∀ {body:List GP} {out:List LB} {b:LB},(∀ c∈out,c.ok)->b∈body.foldl (jbe list) out->b.ok/\(∃ c∈out,c.more b)/\∀ p∈body,p.no=false->jvf list p.atom b
 | [],out,b,ho,h=>⟨ho b h,⟨b,h,jik b⟩,fun p hp=>by cases hp⟩
 | p :: body,out,b,ho,h=>by
   rw[List.foldl_cons] at h;by_cases hno:p.no=true
   . have he:jbe list out p=out:=by unfold jbe;rw[if_pos hno]
     rw[he] at h;obtain⟨h1,h2,h3⟩:=jg4 ho h;refine⟨h1,h2,fun q hq hn=>?_⟩;rcases List.mem_cons.1 hq with rfl|hq
     . rw[hno] at hn;cases hn
     exact h3 q hq hn
   have he:jbe list out p=out.flatMap (jbs p.atom list):=by unfold jbe;rw[if_neg hno]
   rw[he] at h
   have ho2:∀ c∈out.flatMap (jbs p.atom list),c.ok:=fun c hc=>by
    obtain⟨d,hd,hc⟩:=List.mem_flatMap.1 hc;exact (jpi (ho d hd) hc).1
   obtain⟨h1,⟨c,hc,hcb⟩,h3⟩:=jg4 ho2 h;obtain⟨d,hd,hc⟩:=List.mem_flatMap.1 hc;obtain⟨g1,g2,g3⟩:=jpi (ho d hd) hc;refine⟨h1,⟨d,hd,jn6 g2 hcb⟩,fun q hq hn=>?_⟩;rcases List.mem_cons.1 hq with rfl|hq
   . exact jtn g3 hcb
   exact h3 q hq hn
theorem jjh {list:List GA} {σ:ByteArray->ByteArray}:∀ {body:List GP} {out:List LB} {c:LB},(∀ c∈out,c.ok)->c∈out->c.under σ->(∀ p∈body,p.no=false->jff list p.atom σ)->∃ b∈body.foldl (jbe list) out,b.under σ
 | [],out,c,_,hc,hu,_=>⟨c,hc,hu⟩
 | p :: body,out,c,ho,hc,hu,hh=>by
   rw[List.foldl_cons];by_cases hno:p.no=true
   . have he:jbe list out p=out:=by unfold jbe;rw[if_pos hno]
     rw[he];exact jjh ho hc hu (fun q hq=>hh q (List.mem_cons_of_mem _ hq))
   have he:jbe list out p=out.flatMap (jbs p.atom list):=by unfold jbe;rw[if_neg hno]
   rw[he];obtain⟨f,hf,hn,hm⟩:=hh p (by simp) (by simpa using hno)
   have hlen:p.atom.args.length=f.args.length:=by
    have:=congrArg List.length hm;simpa using this.symm
   obtain⟨k1,k2⟩:=jkm (ho c hc) hu hm.symm
   have hmem:(jch p.atom.args f.args c).1∈out.flatMap (jbs p.atom list):=by
    refine List.mem_flatMap.2 ⟨c,hc,?_⟩;unfold jbs;refine List.mem_filterMap.2 ⟨f,hf,?_⟩;have e:jcz p.atom f c=jch p.atom.args f.args c:=by unfold jcz;rw[if_pos ⟨hn.symm,hlen⟩]
    rw[e,if_pos k1]
   have ho2:∀ c∈out.flatMap (jbs p.atom list),c.ok:=fun c hc=>by
    obtain⟨d,hd,hc⟩:=List.mem_flatMap.1 hc;exact (jpi (ho d hd) hc).1
   exact jjh ho2 hmem k2 (fun q hq=>hh q (List.mem_cons_of_mem _ hq))
/-! ### Rows -/
def sig (b:LB) (x:ByteArray):ByteArray:=(b.get x).getD jq8
def ja1 (vs:List ByteArray) (t:GT):GS:=if t.v then ⟨some ((idxB vs t.n).getD 0),jcr⟩ else ⟨none,t.n⟩
def patOf (vs:List ByteArray) (a:GA):GPat:=⟨a.n,a.args.map (ja1 vs)⟩
def jcf (vs:List ByteArray) (body:List GP):List GPat:=(body.filter fun p=> !p.no).map fun p=>patOf vs p.atom
def jci (vs:List ByteArray) (body:List GP):List GPat:=(body.filter fun p=>p.no).map fun p=>patOf vs p.atom
def seOf (list:List GA) (rounds:List Nat) (vs:List ByteArray) (body:List GP) (wanted:List Bool):SE:=⟨list,rounds,jcf vs body,jci vs body,wanted,false,0⟩
def sigW (vs:List ByteArray) (V:Words) (x:ByteArray):ByteArray:=V.at_ ((idxB vs x).getD 0)
theorem jma (vs:List ByteArray) (V:Words) (t:GT):jau V (ja1 vs t)=valS (sigW vs V) t:=by
 unfold ja1 valS;split<;>rfl
theorem jil {facts:List GA} {vs:List ByteArray} {a:GA} {V:Words}:Holds facts (patOf vs a) V↔jff facts a (sigW vs V):=by
 have e:(patOf vs a).slots.map (jau V)=a.args.map (valS (sigW vs V)):=by
  unfold patOf;rw[List.map_map];exact List.map_congr_left fun t _=>jma vs V t
 unfold Holds jff;rw[e];exact Iff.rfl
theorem jrc {a b:GA}:keyA a=keyA b↔sameA a b=true:=by
 rw[jgz];unfold keyA jlx
 constructor
 . intro h
   injection h with h1 h2
   refine⟨jgp h1,?_⟩;have e:∀ l:List GT,l.map (fun t=>t.n.data.toList)=(l.map (·.n)).map (fun s=>s.data.toList):=fun l=>by rw[List.map_map];rfl
   rw[e,e] at h2;refine List.map_inj_right (f:=fun s:ByteArray=>s.data.toList) (fun x y h=>jgp h) |>.1 h2
 rintro ⟨h1,h2⟩;have e:∀ l:List GT,l.map (fun t=>t.n.data.toList)=(l.map (·.n)).map (fun s=>s.data.toList):=fun l=>by rw[List.map_map];rfl
 rw[h1,e,e,h2]
theorem jrd {list:List GA} (ha:Asc list) {x:GA}:hasA list x=true↔∃ y∈list,sameA y x=true:=by
 rw[jg0 list x ha]
 constructor
 . rintro ⟨y,h1,h2⟩;exact⟨y,h1,jrc.1 ((jja y x).1 h2)⟩
 rintro ⟨y,h1,h2⟩;exact⟨y,h1,(jja y x).2 (jrc.2 h2)⟩
theorem jn7 {list:List GA} (ha:Asc list) {a:GA} {b:LB} {σ:ByteArray->ByteArray} (hs:∀ t∈a.args,t.v=true->sig b t.n=σ t.n):hasA list (fillN a b)=true↔jff list a σ:=by
 rw[jrd ha]
 have e:(fillN a b).args.map (·.n)=a.args.map (valS σ):=by
  unfold fillN;rw[List.map_map];refine List.map_congr_left fun t ht=>?_
  show (fillT b t).n=valS σ t;unfold fillT valS;by_cases hv:t.v=true
  . simp only[if_pos hv];exact hs t ht hv
  simp only[if_neg hv]
 constructor
 . rintro ⟨y,h1,h2⟩
   obtain⟨h3,h4⟩:=jgz.1 h2;exact⟨y,h1,h3,h4.trans e⟩
 rintro ⟨y,h1,h3,h4⟩;exact⟨y,h1,jgz.2 ⟨h3,h4.trans e.symm⟩⟩
structure jhq (body:List GP) (vs:List ByteArray):Prop where
 nodup:vs.Nodup
 few:vs.length<=12
 mem:∀ p∈body,∀ t∈p.atom.args,t.v=true->t.n∈vs
 tight:∀ x∈vs,∃ p∈body,p.no=false/\∃ t∈p.atom.args,t.v=true/\t.n=x
 word:∀ p∈body,∀ t∈p.atom.args,t.v=false->isNo t.n=false
theorem jmb:∀ {vs:List ByteArray} {i:Nat} {x:ByteArray},vs.Nodup->vs[i]? = some x->idxB vs x=some i
 | y :: l,0,x,_,h=>by
   have:y=x:=by simpa using h
   unfold idxB;rw[if_pos this]
 | y :: l,i+1,x,hn,h=>by
   obtain⟨h1,h2⟩:=List.nodup_cons.1 hn;have hx:l[i]? = some x:=by simpa using h
   have hne:¬ y=x:=fun e=>h1 (e▸List.mem_of_getElem? hx)
   unfold idxB;rw[if_neg hne,jmb h2 hx];rfl
def jpj (n:Nat):List Bool:=(List.range 12).map fun i=>decide (i<n)
theorem jpk {n v:Nat} (h:n<=12):(jpj n)[v]? = some true↔v<n:=by
 unfold jpj;rw[List.getElem?_map];by_cases hv:v<12
 . rw[List.getElem?_range hv];simp
 rw[List.getElem?_eq_none (by simp;omega)];simp;omega
theorem se_ok {list:List GA} {rounds:List Nat} {body:List GP} {vs:List ByteArray} (hb:jhq body vs) (hf:∀ a∈list,jlr a):(seOf list rounds vs body (jpj vs.length)).Ok 12:=by
 have hslot:∀ p∈body,∀ t∈p.atom.args,jb2 12 (ja1 vs t):=fun p hp t ht=>by
  unfold jb2 ja1;by_cases hv:t.v=true
  . rw [if_pos hv]
    simp only;obtain⟨i,hi⟩:=jcq (hb.mem p hp t ht hv);rw[hi];exact Nat.lt_of_lt_of_le (jc9 hi) hb.few
  rw[if_neg hv];simp only;exact hb.word p hp t ht (by simpa using hv)
 refine⟨?_,hf,rfl,by simp[seOf,jpj],?_,?_⟩
 . intro p hp s hs
   obtain⟨q,hq,rfl⟩:=List.mem_map.1 (show p∈jcf vs body from hp);obtain⟨t,ht,rfl⟩:=List.mem_map.1 (show s∈q.atom.args.map (ja1 vs) from hs);exact hslot q (List.mem_filter.1 hq).1 t ht
 . intro v hv
   have hlt:=(jpk hb.few).1 hv;obtain⟨p,hp,hno,t,ht,htv,htn⟩:=hb.tight vs[v] (List.getElem_mem hlt);refine⟨patOf vs p.atom,List.mem_map.2 ⟨p,List.mem_filter.2 ⟨hp,by simp[hno]⟩,rfl⟩,ja1 vs t,List.mem_map_of_mem ht,?_⟩;unfold ja1;rw[if_pos htv,htn,jmb hb.nodup (List.getElem?_eq_getElem hlt)];rfl
 intro p hp s hs v hv;obtain⟨q,hq,rfl⟩:=List.mem_map.1 (show p∈jci vs body from hp);obtain⟨t,ht,rfl⟩:=List.mem_map.1 (show s∈q.atom.args.map (ja1 vs) from hs);unfold ja1 at hv;split at hv
 . rename_i htv
   obtain⟨i,hi⟩:=jcq (hb.mem q (List.mem_filter.1 hq).1 t ht htv);rw[hi] at hv;simp only[Option.getD_some,Option.some.injEq] at hv;subst hv;exact (jpk hb.few).2 (jc9 hi)
 cases hv
theorem jkn {list:List GA} {rounds:List Nat} {body:List GP} {vs:List ByteArray} {wanted:List Bool} {V:Words}:(seOf list rounds vs body wanted).hindered V=true↔∃ p∈body,p.no=true/\jff list p.atom (sigW vs V):=by
 unfold SE.hindered;rw[List.any_eq_true]
 constructor
 . rintro ⟨p,hp,h⟩
   obtain⟨q,hq,rfl⟩:=List.mem_map.1 (show p∈jci vs body from hp);obtain⟨hq1,hq2⟩:=List.mem_filter.1 hq;obtain⟨a,ha,hs⟩:=List.any_eq_true.1 h;obtain⟨h1,h2⟩:=jgz.1 hs;refine⟨q,hq1,hq2,jil.1 ⟨a,ha,h1.symm,?_⟩⟩;rw[<- h2];unfold factP;rw[List.map_map];rfl
 rintro ⟨q,hq1,hq2,hh⟩;refine⟨patOf vs q.atom,List.mem_map.2 ⟨q,List.mem_filter.2 ⟨hq1,hq2⟩,rfl⟩,List.any_eq_true.2 ?_⟩;obtain⟨a,ha,h1,h2⟩:=jil.2 hh;refine⟨a,ha,jgz.2 ⟨h1.symm,?_⟩⟩;rw[h2];unfold factP;rw[List.map_map];rfl
def jpl (E:SE):List Words:=(told E (E.parts.length+1) (2 ^ E.parts.length-1) (List.replicate 12 jcr)).1
theorem jvg {n i:Nat}:(2 ^ n-1).testBit i=decide (i<n):=Nat.testBit_two_pow_sub_one n i
theorem jyj (n:Nat):jh9 n (2 ^ n-1)<=n:=by
 unfold jh9;refine Nat.le_trans List.countP_le_length ?_;simp
theorem j0q (v:Nat):isNo (Words.at_ (List.replicate 12 jcr) v)=true:=by
 unfold Words.at_;rw[List.getD_eq_getElem?_getD,List.getElem?_replicate];split<;>rfl
theorem jn8 {E:SE} {W:Words}:E.Done (2 ^ E.parts.length-1) W:=fun i p hp hb=>by
 rw[jvg] at hb;have:=(List.getElem?_eq_some_iff.1 hp).1;simp[this] at hb
theorem jto {R:Words} (h:R.length=12):Words.below (List.replicate 12 jcr) R:=⟨by simp[h],fun v hv=>by rw[j0q] at hv;cases hv⟩
theorem StrsR.impL {S S':Nat->Prop} {w w':World} {v:Value} {xs:List ByteArray} (h:StrsR S w v xs) (hS:∀ b,S b->b<w.heap.size->S' b) (he:Agree S w w') (hsz:w.heap.size<=w'.heap.size):StrsR S' w' v xs:=ListK.imp (k:=kStr) h hS he hsz
theorem StrsR.sub {S S':Nat->Prop} {w:World} {v:Value} {xs:List ByteArray} (h:StrsR S w v xs) (hS:∀ b,S b->S' b):StrsR S' w v xs:=h.impL (fun b hb _=>hS b hb) (.refl _ _) (Nat.le_refl _)
def BindE (S:Nat->Prop) (w:World) (cs:List Value) (b:LB):Prop:=∃ v u,cs=[v,u]/\StrsR S w v b.ns/\StrsR S w u b.vs/\b.ok
def kBind:Kind LB:=⟨2,BindE,by decide,fun h hS he hsz=>by obtain⟨v,u,h1,h2,h3,h4⟩:=h;exact⟨v,u,h1,h2.impL hS he hsz,h3.impL hS he hsz,h4⟩,
 fun {_ _ l x} h=>by obtain⟨v,u,rfl,ht,hp,_⟩:=h;intro y hy;simp at hy;rcases hy with rfl|rfl<;>first|exact ListK.one (k:=kStr) ht|exact ListK.one (k:=kStr) hp,fun h=>by obtain⟨v,u,rfl,_⟩:=h;rfl⟩
def jeo (S:Nat->Prop):World->Value->List LB->Prop:=jaa S 2 (BindE S)
theorem jeo.impL {S S':Nat->Prop} {w w':World} {v:Value} {xs:List LB} (h:jeo S w v xs) (hS:∀ b,S b->b<w.heap.size->S' b) (he:Agree S w w') (hsz:w.heap.size<=w'.heap.size):jeo S' w' v xs:=ListK.imp (k:=kBind) h hS he hsz
theorem jeo.ext {S:Nat->Prop} {w w':World} {v:Value} {xs:List LB} (h:jeo S w v xs) (he:Ext w w'):jeo S w' v xs:=h.impL (fun _ h _=>h) (.of_ext he) he.size
theorem jeo.at_ {S:Nat->Prop} {w:World} {A:Option Addr} {n c:Nat} {xs:List LB} (h:jeo S w (.slice A n c) xs) {k:Nat} (hk:k<n) :
  ∃ (b off:Nat) (x:LB) (v u:Value),A=some ⟨b,off,none⟩/\b<w.heap.size/\xs[k]? = some x/\StrsR S w v x.ns/\StrsR S w u x.vs/\x.ok /\
    w.cell? ⟨b,off+k*2,none⟩=some v/\w.cell? ⟨b,off+k*2+1,none⟩=some u:=by
 obtain⟨b,off,x,cs,hA,hb,hx,_,hc,v,u,rfl,ht,hp,ho⟩:=jaa.at_ h hk;exact⟨b,off,x,v,u,hA,hb,hx,ht,hp,ho,hc 0 _ rfl,hc 1 _ rfl⟩
theorem jre:∀ (l:List GT),l.all ja3=true->jbz l<=9*l.length
 | [],_=>Nat.le_refl _
 | t :: l,h=>by
   rw[List.all_cons,Bool.and_eq_true] at h;have ih:=jre l h.2
   have ht:t.n.size<=8:=by
    have h1:=h.1;unfold ja3 at h1;split at h1
    . unfold jcj at h1;simp only[Bool.and_eq_true,decide_eq_true_eq] at h1;exact h1.1.2
    unfold jaz jbu inB at h1;simp only[Bool.and_eq_true,decide_eq_true_eq] at h1;omega
   unfold jbz at ih ⊢;simp only[List.length_cons,List.map_cons,List.sum_cons,wTerm];omega
theorem j0r {a:GA} (h:jat a=true):wAtom a<=35:=by
 unfold jat at h;simp only[Bool.and_eq_true,decide_eq_true_eq] at h;have h1:=jre _ h.2;have h2:=h.1.1;unfold jaz jbu inB at h2;simp only[Bool.and_eq_true,decide_eq_true_eq] at h2;have h3:=h.1.2;unfold wAtom;omega
theorem jrf:∀ (l:List GA),l.all factB=true->jb7 l<=36*l.length
 | [],_=>Nat.le_refl _
 | a :: l,h=>by
   rw[List.all_cons,Bool.and_eq_true] at h;have ih:=jrf l h.2
   have ha:wAtom a<=35:=by
    have h1:=h.1;unfold factB at h1;rw[Bool.and_eq_true] at h1;exact j0r h1.1
   unfold jb7 at ih ⊢;simp only[List.length_cons,List.map_cons,List.sum_cons];omega
def argOf (l:List UInt8):GT:=⟨capB (strOf l),strOf l⟩
def argsOf (inner:List UInt8):List GT:=if inner=[] then [] else (jfe 44 inner).map argOf
end Go.Proofs.YthiflhkcpanaaaaGreatDoor
