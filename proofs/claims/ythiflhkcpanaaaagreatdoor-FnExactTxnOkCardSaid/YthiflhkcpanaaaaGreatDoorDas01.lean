/- Own texts, joined. -/
import Derived.Deep.RegionHeld3
import Derived.WalkKit
import Derived.WalkSpells
import Derived.Lib.Hide
import Derived.Deep.Draws
import Derived.Handy
import Derived.BigQuiet
import Derived.Test.YthiflhkcpanaaaaGreatDoorRows
import Derived.ProofKit
import Derived.Deep.Slices
import Derived.Deep.Fields
import Derived.ChangeSame
import Derived.Deep.AppendLies
import Derived.OrdersHeld
set_option linter.unusedSimpArgs false
set_option linter.unusedVariables false
namespace Go.Proofs.YthiflhkcpanaaaaGreatDoor
open Go.RowKit
/-! ### Short words for the printed walks -/
theorem tk {P:Program} {ops:Array Oper} {Q:Exit->Act->World->Prop} {md:Region.Mode} {S:World->Prop} (i:Nat) {oi:Oper} {v:Value} {fuel:Nat} {listed:Array Bool} {a:Act} {w:World} (hi:ops[i]? = some oi)
  (hv:∀ w,S w->(execOp a.eval oi).run P w=.ok (.value v) w) (h:wpAnyH P md ops Q S fuel (listed.setIfInBounds i true) (a.put oi.dst v) w)
  (hs:Region.noSelect ops=true:=by kernel_rfl) (hf:Region.free md ops listed i=true:=by kernel_rfl) (hr:(Region.ready md ops listed).contains i=true:=by kernel_rfl)
  (hQ:∀ c a w,Q (.panic c) (a.put oi.dst v) w->Q (.panic c) a w:=by exact fun _ _ _ h=>h) (hg:Region.wanted oi (yielded ops a.tmps)=true:=by kernel_rfl) (hS:S w:=by assumption):wpAnyH P md ops Q S (fuel+1) listed a w :=
 wpAnyH_take hi hs hf hr hQ (Or.inl ⟨hg,hv⟩) hS h
theorem tq {P:Program} {ops:Array Oper} {Q:Exit->Act->World->Prop} {md:Region.Mode} {S:World->Prop} (i:Nat) {oi:Oper} {v:Value} {fuel:Nat} {listed:Array Bool} {a:Act} {w:World} (hi:ops[i]? = some oi) (h:wpAnyH P md ops Q S fuel (listed.setIfInBounds i true) (a.put oi.dst v) w)
  (hv:∀ w,S w->(execOp a.eval oi).run P w=.ok (.value v) w:=by ((intro w hSw;(try dsimp only at hSw);go_simp)<;>with_reducible rfl))
  (hs:Region.noSelect ops=true:=by kernel_rfl) (hf:Region.free md ops listed i=true:=by kernel_rfl) (hr:(Region.ready md ops listed).contains i=true:=by kernel_rfl)
  (hQ:∀ c a w,Q (.panic c) (a.put oi.dst v) w->Q (.panic c) a w:=by exact fun _ _ _ h=>h) (hg:Region.wanted oi (yielded ops a.tmps)=true:=by kernel_rfl) (hS:S w:=by assumption):wpAnyH P md ops Q S (fuel+1) listed a w:=
 tk i hi hv h hs hf hr hQ hg hS
theorem rd1 {P:Program} {ops:Array Oper} {Q:Exit->Act->World->Prop} {md:Region.Mode} {S:World->Prop} (i:Nat) {o:Oper} {fuel:Nat} {listed:Array Bool} {a:Act} {w:World} (ho:ops[i]? = some o)
  (h:∀ K':Act->World->Prop,Shut (∀ a w,S w->(S w->wpAnyH P md ops Q S fuel (listed.setIfInBounds i true) a w)->K' a w)->if Region.wanted o (yielded ops a.tmps)=true then Oper.wp P o a w K' Q else K' (a.put o.dst undef) w)
  (hr:Region.ready md ops listed=[i]:=by kernel_rfl):wpAnyH P md ops Q S (fuel+1) listed a w:=
 wpAnyH_ready hr (List.cons_ne_nil _ _) (AllReadyH.cons ho h AllReadyH.nil)
theorem dn {P:Program} {ops:Array Oper} {Q:Exit->Act->World->Prop} {md:Region.Mode} {S:World->Prop} {fuel:Nat} {listed:Array Bool} {a:Act} {w:World} (h:Q .normal a w) (hr:Region.ready md ops listed=[]:=by kernel_rfl):wpAnyH P md ops (NoPanic Q) S fuel listed a w:=
 wpAnyH_done hr (NoPanic.normal h) _
def J1 (p:Prop):Prop:=p
theorem J1.o {p:Prop} (h:J1 p):p:=h
theorem zh {p:Prop} (h:p):J1 p:=h
theorem twice {p q:Prop} (h:p->q) (k:p):q:=h k
theorem nm {α:Type} (x:α):∃ y,y=x:=⟨_,rfl⟩
theorem stz:(∀ (l:List Value) (i:Nat) (a:Value),l.toArray.setIfInBounds i a=(l.set i a).toArray)/\(∀ (x:Value) (l:List Value) (a:Value),(x :: l).set 0 a=a :: l)/\(∀ (x:Value) (l:List Value) (n:Nat) (a:Value),(x :: l).set (n+1) a=x :: l.set n a) :=
 ⟨fun _ _ _=>List.setIfInBounds_toArray ..,fun _ _ _=>rfl,fun _ _ _ _=>rfl⟩
structure GT where
 v:Bool
 n:ByteArray
structure GA where
 n:ByteArray
 args:List GT
structure GP where
 no:Bool
 atom:GA
structure GR where
 head:GA
 body:List GP
structure GC where
 comes:List GA
 goes:List GA
def wTerm (t:GT):Nat:=t.n.size
def jbz (l:List GT):Nat:=l.length+(l.map wTerm).sum
def wAtom (a:GA):Nat:=a.n.size+jbz a.args
def jb7 (l:List GA):Nat:=l.length+(l.map wAtom).sum
def wPart (p:GP):Nat:=wAtom p.atom
def jdl (l:List GP):Nat:=l.length+(l.map wPart).sum
def wRule (r:GR):Nat:=wAtom r.head+jdl r.body
def jdm (l:List GR):Nat:=l.length+(l.map wRule).sum
def jbp (c:GC):Nat:=jb7 c.comes+jb7 c.goes
theorem jqn {α:Type} (f:α->Nat) {l:List α} {x:α} (h:x∈l):f x<=(l.map f).sum:=by
 induction l with
 | nil=>cases h
 | cons y l ih =>
   rw[List.map_cons,List.sum_cons];rcases List.mem_cons.1 h with rfl|h
   . omega
   have:=ih h;omega
theorem jns {l:List GA} {x:GA} (h:x∈l):wAtom x<=jb7 l:=Nat.le_trans (jqn wAtom h) (Nat.le_add_left _ _)
theorem jv8 {l:List GT} {x:GT} (h:x∈l):wTerm x<=jbz l:=Nat.le_trans (jqn wTerm h) (Nat.le_add_left _ _)
theorem jv9 {l:List GP} {x:GP} (h:x∈l):wPart x<=jdl l:=Nat.le_trans (jqn wPart h) (Nat.le_add_left _ _)
theorem jwa {l:List GR} {x:GR} (h:x∈l):wRule x<=jdm l:=Nat.le_trans (jqn wRule h) (Nat.le_add_left _ _)
theorem ja6 {a b:Bool} (h:a=b):Ending.returned (.bool a)=.returned (.bool b):=by rw[h]
theorem jx2 {a b:ByteArray} (h:a=b):Ending.returned (.string a)=.returned (.string b):=by rw[h]
abbrev Ext (w w':World):Prop:=Below w.heap.size w w'
theorem Ext.refl (w:World):Ext w w:=Below.refl _ _
theorem Ext.t {a b c:World} (h:Ext a b) (k:Ext b c):Ext a c:=Below.trans h (Below.mono k h.size)
theorem Ext.alloc {a w:World} (h:Ext a w) (o:Obj):Ext a (w.alloc o):=Below.alloc h h.size o
theorem Ext.drew {a w:World} (h:Ext a w):Ext a w.drew:=Below.drew h
theorem Ext.drewN {a w:World} (h:Ext a w) (n:Nat):Ext a (w.drewN n):=⟨h.os,h.tape,h.output,h.size,h.block⟩
theorem Ext.setNew {a w:World} (h:Ext a w) {p:Addr} (hp:a.heap.size<=p.block) (u:Value):Ext a (w.setCell p u):=Below.setCell h hp u
theorem Ext.cells {w w1:World} (hb:Ext w w1):(∀ b o,b<w.heap.size->w1.cell? ⟨b,o,none⟩=w.cell? ⟨b,o,none⟩)/\(∀ b o,b<w.heap.size->w1.frozen? ⟨b,o,none⟩=w.frozen? ⟨b,o,none⟩) :=
 ⟨fun b o h=>Below.cell hb (p:=⟨b,o,none⟩) h,fun b o h=>Below.frozen hb (p:=⟨b,o,none⟩) h⟩
def Agree (S:Nat->Prop) (w w':World):Prop:=∀ b,S b->b<w.heap.size->w'.heap[b]? = w.heap[b]?
theorem Agree.of_ext {S:Nat->Prop} {w w':World} (h:Ext w w'):Agree S w w':=fun b _ hb=>h.block b hb
theorem Agree.refl (S:Nat->Prop) (w:World):Agree S w w:=fun _ _ _=>rfl
theorem Agree.t {S:Nat->Prop} {a b c:World} (h:Agree S a b) (k:Agree S b c) (hs:a.heap.size<=b.heap.size):Agree S a c :=
 fun i hi hb=>(k i hi (by omega)).trans (h i hi hb)
theorem Agree.setCell {S:Nat->Prop} {a w:World} (h:Agree S a w) {p:Addr} (hp:¬ S p.block) (u:Value):Agree S a (w.setCell p u) :=
 fun i hi hb=>(Below.heap_setCell w p u i (fun e=>hp (e▸hi))).trans (h i hi hb)
theorem jcc {w:World} {b o:Nat} {u:Value} (h:w.cell? ⟨b,o,none⟩=some u):b<w.heap.size:=by
 rcases Nat.lt_or_ge b w.heap.size with hlt|hge
 . exact hlt
 simp[World.cell?,Array.getElem?_eq_none hge] at h
def jaa {α:Type} (S:Nat->Prop) (size:Nat) (E:World->List Value->α->Prop) (w:World) (v:Value) (xs:List α):Prop :=
 ∃ A c,v=.slice A xs.length c/\xs.length<=c/\c<=maxLen /\
   (0 < xs.length->∃ b off,A=some ⟨b,off,none⟩/\b<w.heap.size/\S b /\
    ∀ (i:Nat) (x:α),xs[i]? = some x->∃ cs:List Value,cs.length=size/\(∀ (j:Nat) (u:Value),cs[j]? = some u->w.cell? ⟨b,off+(i*size+j),none⟩=some u)/\E w cs x)
theorem jaa.imp {α:Type} {S S':Nat->Prop} {size:Nat} {E E':World->List Value->α->Prop} {w w':World} {v:Value} {xs:List α}
  (hE:∀ cs x,x∈xs->E w cs x->E' w' cs x) (hS:∀ b,S b->S' b) (h:jaa S size E w v xs) (he:Agree S w w') (hsz:w.heap.size<=w'.heap.size):jaa S' size E' w' v xs:=by
 obtain⟨A,c,hv,h1,h2,h3⟩:=h;refine⟨A,c,hv,h1,h2,fun h0=>?_⟩;obtain⟨b,off,ha,hb,hs,hc⟩:=h3 h0;refine⟨b,off,ha,Nat.lt_of_lt_of_le hb hsz,hS b hs,fun i x hx=>?_⟩;obtain⟨cs,hl,hcs,hEx⟩:=hc i x hx;exact⟨cs,hl,fun j u hu=>(World.cell?_of_block (w:=w) (a:=⟨b,_,none⟩) (he b hs hb)).trans (hcs j u hu),hE _ _ (List.mem_of_getElem? hx) hEx⟩
abbrev Any:Nat->Prop:=fun _=>True
abbrev From (n:Nat):Nat->Prop:=fun b=>n<=b
theorem je2 {N b:Nat} (h:b<N):¬ From N b:=Nat.not_le.2 h
theorem Agree.set {N:Nat} {a w:World} (h:Agree (From N) a w) {p:Addr} (hp:p.block<N) (u:Value):Agree (From N) a (w.setCell p u):=h.setCell (je2 hp) u
theorem jdd {N M:Nat} (h:M<=N):∀ b,From N b->From M b:=fun _ hb=>Nat.le_trans h hb
def TermE (_:World) (cs:List Value) (t:GT):Prop:=cs=[.bool t.v,.string t.n]/\t.n.size<=maxLen
def jad (S:Nat->Prop):World->Value->List GT->Prop:=jaa S 2 TermE
def AtomE (S:Nat->Prop) (w:World) (cs:List Value) (a:GA):Prop:=∃ v,cs=[.string a.n,v]/\a.n.size<=maxLen/\jad S w v a.args
def jab (S:Nat->Prop):World->Value->List GA->Prop:=jaa S 2 (AtomE S)
def PartE (S:Nat->Prop) (w:World) (cs:List Value) (p:GP):Prop:=∃ v,cs=[.bool p.no,.string p.atom.n,v]/\p.atom.n.size<=maxLen/\jad S w v p.atom.args
def jao (S:Nat->Prop):World->Value->List GP->Prop:=jaa S 3 (PartE S)
def RuleE (S:Nat->Prop) (w:World) (cs:List Value) (r:GR):Prop:=∃ v u,cs=[.string r.head.n,v,u]/\r.head.n.size<=maxLen/\jad S w v r.head.args/\jao S w u r.body
def jam (S:Nat->Prop):World->Value->List GR->Prop:=jaa S 3 (RuleE S)
def jo6 (S:Nat->Prop) (w:World) (cs:List Value) (c:GC):Prop:=∃ v u,cs=[v,u]/\jab S w v c.comes/\jab S w u c.goes
section
variable {S S':Nat->Prop} {w w':World}
theorem jad.imp {v:Value} {xs:List GT} (h:jad S w v xs) (hS:∀ b,S b->S' b) (he:Agree S w w') (hsz:w.heap.size<=w'.heap.size):jad S' w' v xs :=
 jaa.imp (E:=TermE) (w:=w) (fun _ _ _ h=>h) hS h he hsz
theorem AtomE.imp {cs:List Value} {a:GA} (h:AtomE S w cs a) (hS:∀ b,S b->S' b) (he:Agree S w w') (hsz:w.heap.size<=w'.heap.size):AtomE S' w' cs a:=by
 obtain⟨v,h1,h2,h3⟩:=h;exact⟨v,h1,h2,h3.imp hS he hsz⟩
theorem jab.imp {v:Value} {xs:List GA} (h:jab S w v xs) (hS:∀ b,S b->S' b) (he:Agree S w w') (hsz:w.heap.size<=w'.heap.size):jab S' w' v xs :=
 jaa.imp (fun _ _ _ h=>h.imp hS he hsz) hS h he hsz
theorem PartE.imp {cs:List Value} {a:GP} (h:PartE S w cs a) (hS:∀ b,S b->S' b) (he:Agree S w w') (hsz:w.heap.size<=w'.heap.size):PartE S' w' cs a:=by
 obtain⟨v,h1,h2,h3⟩:=h;exact⟨v,h1,h2,h3.imp hS he hsz⟩
theorem jao.imp {v:Value} {xs:List GP} (h:jao S w v xs) (hS:∀ b,S b->S' b) (he:Agree S w w') (hsz:w.heap.size<=w'.heap.size):jao S' w' v xs :=
 jaa.imp (fun _ _ _ h=>h.imp hS he hsz) hS h he hsz
theorem RuleE.imp {cs:List Value} {a:GR} (h:RuleE S w cs a) (hS:∀ b,S b->S' b) (he:Agree S w w') (hsz:w.heap.size<=w'.heap.size):RuleE S' w' cs a:=by
 obtain⟨v,u,h1,h2,h3,h4⟩:=h;exact⟨v,u,h1,h2,h3.imp hS he hsz,h4.imp hS he hsz⟩
theorem jam.imp {v:Value} {xs:List GR} (h:jam S w v xs) (hS:∀ b,S b->S' b) (he:Agree S w w') (hsz:w.heap.size<=w'.heap.size):jam S' w' v xs :=
 jaa.imp (fun _ _ _ h=>h.imp hS he hsz) hS h he hsz
theorem jad.ext {v:Value} {xs:List GT} (h:jad S w v xs) (he:Ext w w'):jad S w' v xs:=h.imp (fun _ h=>h) (.of_ext he) he.size
theorem jab.ext {v:Value} {xs:List GA} (h:jab S w v xs) (he:Ext w w'):jab S w' v xs:=h.imp (fun _ h=>h) (.of_ext he) he.size
theorem jao.ext {v:Value} {xs:List GP} (h:jao S w v xs) (he:Ext w w'):jao S w' v xs:=h.imp (fun _ h=>h) (.of_ext he) he.size
theorem jam.ext {v:Value} {xs:List GR} (h:jam S w v xs) (he:Ext w w'):jam S w' v xs:=h.imp (fun _ h=>h) (.of_ext he) he.size
theorem jad.drew_ {v:Value} {xs:List GT} (h:jad S w v xs):jad S w.drew v xs:=h.ext (Ext.refl _).drew
theorem jab.drew_ {v:Value} {xs:List GA} (h:jab S w v xs):jab S w.drew v xs:=h.ext (Ext.refl _).drew
theorem jao.drew_ {v:Value} {xs:List GP} (h:jao S w v xs):jao S w.drew v xs:=h.ext (Ext.refl _).drew
theorem jad.sub {v:Value} {xs:List GT} (h:jad S w v xs) (hS:∀ b,S b->S' b):jad S' w v xs:=h.imp hS (.refl _ _) (Nat.le_refl _)
theorem jab.sub {v:Value} {xs:List GA} (h:jab S w v xs) (hS:∀ b,S b->S' b):jab S' w v xs:=h.imp hS (.refl _ _) (Nat.le_refl _)
theorem jao.sub {v:Value} {xs:List GP} (h:jao S w v xs) (hS:∀ b,S b->S' b):jao S' w v xs:=h.imp hS (.refl _ _) (Nat.le_refl _)
theorem jam.sub {v:Value} {xs:List GR} (h:jam S w v xs) (hS:∀ b,S b->S' b):jam S' w v xs:=h.imp hS (.refl _ _) (Nat.le_refl _)
end
section
variable {α:Type} {S:Nat->Prop} {size:Nat} {E:World->List Value->α->Prop} {w:World}
theorem jaa.form {v:Value} {xs:List α} (h:jaa S size E w v xs) :
  ∃ A c,v=.slice A xs.length c/\xs.length<=c/\c<=9223372036854775807:=by
 obtain⟨A,c,hv,h1,h2,_⟩:=h;exact⟨A,c,hv,h1,h2⟩
theorem jaa.at_ {A:Option Addr} {n c:Nat} {xs:List α} (h:jaa S size E w (.slice A n c) xs) {k:Nat} (hk:k<n) :
  ∃ (b off:Nat) (x:α) (cs:List Value),A=some ⟨b,off,none⟩/\b<w.heap.size/\xs[k]? = some x/\cs.length=size /\
    (∀ (j:Nat) (u:Value),cs[j]? = some u->w.cell? ⟨b,off+(k*size+j),none⟩=some u)/\E w cs x:=by
 obtain⟨A',c',hv,h1,h2,h3⟩:=h;injection hv with hA hn hc
 subst hA;subst hn;obtain⟨b,off,ha,hb,_,hcell⟩:=h3 (by omega);obtain⟨cs,hl,hcs,hEx⟩:=hcell k xs[k] (List.getElem?_eq_getElem hk);exact⟨b,off,xs[k],cs,ha,hb,List.getElem?_eq_getElem hk,hl,hcs,hEx⟩
theorem jaa.nil_ (c:Nat) (hc:c<=maxLen) (A:Option Addr):jaa S size E w (.slice A 0 c) []:=⟨A,c,rfl,Nat.zero_le _,hc,fun h=>absurd h (by simp)⟩
end
theorem jad.at_ {S:Nat->Prop} {w:World} {A:Option Addr} {n c:Nat} {xs:List GT} (h:jad S w (.slice A n c) xs) {k:Nat} (hk:k<n) :
  ∃ (b off:Nat) (x:GT),A=some ⟨b,off,none⟩/\b<w.heap.size/\xs[k]? = some x/\x.n.size<=maxLen /\
    w.cell? ⟨b,off+k*2,none⟩=some (.bool x.v)/\w.cell? ⟨b,off+k*2+1,none⟩=some (.string x.n):=by
 obtain⟨b,off,x,cs,hA,hb,hx,_,hc,rfl,hs⟩:=jaa.at_ h hk;exact⟨b,off,x,hA,hb,hx,hs,hc 0 _ rfl,hc 1 _ rfl⟩
theorem jab.at_ {S:Nat->Prop} {w:World} {A:Option Addr} {n c:Nat} {xs:List GA} (h:jab S w (.slice A n c) xs) {k:Nat} (hk:k<n) :
  ∃ (b off:Nat) (x:GA) (v:Value),A=some ⟨b,off,none⟩/\b<w.heap.size/\xs[k]? = some x/\x.n.size<=maxLen/\jad S w v x.args /\
    w.cell? ⟨b,off+k*2,none⟩=some (.string x.n)/\w.cell? ⟨b,off+k*2+1,none⟩=some v:=by
 obtain⟨b,off,x,cs,hA,hb,hx,_,hc,v,rfl,hs,ht⟩:=jaa.at_ h hk;exact⟨b,off,x,v,hA,hb,hx,hs,ht,hc 0 _ rfl,hc 1 _ rfl⟩
theorem jao.at_ {S:Nat->Prop} {w:World} {A:Option Addr} {n c:Nat} {xs:List GP} (h:jao S w (.slice A n c) xs) {k:Nat} (hk:k<n) :
  ∃ (b off:Nat) (x:GP) (v:Value),A=some ⟨b,off,none⟩/\b<w.heap.size/\xs[k]? = some x/\x.atom.n.size<=maxLen/\jad S w v x.atom.args /\
    w.cell? ⟨b,off+k*3,none⟩=some (.bool x.no)/\w.cell? ⟨b,off+k*3+1,none⟩=some (.string x.atom.n)/\w.cell? ⟨b,off+k*3+2,none⟩=some v:=by
 obtain⟨b,off,x,cs,hA,hb,hx,_,hc,v,rfl,hs,ht⟩:=jaa.at_ h hk;exact⟨b,off,x,v,hA,hb,hx,hs,ht,hc 0 _ rfl,hc 1 _ rfl,hc 2 _ rfl⟩
theorem jam.at_ {S:Nat->Prop} {w:World} {A:Option Addr} {n c:Nat} {xs:List GR} (h:jam S w (.slice A n c) xs) {k:Nat} (hk:k<n) :
  ∃ (b off:Nat) (x:GR) (v u:Value),A=some ⟨b,off,none⟩/\b<w.heap.size/\xs[k]? = some x/\x.head.n.size<=maxLen/\jad S w v x.head.args/\jao S w u x.body /\
    w.cell? ⟨b,off+k*3,none⟩=some (.string x.head.n)/\w.cell? ⟨b,off+k*3+1,none⟩=some v/\w.cell? ⟨b,off+k*3+2,none⟩=some u:=by
 obtain⟨b,off,x,cs,hA,hb,hx,_,hc,v,u,rfl,hs,ht,hp⟩:=jaa.at_ h hk;exact⟨b,off,x,v,u,hA,hb,hx,hs,ht,hp,hc 0 _ rfl,hc 1 _ rfl,hc 2 _ rfl⟩
def Blk (w:World) (g:Nat) (t:TypeId) (cs:Array Value):Prop:=w.heap[g]? = some (.cells cs t (0,0))
section
variable {w w':World} {g:Nat} {t:TypeId} {cs:Array Value}
theorem Blk.lt (h:Blk w g t cs):g<w.heap.size:=by
 rcases Nat.lt_or_ge g w.heap.size with hlt|hge
 . exact hlt
 unfold Blk at h;rw[Array.getElem?_eq_none hge] at h;cases h
theorem Blk.cell (h:Blk w g t cs) (i:Nat):w.cell? ⟨g,i,none⟩=cs[i]? :=by unfold Blk at h;simp[World.cell?,h]
theorem Blk.frozen (h:Blk w g t cs) (i:Nat):w.frozen? ⟨g,i,none⟩=false:=by
 unfold Blk at h;simp[World.frozen?,h]
theorem Blk.new (w:World) (t:TypeId) (cs:Array Value):Blk (w.alloc (.cells cs t)) w.heap.size t cs:=by
 show (w.heap.push _)[w.heap.size]? = _;rw[Array.getElem?_push,if_pos rfl]
theorem Blk.drew (h:Blk w g t cs):Blk w.drew g t cs:=h
theorem Blk.drewN (h:Blk w g t cs) (n:Nat):Blk (w.drewN n) g t cs:=h
theorem Blk.alloc (h:Blk w g t cs) (o:Obj):Blk (w.alloc o) g t cs:=(Below.heap_alloc w o g h.lt).trans h
theorem Blk.set_ (h:Blk w g t cs) (i:Nat) (u:Value):Blk (w.setCell ⟨g,i,none⟩ u) g t (cs.setIfInBounds i u):=by
 unfold Blk at h ⊢;simp[World.setCell,Array.getElem?_modify,h]
theorem Blk.far (h:Blk w g t cs) {p:Addr} (hp:g≠p.block) (u:Value):Blk (w.setCell p u) g t cs:=(Below.heap_setCell w p u g hp).trans h
theorem Blk.ext (h:Blk w g t cs) (hb:Ext w w'):Blk w' g t cs:=(hb.block g h.lt).trans h
theorem Blk.below {B:Nat} (h:Blk w g t cs) (hb:Below B w w') (hg:g<B):Blk w' g t cs:=(hb.block g hg).trans h
end
theorem made {P:Program} (t e:TypeId) (i:TypeInfo) (z:Value) (ht:P.underlying t=some (.slice e)) (hi:P.info? e=some i) (hz:i.zero=some z)
  (n:Nat) (hbytes:i.bytes*n<=281474976710656) (h63:n<=9223372036854775807) :
  ∃ cs:Array Value,cs.size=n*i.size/\∀ W:World,(Instr.makeSlice t (.int .i64 (n:Int)) (.int .i64 (n:Int))).run P W=.ok (.slice (some ⟨W.heap.size,0,none⟩) n n) (W.alloc (.cells cs e)):=by
 refine⟨madeCells z.cells (n*i.size),size_madeCells _ _,fun W=>?_⟩
 have hb:(i.bytes:Int)*(n:Int)<=281474976710656:=by
  have h:((i.bytes*n:Nat):Int)<=281474976710656:=by omega
  rwa [Int.natCast_mul] at h
 have hr:=run_make (P:=P) W t e i z ht hi hz .i64 .i64 n n (by omega) (by omega) hb (by omega);simp only[Int.toNat_natCast] at hr;exact hr
theorem Blk.ready {w:World} {g:Nat} {t:TypeId} {cs:Array Value} (h:Blk w g t cs) {i:Nat} (hi:i<cs.size):(∃ u,w.cell? ⟨g,i,none⟩=some u)/\w.frozen? ⟨g,i,none⟩=false :=
 ⟨⟨cs[i],by rw[h.cell];exact Array.getElem?_eq_getElem hi⟩,h.frozen i⟩
def jf1 {α:Type} (size:Nat) (E:World->List Value->α->Prop) (w:World) (cs:Array Value) (xs:List α) (k:Nat):Prop :=
 ∀ (i:Nat) (x:α),i<k->xs[i]? = some x->∃ l:List Value,l.length=size/\(∀ (j:Nat) (u:Value),l[j]? = some u->cs[i*size+j]? = some u)/\E w l x
theorem jf1.zero {α:Type} (size:Nat) (E:World->List Value->α->Prop) (w:World) (cs:Array Value) (xs:List α):jf1 size E w cs xs 0:=fun _ _ h=>absurd h (by omega)
theorem jf1.two {α:Type} {E E':World->List Value->α->Prop} {w w':World} {cs:Array Value} {xs:List α} {k:Nat} {a b:Value} {x:α}
  (h:jf1 2 E w cs xs k) (hE:∀ cs x,E w cs x->E' w' cs x) (hk:xs[k]? = some x) (hs:k*2+1<cs.size) (hx:E' w' [a,b] x) :
  jf1 2 E' w' ((cs.setIfInBounds (k*2) a).setIfInBounds (k*2+1) b) xs (k+1):=by
 intro i y hi hy;by_cases hik:i=k
 . subst hik
   rw[hk] at hy;injection hy with hy;subst hy
   refine⟨[a,b],rfl,fun j u hu=>?_,hx⟩
   match j,hu with
   | 0,hu=>simp at hu;subst hu;simp[show i*2<cs.size from by omega]
   | 1,hu=>simp at hu;subst hu;simp[hs]
 obtain⟨l,h1,h2,h3⟩:=h i y (by omega) hy;refine⟨l,h1,fun j u hu=>?_,hE _ _ h3⟩;have hj:j<2:=by rw[<- h1];rcases Nat.lt_or_ge j l.length with h|h;exact h;rw[List.getElem?_eq_none h] at hu;cases hu
 rw[Array.getElem?_setIfInBounds_ne (by omega),Array.getElem?_setIfInBounds_ne (by omega)];exact h2 j u hu
end Go.Proofs.YthiflhkcpanaaaaGreatDoor
namespace Go.Proofs.YthiflhkcpanaaaaGreatDoor
open Go.RowKit
structure Later (w:World):Type where
 at_:World
 ext:Ext w at_
instance (w:World):Nonempty (Later w):=⟨⟨w,Ext.refl w⟩⟩
@[go_sem] theorem later_cell {w:World} (n:Later w) (b o:Nat) (h:b<w.heap.size):n.at_.cell? ⟨b,o,none⟩=w.cell? ⟨b,o,none⟩:=(Ext.cells n.ext).1 b o h
@[go_sem] theorem later_frozen {w:World} (n:Later w) (b o:Nat) (h:b<w.heap.size):n.at_.frozen? ⟨b,o,none⟩=w.frozen? ⟨b,o,none⟩:=(Ext.cells n.ext).2 b o h
theorem jaw {P:Program} {id:Nat} {Q:Exit->Act->World->Prop} {a:Act} {w:World} {l:List Oper} (hm:P.follows .mixedOrders=true) (hB:Region.lexB .any l.toArray=true)
  (h:wpQuiet P l.toArray (fun w'=>∃ n:Later w,w'=n.at_) (fun a'=>∀ w',(∃ n:Later w,w'=n.at_)->Q .normal a' w') l a):(Code.region id l.toArray true).wp P Q a w :=
 wp_region_quiet (C:=fun w'=>∃ n:Later w,w'=n.at_) hm hB ⟨⟨w.drew,(Ext.refl w).drew⟩,rfl⟩ (by simpa using h)
theorem jbk {P:Program} {f:FuncId} {args:Array Value} {w:World} {n:Later w} {v:Value} (h:Calls P f args n.at_ fun e w'=>e=.returned v/\Ext n.at_ w') :
  Calls P f args n.at_ fun e w''=>e=.returned v/\∃ m:Later w,w''=m.at_ :=
 h.mono fun _ w'' ⟨he,hx⟩=>⟨he,⟨w'',n.ext.t hx⟩,rfl⟩
theorem jqo {P:Program} {f:FuncId} {args:Array Value} {w:World} {n:Later w} {v:Value} (h:Calls P f args n.at_ fun e w'=>e=.returned v/\w'=n.at_) :
  Calls P f args n.at_ fun e w''=>e=.returned v/\∃ m:Later w,w''=m.at_ :=
 h.mono fun _ _ ⟨he,hx⟩=>⟨he,n,hx⟩
end Go.Proofs.YthiflhkcpanaaaaGreatDoor
namespace Go.Proofs.YthiflhkcpanaaaaGreatDoor
open Go.RowKit Go.ChangeShapes Go.WideShapes Go.Deep
section
variable {H:Type} {enc:TypeId × Value->H} {P:Program} {w:World} {base:Nat} {spare:Nat->Bool} {held:Bool}
theorem jbv {α:Type} (R:Nat->α->Prop):∀ (n k:Nat),(∀ i,i<n->∃ x,R (k+i) x)->∃ xs:List α,xs.length=n/\∀ (i:Nat) (x:α),xs[i]? = some x->R (k+i) x
 | 0,_,_=>⟨[],rfl,fun i x h=>by simp at h⟩
 | n + 1,k,h=>by
   obtain⟨x,hx⟩:=h 0 (by omega)
   obtain ⟨xs,hl,hr⟩:=jbv R n (k+1) (fun i hi=>by
    have:=h (i+1) (by omega)
    rwa [show k+(i+1)=k+1+i from by omega] at this)
   refine⟨x :: xs,by simp[hl],fun i y hy=>?_⟩
   cases i with
   | zero=>simp at hy;subst hy;exact hx
   | succ i =>
     have:=hr i y (by simpa using hy)
     rwa [show k+1+i=k+(i+1) from by omega] at this
end
section
variable {H:Type} {enc:TypeId × Value->H} {w:World} {base:Nat} {spare:Nat->Bool} {held:Bool} {fuel:Nat} {v:Value} {x:DataW H × List MemPlace}
end
end Go.Proofs.YthiflhkcpanaaaaGreatDoor
namespace Go.Proofs.YthiflhkcpanaaaaGreatDoor
open Go.RowKit
def RowsE {α:Type} (size:Nat) (E:World->List Value->α->Prop) (w:World) (rows:List Value) (xs:List α):Prop :=
 rows.length=xs.length*size/\∀ (i:Nat) (x:α),xs[i]? = some x->∃ l:List Value,l.length=size/\(∀ (j:Nat) (u:Value),l[j]? = some u->rows[i*size+j]? = some u)/\E w l x
section
variable {α:Type} {size:Nat} {E E':World->List Value->α->Prop} {w w':World} {rows news:List Value} {xs ys:List α}
theorem RowsE.nil:RowsE size E w [] ([]:List α):=⟨by simp,fun i x h=>by simp at h⟩
theorem RowsE.one {l:List Value} {x:α} (hl:l.length=size) (h:E w l x):RowsE size E w l [x] :=
 ⟨by simp[hl],fun i y hy=>by
  cases i with
  | zero=>simp at hy;subst hy;exact⟨l,hl,fun j u hu=>by simpa using hu,h⟩
  | succ i=>simp at hy⟩
theorem RowsE.mono (h:RowsE size E w rows xs) (hE:∀ l x,x∈xs->E w l x->E' w' l x):RowsE size E' w' rows xs :=
 ⟨h.1,fun i x hx=>let ⟨l,h1,h2,h3⟩:=h.2 i x hx;⟨l,h1,h2,hE l x (List.mem_of_getElem? hx) h3⟩⟩
theorem RowsE.append (h:RowsE size E w rows xs) (k:RowsE size E w news ys):RowsE size E w (rows++news) (xs++ys):=by
 refine⟨by rw[List.length_append,List.length_append,h.1,k.1,Nat.add_mul],fun i x hx=>?_⟩;rcases Nat.lt_or_ge i xs.length with hi|hi
 . rw [List.getElem?_append_left hi] at hx
   obtain⟨l,h1,h2,h3⟩:=h.2 i x hx;refine⟨l,h1,fun j u hu=>?_,h3⟩;have:=h2 j u hu;rw[List.getElem?_append_left (List.getElem?_eq_some_iff.1 this).1];exact this
 rw[List.getElem?_append_right hi] at hx;obtain⟨l,h1,h2,h3⟩:=k.2 _ x hx;refine⟨l,h1,fun j u hu=>?_,h3⟩;have h4:=h2 j u hu
 have h5:i*size+j=rows.length+((i-xs.length)*size+j):=by
  rw[h.1];obtain⟨d,rfl⟩:=Nat.exists_eq_add_of_le hi;rw[Nat.add_sub_cancel_left,Nat.add_mul];omega
 rw[h5,List.getElem?_append_right (Nat.le_add_right _ _),Nat.add_sub_cancel_left];exact h4
theorem RowsE.oneCell (h:RowsE size E w rows xs) (hsz:0<size) (hE:∀ l x,E w l x->∀ u∈l,u.oneCell'=true):∀ u∈rows,u.oneCell'=true:=by
 intro u hu;obtain⟨j,hj,rfl⟩:=List.mem_iff_getElem.1 hu
 have hi:j / size<xs.length:=by
  apply (Nat.div_lt_iff_lt_mul hsz).2
  rw[<- h.1];exact hj
 obtain⟨l,h1,h2,h3⟩:=h.2 (j / size) xs[j / size] (List.getElem?_eq_getElem hi);have hm:j % size<l.length:=by rw[h1];exact Nat.mod_lt _ hsz
 have h4:=h2 (j % size) l[j % size] (List.getElem?_eq_getElem hm);have h5:j / size*size+j % size=j:=by rw[Nat.mul_comm];exact Nat.div_add_mod _ _
 rw[h5,List.getElem?_eq_getElem hj] at h4;injection h4 with h4
 rw[h4];exact hE l _ h3 _ (List.getElem_mem hm)
theorem jx3 {base:Nat} {e:TypeId} {v:Value} {n:Nat} (h:w.ownsRow base e size v n rows) (k:RowsE size E w rows xs) (hn:n=xs.length):jaa (From base) size E w v xs:=by
 subst hn;obtain⟨h1,⟨rfl,h0⟩|⟨g,cap,cur,rfl,hb,hc,h2,h3,h4,h5⟩⟩:=h
 . have:xs=[]:=List.eq_nil_of_length_eq_zero h0
   subst this;exact jaa.nil_ 0 (Nat.zero_le _) none
 have hblk:Blk w g e cur:=hc;refine⟨_,cap,rfl,h2,h3,fun _=>⟨g,0,rfl,hblk.lt,hb,fun i x hx=>?_⟩⟩;obtain⟨l,k1,k2,k3⟩:=k.2 i x hx;refine⟨l,k1,fun j u hu=>?_,k3⟩;have h6:=k2 j u hu;rw[<- h5,List.getElem?_take] at h6;split at h6
 . rw [hblk.cell,Nat.zero_add]
   simpa using h6
 cases h6
theorem jo7 (b o j:Nat):(⟨b,o,none⟩:Addr).add j=⟨b,o+j,none⟩:=by unfold Addr.add;split<;>simp_all
theorem jaa.rows_ {S:Nat->Prop} {A:Option Addr} {n c:Nat} (h:jaa S size E w (.slice A n c) xs) (h0:0<n) (hsz:0<size) :
  ∃ (b off:Nat) (rows:List Value),A=some ⟨b,off,none⟩/\b<w.heap.size/\S b/\n=xs.length/\rows.length=n*size/\RowsE size E w rows xs/\∀ j u,rows[j]? = some u->w.cell? ⟨b,off+j,none⟩=some u:=by
 obtain⟨A',c',hv,h1,h2,h3⟩:=h;injection hv with hA hn hc
 subst hA;subst hn;subst hc;obtain⟨b,off,ha,hb,hs,hcell⟩:=h3 h0
 have key:∀ j,j<xs.length*size->∃ u,w.cell? ⟨b,off+j,none⟩=some u:=by
  intro j hj;have hi:j / size<xs.length:=(Nat.div_lt_iff_lt_mul hsz).2 hj;obtain⟨l,k1,k2,_⟩:=hcell (j / size) xs[j / size] (List.getElem?_eq_getElem hi);have hm:j % size<l.length:=by rw[k1];exact Nat.mod_lt _ hsz
  have:=k2 (j % size) l[j % size] (List.getElem?_eq_getElem hm);have h5:j / size*size+j % size=j:=by rw[Nat.mul_comm];exact Nat.div_add_mod _ _
  rw[h5] at this;exact⟨_,this⟩
 obtain⟨rows,hl,hr⟩:=jbv (fun j (u:Value)=>w.cell? ⟨b,off+j,none⟩=some u) (xs.length*size) 0 (fun j hj=>by rw[Nat.zero_add];exact key j hj);refine⟨b,off,rows,ha,hb,hs,rfl,hl,⟨hl,fun i x hx=>?_⟩,fun j u hu=>by have:=hr j u hu;rwa [Nat.zero_add] at this⟩;obtain⟨l,k1,k2,k3⟩:=hcell i x hx;refine⟨l,k1,fun j u hu=>?_,k3⟩;have hj:j<size:=by rw[<- k1];exact (List.getElem?_eq_some_iff.1 hu).1
 have hi:i<xs.length:=(List.getElem?_eq_some_iff.1 hx).1
 have hlt:i*size+j<rows.length:=by
  rw[hl]
  calc i*size+j<i*size+size:=by omega
   _=(i+1)*size:=by rw[Nat.add_mul,Nat.one_mul]
   _<=xs.length*size:=Nat.mul_le_mul_right _ hi
 have h6:=hr (i*size+j) _ (List.getElem?_eq_getElem hlt);rw[Nat.zero_add,k2 j u hu] at h6;rw[List.getElem?_eq_getElem hlt,h6]
end
theorem TermE.oneCell {w:World} (l:List Value) (x:GT) (h:TermE w l x):∀ u∈l,u.oneCell'=true:=by
 obtain⟨rfl,_⟩:=h;intro u hu;simp at hu;rcases hu with rfl|rfl<;>rfl
theorem AtomE.oneCell {S:Nat->Prop} {w:World} (l:List Value) (x:GA) (h:AtomE S w l x):∀ u∈l,u.oneCell'=true:=by
 obtain⟨v,rfl,_,ht⟩:=h;obtain⟨A,c,rfl,_⟩:=jaa.form ht;intro u hu;simp at hu;rcases hu with rfl|rfl<;>rfl
end Go.Proofs.YthiflhkcpanaaaaGreatDoor
namespace Go.Proofs.YthiflhkcpanaaaaGreatDoor
open Go.RowKit
theorem maxOf {n:Nat} (h:n<=1000000000):n<=maxLen:=by unfold maxLen;omega
abbrev None:Nat->Prop:=fun _=>False
structure Kind (α:Type) where
 size:Nat
 E:(Nat->Prop)->World->List Value->α->Prop
 pos:0<size
 imp:∀ {S S':Nat->Prop} {w w':World} {cs:List Value} {x:α},E S w cs x->(∀ b,S b->b<w.heap.size->S' b)->Agree S w w'->w.heap.size<=w'.heap.size->E S' w' cs x
 one:∀ {S:Nat->Prop} {w:World} {l:List Value} {x:α},E S w l x->∀ u∈l,u.oneCell'=true
 len:∀ {S:Nat->Prop} {w:World} {l:List Value} {x:α},E S w l x->l.length=size
theorem jaa.impL {α:Type} {S S':Nat->Prop} {size:Nat} {E E':World->List Value->α->Prop} {w w':World} {v:Value} {xs:List α}
  (hE:∀ cs x,x∈xs->E w cs x->E' w' cs x) (hS:∀ b,S b->b<w.heap.size->S' b) (h:jaa S size E w v xs) (he:Agree S w w') (hsz:w.heap.size<=w'.heap.size):jaa S' size E' w' v xs:=by
 obtain⟨A,c,hv,h1,h2,h3⟩:=h;refine⟨A,c,hv,h1,h2,fun h0=>?_⟩;obtain⟨b,off,ha,hb,hs,hc⟩:=h3 h0;refine⟨b,off,ha,Nat.lt_of_lt_of_le hb hsz,hS b hs hb,fun i x hx=>?_⟩;obtain⟨cs,hl,hcs,hEx⟩:=hc i x hx;exact⟨cs,hl,fun j u hu=>(World.cell?_of_block (w:=w) (a:=⟨b,_,none⟩) (he b hs hb)).trans (hcs j u hu),hE _ _ (List.mem_of_getElem? hx) hEx⟩
def ListK {α:Type} (k:Kind α) (S:Nat->Prop) (w:World) (v:Value) (xs:List α):Prop:=jaa S k.size (k.E S) w v xs
section
variable {α:Type} {k:Kind α} {S S':Nat->Prop} {w w':World} {v:Value} {xs:List α}
theorem ListK.imp (h:ListK k S w v xs) (hS:∀ b,S b->b<w.heap.size->S' b) (he:Agree S w w') (hsz:w.heap.size<=w'.heap.size):ListK k S' w' v xs :=
 jaa.impL (fun _ _ _ h=>k.imp h hS he hsz) hS h he hsz
theorem ListK.ext (h:ListK k S w v xs) (he:Ext w w'):ListK k S w' v xs:=h.imp (fun _ h _=>h) (.of_ext he) he.size
theorem ListK.sub (h:ListK k S w v xs) (hS:∀ b,S b->S' b):ListK k S' w v xs:=h.imp (fun b hb _=>hS b hb) (.refl _ _) (Nat.le_refl _)
def jar (k:Kind α) (S:Nat->Prop) (w:World) (v:Value) (xs:List α):Prop:=jaa Any k.size (k.E S) w v xs
theorem ListK.elems (h:ListK k S w v xs):jar k S w v xs:=jaa.impL (fun _ _ _ h=>h) (fun _ _ _=>trivial) h (.refl _ _) (Nat.le_refl _)
theorem ListK.nil (c:Nat) (hc:c<=maxLen) (A:Option Addr):ListK k S w (.slice A 0 c) []:=jaa.nil_ c hc A
theorem jar.ext (h:jar k S w v xs) (he:Ext w w'):jar k S w' v xs:=jaa.impL (fun _ _ _ h=>k.imp h (fun _ h _=>h) (.of_ext he) he.size) (fun _ _ _=>trivial) h (.of_ext he) he.size
theorem jar.one {g:Nat} {t:TypeId} {l:List Value} {x:α} (hb:Blk w g t l.toArray) (h:k.E S w l x):jar k S w (.slice (some ⟨g,0,none⟩) 1 1) [x]:=by
 refine⟨_,1,rfl,Nat.le_refl _,by unfold maxLen;omega,fun _=>⟨g,0,rfl,hb.lt,trivial,fun i y hy=>?_⟩⟩
 cases i with
 | zero =>
   simp at hy;subst hy;refine⟨l,k.len h,fun j u hu=>?_,h⟩;rw[hb.cell];simpa using hu
 | succ i=>simp at hy
end
def OwnK {α:Type} (k:Kind α) (base:Nat) (e:TypeId) (S:Nat->Prop) (w:World) (v:Value) (xs:List α):Prop :=
 ∃ rows T,w.ownsRow base e k.size v xs.length rows/\RowsE k.size (k.E T) w rows xs/\(∀ b,T b->S b/\b<w.heap.size)/\∀ g,v.ownBlock=some g->¬ T g
section
variable {α:Type} {k:Kind α} {S S':Nat->Prop} {w w':World} {v:Value} {xs ys:List α} {base:Nat} {e:TypeId}
theorem OwnK.form (h:OwnK k base e S w v xs):∃ A c,v=.slice A xs.length c/\xs.length<=c/\c<=9223372036854775807:=by
 obtain⟨rows,T,h1,_⟩:=h;rcases h1.2 with ⟨rfl,h0⟩|⟨g,cap,cur,rfl,_,_,h2,h3,_⟩
 . exact⟨none,0,by rw[h0],by omega,by omega⟩
 exact⟨_,_,rfl,h2,h3⟩
theorem OwnK.form2 (h:OwnK k base e S w v xs):∃ A n c,v=.slice A n c/\J1 (n=xs.length)/\n<=c/\c<=9223372036854775807:=by
 obtain⟨A,c,h1,h2,h3⟩:=h.form;exact⟨A,_,c,h1,zh rfl,h2,h3⟩
theorem OwnK.nil:OwnK k base e S w (.slice none 0 0) []:=⟨[],fun _=>False,World.ownsRow_nil _ _ _ _,RowsE.nil,fun _ h=>h.elim,fun _ _ h=>h⟩
theorem OwnK.empty {g:Nat} (hg:g=w.heap.size) (hb:base<=g):OwnK k base e S (w.alloc (.cells #[] e)) (.slice (some ⟨g,0,none⟩) 0 0) ([]:List α):=by
 subst hg;refine⟨[],fun _=>False,⟨by simp,.inr ⟨w.heap.size,0,#[],rfl,hb,Blk.new w e #[],Nat.le_refl _,Nat.zero_le _,by simp,by simp⟩⟩,RowsE.nil,fun _ h=>h.elim,fun _ _ h=>h⟩
theorem OwnK.at_ (h:OwnK k base e S w v xs):∀ g,v.ownBlock=some g->base<=g/\g<w.heap.size:=by
 obtain⟨rows,T,h1,_⟩:=h;exact h1.lt
theorem OwnK.agree (h:OwnK k base e S w v xs) (h1:Agree S w w') (h2:∀ g,v.ownBlock=some g->w'.heap[g]? = w.heap[g]?) (hsz:w.heap.size<=w'.heap.size):OwnK k base e S w' v xs:=by
 obtain⟨rows,T,k1,k2,k3,k4⟩:=h;refine⟨rows,T,⟨k1.1,?_⟩,k2.mono (fun l x _ hx=>k.imp hx (fun _ h _=>h) (fun b hb hlt=>h1 b (k3 b hb).1 hlt) hsz),fun b hb=>⟨(k3 b hb).1,Nat.lt_of_lt_of_le (k3 b hb).2 hsz⟩,k4⟩;rcases k1.2 with h0|⟨g,cap,cur,rfl,hb,hc,h3⟩
 . exact .inl h0
 exact .inr ⟨g,cap,cur,rfl,hb,(h2 g rfl).trans hc,h3⟩
theorem OwnK.ext (h:OwnK k base e S w v xs) (he:Ext w w'):OwnK k base e S w' v xs :=
 h.agree (.of_ext he) (fun g hg=>he.block g (h.at_ g hg).2) he.size
theorem OwnK.drew (h:OwnK k base e S w v xs):OwnK k base e S w.drew v xs:=h.ext (Ext.refl _).drew
theorem OwnK.alloc (h:OwnK k base e S w v xs) (o:Obj):OwnK k base e S (w.alloc o) v xs:=h.ext ((Ext.refl _).alloc o)
theorem OwnK.set (h:OwnK k base e S w v xs) {p:Addr} (hp:p.block<base) (hS:¬ S p.block) (u:Value):OwnK k base e S (w.setCell p u) v xs :=
 h.agree ((Agree.refl _ _).setCell hS u) (fun g hg=>Below.heap_setCell w p u g (by have:=(h.at_ g hg).1;omega)) (by go_size)
theorem OwnK.sub (h:OwnK k base e S w v xs) {base':Nat} (hb:base'<=base) (hS:∀ b,S b->S' b):OwnK k base' e S' w v xs:=by
 obtain⟨rows,T,k1,k2,k3,k4⟩:=h;refine⟨rows,T,⟨k1.1,?_⟩,k2,fun b hb=>⟨hS b (k3 b hb).1,(k3 b hb).2⟩,k4⟩;rcases k1.2 with h0|⟨g,cap,cur,rfl,hbb,hc,h3⟩
 . exact .inl h0
 exact .inr ⟨g,cap,cur,rfl,Nat.le_trans hb hbb,hc,h3⟩
theorem OwnK.list (h:OwnK k base e S w v xs) (hS:∀ b,S b->S' b) (hS':∀ b,base<=b->S' b):ListK k S' w v xs:=by
 obtain⟨rows,T,k1,k2,k3,k4⟩:=h;have h1:=jx3 (E:=k.E S') (xs:=xs) k1 (k2.mono (fun l x _ hx=>k.imp hx (fun b hb _=>hS b (k3 b hb).1) (.refl _ _) (Nat.le_refl _))) rfl;exact jaa.impL (fun _ _ _ h=>h) (fun b hb _=>hS' b hb) h1 (.refl _ _) (Nat.le_refl _)
end
section
variable {α:Type} {k:Kind α} {S T:Nat->Prop} {v:Value} {xs ys:List α} {base:Nat} {e:TypeId}
theorem ji3 {P:Program} (w:World) (base:Nat) (t ty e:TypeId) (i:TypeInfo) (size:Nat) (ht:P.underlying t=some (.slice e)) (hi:P.info? e=some i)
  (v:Value) (n:Nat) (xs:List Value) (hown:w.ownsRow base e size v n xs) (c:Nat):(Builtin.append_ #[t,t] ty #[v,.slice none 0 c]).run P w=.ok v w:=by
 rcases hown.2 with ⟨rfl,rfl⟩|⟨g,cap,cur,rfl,_,_,hnc,_⟩
 . simp[Builtin.append_,run_underlying ht,sizeOf,typeInfo,hi,Builtin.lenOf,Builtin.firstCells]
 simp[Builtin.append_,run_underlying ht,sizeOf,typeInfo,hi,Builtin.lenOf,Builtin.firstCells,hnc,storeCells]
structure Apped (k:Kind α) (base:Nat) (e:TypeId) (S:Nat->Prop) (w:World) (v:Value) (zs:List α) (v':Value) (w':World):Prop where
 own:OwnK k base e S w' v' zs
 below:Below base w w'
 grown:w.grownBy w' v.ownBlock
 at_:v'.ownBlock=v.ownBlock∨v'.ownBlock=some w.heap.size
theorem Apped.toExt {w0 w w':World} {v v':Value} {zs:List α} (h:Apped k base e S w v zs v' w') (hx:Ext w0 w) (hb:w0.heap.size<=base):Ext w0 w':=Below.trans hx (h.below.mono hb)
theorem Apped.blk {w w':World} {v v':Value} {zs:List α} {g:Nat} {t:TypeId} {cs:Array Value} (h:Apped k base e S w v zs v' w') (hb:Blk w g t cs) (hg:g<base):Blk w' g t cs:=hb.below h.below hg
theorem jhi {w w':World} {row:Option Nat} (h:w.grownBy w' row) (hr:∀ g,row=some g->base<=g) (hb:base<=w.heap.size):Below base w w' :=
 ⟨h.os,h.tape,h.output,h.size,fun i hi=>h.block i (Nat.lt_of_lt_of_le hi hb) (fun e=>by have:=hr i e.symm;omega)⟩
theorem jux {P:Program} (w:World) (t ty:TypeId) (i:TypeInfo) (z:Value) (bytes:Nat) (ht:P.underlying t=some (.slice e)) (hi:P.info? e=some i) (hz:i.zero=some z)
  (hsize:i.size=k.size) (hby:i.bytes=bytes) (hzs:z.cells.size=k.size)
  (hown:OwnK k base e S w v xs) (A:Option Addr) (m c:Nat) (hu:jar k T w (.slice A m c) ys) (hT:∀ b,T b->b<w.heap.size->S b) (hTv:∀ g,v.ownBlock=some g->¬ T g)
  (h63:xs.length+m<=maxLen) (hbytes:(xs.length+m)*bytes<=140737488355328) (hbase:base<=w.heap.size) :
  ∃ v' w',(Builtin.append_ #[t,t] ty #[v,.slice A m c]).run P w=.ok v' w'/\Apped k base e S w v (xs++ys) v' w':=by
 obtain⟨rows,U,k1,k2,k3,k4⟩:=id hown;have hlt:=k1.lt;by_cases hm:m=0
 . subst hm
   have hys:ys=[]:=by
    obtain⟨A',c',hv,_⟩:=hu;injection hv with _ hn _
    exact List.eq_nil_of_length_eq_zero hn.symm
   subst hys;rw[List.append_nil];rcases A with _|ad
   . exact⟨v,w,ji3 w base t ty e i k.size ht hi v _ rows k1 c,hown,Below.refl _ _,World.grownBy.refl w _,.inl rfl⟩
   obtain⟨v',w',hr,h1,h2,h3,h4⟩:=run_append_own_at (P:=P) w base t ty e i z k.size bytes ht hi hz hsize hby hzs k.pos v xs.length rows k1 ad 0 c [] (by simp) (by simp) (by simp) h63 hbytes hbase;have hb:=jhi h2 (fun g hg=>(hlt g hg).1) hbase;rw[Nat.add_zero,List.append_nil] at h1;refine⟨v',w',hr,⟨rows,U,h1,k2.mono (fun l x _ hx=>k.imp hx (fun _ h _=>h) (fun b hb hlt'=>h2.block b hlt' (fun e=>k4 b e.symm hb)) h2.size),fun b hb=>⟨(k3 b hb).1,Nat.lt_of_lt_of_le (k3 b hb).2 h2.size⟩,fun g hg hU=>?_⟩,hb,h2,h4⟩;rcases h4 with h4|h4
   . exact k4 g (h4▸hg) hU
   rw[h4] at hg;injection hg with hg;have:=(k3 g hU).2;omega
 obtain⟨b,off,news,rfl,hb,_,hn,hl,hrow,hcell⟩:=jaa.rows_ hu (by omega) k.pos
 obtain ⟨v',w',hr,h1,h2,h3,h4⟩:=run_append_own_at (P:=P) w base t ty e i z k.size bytes ht hi hz hsize hby hzs k.pos v xs.length rows k1 ⟨b,off,none⟩ m c news hl (fun j u hj=>by rw[jo7];exact hcell j u hj)
  (hrow.oneCell k.pos (fun l x hx=>k.one hx)) h63 hbytes hbase
 have hbl:=jhi h2 (fun g hg=>(hlt g hg).1) hbase;refine⟨v',w',hr,⟨rows++news,fun b=>(U b∨T b)/\b<w.heap.size,by rw[List.length_append,<- hn];exact h1,?_,fun b hb=>⟨?_,Nat.lt_of_lt_of_le hb.2 h2.size⟩,fun g hg hU=>?_⟩,hbl,h2,h4⟩
 . exact (k2.mono (E':=k.E (fun b=>(U b∨T b)/\b<w.heap.size)) (w':=w') (fun l x _ hx=>k.imp hx (fun b hb hlt=>⟨.inl hb,hlt⟩) (fun b hb hlt'=>h2.block b hlt' (fun e=>k4 b e.symm hb)) h2.size)).append
     (hrow.mono (fun l x _ hx=>k.imp hx (fun b hb hlt=>⟨.inr hb,hlt⟩) (fun b hb hlt'=>h2.block b hlt' (fun e=>hTv b e.symm hb)) h2.size))
 . rcases hb.1 with hb'|hb'
   . exact (k3 b hb').1
   exact hT b hb' hb.2
 rcases h4 with h4|h4
 . rw [h4] at hg
   rcases hU.1 with hU'|hU'
   . exact k4 g hg hU'
   exact hTv g hg hU'
 rw[h4] at hg;injection hg with hg;have:=hU.2;omega
theorem jfm {P:Program} (w:World) {o:Oper} {a:Act} {K:Act->World->Prop} {Q:Exit->Act->World->Prop} (s x:Operand) (t:TypeId)
  (ho:o.op=.call { callee:=.builtin .append,args:= #[s,x],argTypes:= #[t,t] })
  (i:TypeInfo) (z:Value) (bytes:Nat) (ht:P.underlying t=some (.slice e)) (hi:P.info? e=some i) (hz:i.zero=some z)
  (hsize:i.size=k.size) (hby:i.bytes=bytes) (hzs:z.cells.size=k.size)
  (hs:a.eval s=v) (hown:OwnK k base e S w v xs) (A:Option Addr) (m c:Nat) (hx:a.eval x=.slice A m c) (hu:jar k T w (.slice A m c) ys) (hT:∀ b,T b->b<w.heap.size->S b) (hTv:∀ g,v.ownBlock=some g->¬ T g)
  (h63:xs.length+m<=maxLen) (hbytes:(xs.length+m)*bytes<=140737488355328) (hbase:base<=w.heap.size)
  (h:∀ v' w',Apped k base e S w v (xs++ys) v' w'->K (a.put o.dst v') w'):o.wp P a w K Q:=by
 obtain⟨v',w',hr,h2⟩:=jux (P:=P) w t o.type i z bytes ht hi hz hsize hby hzs hown A m c hu hT hTv h63 hbytes hbase;unfold Oper.wp execOp;simp only[ho,resolve,invoke,builtin,Sem.run_bind,Sem.run_pure,Result.andThen_ok,List.map_toArray,List.map_cons,List.map_nil,hs,hx,hr];exact h v' w' h2
theorem jco {P:Program} {w:World} {ops:Array Oper} {rest:List Oper} {o:Oper} {a:Act} {Q:Exit->Act->World->Prop} (hgd:o.guard=none) (s x:Operand) (t:TypeId)
  (ho:o.op=.call { callee:=.builtin .append,args:= #[s,x],argTypes:= #[t,t] })
  (i:TypeInfo) (z:Value) (bytes:Nat) (ht:P.underlying t=some (.slice e)) (hi:P.info? e=some i) (hz:i.zero=some z)
  (hsize:i.size=k.size) (hby:i.bytes=bytes) (hzs:z.cells.size=k.size)
  (hs:a.eval s=v) (hown:OwnK k base e S w v xs) (A:Option Addr) (m c:Nat) (hx:a.eval x=.slice A m c) (hu:jar k T w (.slice A m c) ys) (hT:∀ b,T b->b<w.heap.size->S b) (hTv:∀ g,v.ownBlock=some g->¬ T g)
  (h63:xs.length+m<=maxLen) (hbytes:(xs.length+m)*bytes<=140737488355328) (hbase:base<=w.heap.size)
  (h:∀ v' w',Apped k base e S w v (xs++ys) v' w'->wpList P ops Q rest (a.put o.dst v') w'):wpList P ops Q (o :: rest) a w :=
 wpList_plain hgd fun _ hK=>jfm w s x t ho i z bytes ht hi hz hsize hby hzs hs hown A m c hx hu hT hTv h63 hbytes hbase fun v' w' h2=>hK _ _ (h v' w' h2)
theorem jde {P:Program} {w:World} {ops:Array Oper} {o:Oper} {a:Act} {K:Act->World->Prop} {Q:Exit->Act->World->Prop} {E:Prop} (hgd:o.guard=none) (s x:Operand) (t:TypeId)
  (ho:o.op=.call { callee:=.builtin .append,args:= #[s,x],argTypes:= #[t,t] })
  (i:TypeInfo) (z:Value) (bytes:Nat) (ht:P.underlying t=some (.slice e)) (hi:P.info? e=some i) (hz:i.zero=some z)
  (hsize:i.size=k.size) (hby:i.bytes=bytes) (hzs:z.cells.size=k.size)
  (hs:a.eval s=v) (hown:OwnK k base e S w v xs) (A:Option Addr) (m c:Nat) (hx:a.eval x=.slice A m c) (hu:jar k T w (.slice A m c) ys) (hT:∀ b,T b->b<w.heap.size->S b) (hTv:∀ g,v.ownBlock=some g->¬ T g)
  (h63:xs.length+m<=maxLen) (hbytes:(xs.length+m)*bytes<=140737488355328) (hbase:base<=w.heap.size)
  (h:∀ v' w',Apped k base e S w v (xs++ys) v' w'->K (a.put o.dst v') w') :
  if Region.wanted o (yielded ops a.tmps)=true then Oper.wp P o a w K Q else E:=by
 have hw:Region.wanted o (yielded ops a.tmps)=true:=by simp[Region.wanted,hgd]
 rw[if_pos hw];exact jfm w s x t ho i z bytes ht hi hz hsize hby hzs hs hown A m c hx hu hT hTv h63 hbytes hbase h
end
section
variable {α:Type} {k:Kind α} {S T:Nat->Prop} {v:Value} {xs ys:List α} {base:Nat} {e:TypeId}
theorem jb1 {P:Program} {w:World} {ops:Array Oper} {o:Oper} {a:Act} {K:Act->World->Prop} {Q:Exit->Act->World->Prop} {E:Prop} (hgd:o.guard=none) (s x:Operand) (t:TypeId)
  (ho:o.op=.call { callee:=.builtin .append,args:= #[s,x],argTypes:= #[t,t] })
  (i:TypeInfo) (z:Value) (bytes:Nat) (ht:P.underlying t=some (.slice e)) (hi:P.info? e=some i) (hz:i.zero=some z)
  (hsize:i.size=k.size) (hby:i.bytes=bytes) (hzs:z.cells.size=k.size)
  (hs:a.eval s=v) (hown:OwnK k base e S w v xs) (A:Option Addr) (m c:Nat) (hx:a.eval x=.slice A m c) (hu:jar k T w (.slice A m c) ys) (hT:∀ b,T b->S b/\b<base)
  (h63:xs.length+m<=maxLen) (hbytes:(xs.length+m)*bytes<=140737488355328) (hbase:base<=w.heap.size)
  (h:∀ v' w',Apped k base e S w v (xs++ys) v' w'->K (a.put o.dst v') w') :
  if Region.wanted o (yielded ops a.tmps)=true then Oper.wp P o a w K Q else E :=
 jde hgd s x t ho i z bytes ht hi hz hsize hby hzs hs hown A m c hx hu (fun b hb _=>(hT b hb).1) (fun g hg hb=>absurd (hown.at_ g hg).1 (Nat.not_le.2 (hT g hb).2)) h63 hbytes hbase h
theorem jeh {P:Program} {w:World} {ops:Array Oper} {rest:List Oper} {o:Oper} {a:Act} {Q:Exit->Act->World->Prop} (hgd:o.guard=none) (s x:Operand) (t:TypeId)
  (ho:o.op=.call { callee:=.builtin .append,args:= #[s,x],argTypes:= #[t,t] })
  (i:TypeInfo) (z:Value) (bytes:Nat) (ht:P.underlying t=some (.slice e)) (hi:P.info? e=some i) (hz:i.zero=some z)
  (hsize:i.size=k.size) (hby:i.bytes=bytes) (hzs:z.cells.size=k.size)
  (hs:a.eval s=v) (hown:OwnK k base e S w v xs) (A:Option Addr) (m c:Nat) (hx:a.eval x=.slice A m c) (hu:jar k T w (.slice A m c) ys) (hT:∀ b,T b->S b/\b<base)
  (h63:xs.length+m<=maxLen) (hbytes:(xs.length+m)*bytes<=140737488355328) (hbase:base<=w.heap.size)
  (h:∀ v' w',Apped k base e S w v (xs++ys) v' w'->wpList P ops Q rest (a.put o.dst v') w'):wpList P ops Q (o :: rest) a w :=
 jco hgd s x t ho i z bytes ht hi hz hsize hby hzs hs hown A m c hx hu (fun b hb _=>(hT b hb).1) (fun g hg hb=>absurd (hown.at_ g hg).1 (Nat.not_le.2 (hT g hb).2)) h63 hbytes hbase h
theorem Apped.blk2 {w w':World} {v v':Value} {zs:List α} {g:Nat} {t:TypeId} {cs:Array Value} (h:Apped k base e S w v zs v' w') (hb:Blk w g t cs) (hg:v.ownBlock≠some g):Blk w' g t cs :=
 (h.grown.block g hb.lt (fun e=>hg e.symm)).trans hb
theorem Blk.at_new {w:World} {g:Nat} {t:TypeId} {cs:Array Value} (hg:g=w.heap.size):Blk (w.alloc (.cells cs t)) g t cs:=by subst hg;exact Blk.new _ _ _
theorem ListK.low {w:World} (h:ListK k S w v xs):ListK k (fun b=>S b/\b<w.heap.size) w v xs:=h.imp (fun _ hb hlt=>⟨hb,hlt⟩) (.refl _ _) (Nat.le_refl _)
theorem jar.sub {w:World} (h:jar k S w v xs) (hS:∀ b,S b->b<w.heap.size->T b):jar k T w v xs:=jaa.impL (fun _ _ _ h=>k.imp h hS (.refl _ _) (Nat.le_refl _)) (fun _ _ _=>trivial) h (.refl _ _) (Nat.le_refl _)
theorem jaa.fst {size:Nat} {E:World->List Value->α->Prop} {w:World} {A:Option Addr} {n c:Nat} (h:jaa S size E w (.slice A n c) xs) (j:Nat) (hj:j<=n):jaa S size E w (.slice A j c) (xs.take j):=by
 obtain⟨A',c',hv,h1,h2,h3⟩:=h;injection hv with hA hn hc
 subst hA;subst hn;subst hc;have hl:(xs.take j).length=j:=by rw[List.length_take];omega
 refine⟨A,c,by rw[hl],by omega,h2,fun h0=>?_⟩;obtain⟨b,off,ha,hb,hs,hcell⟩:=h3 (by omega)
 exact ⟨b,off,ha,hb,hs,fun i x hx=>hcell i x (by
  rw[List.getElem?_take] at hx;split at hx
  . exact hx
  cases hx)⟩
theorem jaa.drop {size:Nat} {E:World->List Value->α->Prop} {w:World} {A:Option Addr} {n c:Nat} (h:jaa S size E w (.slice A n c) xs) (j:Nat) (hj:j<=n):jaa S size E w (.slice (if c=j then A else A.map (·.add (j*size))) (n-j) (c-j)) (xs.drop j):=by
 obtain⟨A',c',hv,h1,h2,h3⟩:=h;injection hv with hA hn hc
 subst hA;subst hn;subst hc;refine⟨_,c-j,by rw[List.length_drop],by rw[List.length_drop];omega,by omega,fun h0=>?_⟩;rw[List.length_drop] at h0;obtain⟨b,off,rfl,hb,hs,hcell⟩:=h3 (by omega);refine⟨b,off+j*size,by rw[if_neg (by omega)];simp[jo7],hb,hs,fun i x hx=>?_⟩;rw[List.getElem?_drop] at hx;obtain⟨cs,k1,k2,k3⟩:=hcell (j+i) x hx;refine⟨cs,k1,fun q u hu=>?_,k3⟩;have:=k2 q u hu
 rwa [show off+((j+i)*size+q)=off+j*size+(i*size+q) from by rw[Nat.add_mul];omega] at this
end
/-! ### The kinds -/
theorem jad.impL {S S':Nat->Prop} {w w':World} {v:Value} {xs:List GT} (h:jad S w v xs) (hS:∀ b,S b->b<w.heap.size->S' b) (he:Agree S w w') (hsz:w.heap.size<=w'.heap.size):jad S' w' v xs :=
 jaa.impL (E:=TermE) (w:=w) (fun _ _ _ h=>h) hS h he hsz
def kTerm:Kind GT:=⟨2,fun _=>TermE,by decide,fun h _ _ _=>h,fun {_ w l x} h=>TermE.oneCell (w:=w) l x h,fun h=>by obtain⟨rfl,_⟩:=h;rfl⟩
def kAtom:Kind GA:=⟨2,AtomE,by decide,fun h hS he hsz=>by obtain⟨v,h1,h2,h3⟩:=h;exact⟨v,h1,h2,h3.impL hS he hsz⟩,fun {_ _ l x} h=>AtomE.oneCell l x h,fun h=>by obtain⟨v,rfl,_⟩:=h;rfl⟩
def StrE (_:World) (cs:List Value) (s:ByteArray):Prop:=cs=[.string s]/\s.size<=maxLen
def StrsR (S:Nat->Prop):World->Value->List ByteArray->Prop:=jaa S 1 StrE
theorem StrsR.at_ {S:Nat->Prop} {w:World} {A:Option Addr} {n c:Nat} {xs:List ByteArray} (h:StrsR S w (.slice A n c) xs) {k:Nat} (hk:k<n) :
  ∃ (b off:Nat) (x:ByteArray),A=some ⟨b,off,none⟩/\b<w.heap.size/\xs[k]? = some x/\x.size<=maxLen/\w.cell? ⟨b,off+k,none⟩=some (.string x):=by
 obtain⟨b,off,x,cs,hA,hb,hx,_,hc,rfl,hs⟩:=jaa.at_ h hk;exact⟨b,off,x,hA,hb,hx,hs,by simpa using hc 0 _ rfl⟩
theorem StrsR.imp {S S':Nat->Prop} {w w':World} {v:Value} {xs:List ByteArray} (h:StrsR S w v xs) (hS:∀ b,S b->S' b) (he:Agree S w w') (hsz:w.heap.size<=w'.heap.size):StrsR S' w' v xs :=
 jaa.imp (E:=StrE) (w:=w) (fun _ _ _ h=>h) hS h he hsz
theorem StrsR.ext {S:Nat->Prop} {w w':World} {v:Value} {xs:List ByteArray} (h:StrsR S w v xs) (he:Ext w w'):StrsR S w' v xs:=h.imp (fun _ h=>h) (.of_ext he) he.size
def kStr:Kind ByteArray:=⟨1,fun _=>StrE,by decide,fun h _ _ _=>h,fun h=>by obtain⟨rfl,_⟩:=h;intro u hu;simp at hu;subst hu;rfl,fun h=>by obtain⟨rfl,_⟩:=h;rfl⟩
end Go.Proofs.YthiflhkcpanaaaaGreatDoor
namespace Go.Proofs.YthiflhkcpanaaaaGreatDoor
open Go.RowKit
def jae {α:Type} (k:Kind α) (S:Nat->Prop) (w:World) (v:Value) (xs:List α):Prop :=
 ∃ A c,v=.slice A xs.length c/\xs.length<=c/\c<=maxLen /\
   (0 < xs.length->∃ (b off:Nat) (F:Nat->Nat->Prop),A=some ⟨b,off,none⟩/\b<w.heap.size/\S b /\
    (∀ j,j<xs.length*k.size->w.frozen? ⟨b,off+j,none⟩=false) /\
    (∀ i n,F i n->S n/\n≠b/\n<w.heap.size)/\(∀ i j n,F i n->F j n->i=j) /\
    ∀ (i:Nat) (x:α),xs[i]? = some x->∃ cs:List Value,cs.length=k.size/\(∀ (j:Nat) (u:Value),cs[j]? = some u->w.cell? ⟨b,off+(i*k.size+j),none⟩=some u)/\k.E (F i) w cs x)
section
variable {α:Type} {k:Kind α} {S S':Nat->Prop} {w w':World} {v:Value} {xs:List α}
theorem jae.imp (h:jae k S w v xs) (hS:∀ b,S b->b<w.heap.size->S' b) (he:Agree S w w') (hsz:w.heap.size<=w'.heap.size):jae k S' w' v xs:=by
 obtain⟨A,c,hv,h1,h2,h3⟩:=h;refine⟨A,c,hv,h1,h2,fun h0=>?_⟩;obtain⟨b,off,F,ha,hb,hs,hfr,hF,hdis,hc⟩:=h3 h0;refine⟨b,off,F,ha,Nat.lt_of_lt_of_le hb hsz,hS b hs hb,fun j hj=>(World.frozen?_of_block (w:=w) (a:=⟨b,_,none⟩) (he b hs hb)).trans (hfr j hj),fun i n hn=>⟨hS n (hF i n hn).1 (hF i n hn).2.2,(hF i n hn).2.1,Nat.lt_of_lt_of_le (hF i n hn).2.2 hsz⟩,hdis,fun i x hx=>?_⟩;obtain⟨cs,hl,hcs,hEx⟩:=hc i x hx;exact⟨cs,hl,fun j u hu=>(World.cell?_of_block (w:=w) (a:=⟨b,_,none⟩) (he b hs hb)).trans (hcs j u hu),k.imp hEx (fun _ h _=>h) (fun n hn hlt=>he n (hF i n hn).1 hlt) hsz⟩
theorem jae.ext (h:jae k S w v xs) (he:Ext w w'):jae k S w' v xs:=h.imp (fun _ h _=>h) (.of_ext he) he.size
theorem jae.sub (h:jae k S w v xs) (hS:∀ b,S b->S' b):jae k S' w v xs:=h.imp (fun b hb _=>hS b hb) (.refl _ _) (Nat.le_refl _)
theorem jae.form (h:jae k S w v xs):∃ A c,v=.slice A xs.length c/\xs.length<=c/\c<=9223372036854775807:=by
 obtain⟨A,c,hv,h1,h2,_⟩:=h;exact⟨A,c,hv,h1,h2⟩
theorem jae.read {E':(Nat->Prop)->World->List Value->α->Prop} (h:jae k S w v xs) (hE:∀ T l x,k.E T w l x->(∀ b,T b->S b)->E' S w l x):jaa S k.size (E' S) w v xs:=by
 obtain⟨A,c,hv,h1,h2,h3⟩:=h;refine⟨A,c,hv,h1,h2,fun h0=>?_⟩;obtain⟨b,off,F,ha,hb,hs,_,hF,_,hc⟩:=h3 h0;refine⟨b,off,ha,hb,hs,fun i x hx=>?_⟩;obtain⟨cs,hl,hcs,hEx⟩:=hc i x hx;exact⟨cs,hl,hcs,hE _ _ _ hEx (fun n hn=>(hF i n hn).1)⟩
end
section
variable {α:Type} {k:Kind α} {S S' T:Nat->Prop} {w w':World} {v:Value} {xs ys:List α} {base:Nat} {e:TypeId}
end
/-! ### The kinds -/
def jbt (S:Nat->Prop):World->Value->List GT->Prop:=jae kTerm S
def juy (S:Nat->Prop) (w:World) (cs:List Value) (a:GA):Prop:=∃ v,cs=[.string a.n,v]/\a.n.size<=maxLen/\jbt S w v a.args
theorem jbt.imp {S S':Nat->Prop} {w w':World} {v:Value} {xs:List GT} (h:jbt S w v xs) (hS:∀ b,S b->b<w.heap.size->S' b) (he:Agree S w w') (hsz:w.heap.size<=w'.heap.size):jbt S' w' v xs:=jae.imp h hS he hsz
theorem jbt.read {S:Nat->Prop} {w:World} {v:Value} {xs:List GT} (h:jbt S w v xs):jad S w v xs:=jae.read (E':=fun _=>TermE) h (fun _ _ _ h _=>h)
def juz:Kind GA:=⟨2,juy,by decide,fun h hS he hsz=>by obtain⟨v,h1,h2,h3⟩:=h;exact⟨v,h1,h2,h3.imp hS he hsz⟩,
 fun {_ _ l x} h=>by
  obtain⟨v,rfl,_,ht⟩:=h;obtain⟨A,c,rfl,_⟩:=jae.form ht;intro u hu;simp at hu;rcases hu with rfl|rfl<;>rfl,fun h=>by obtain⟨v,rfl,_⟩:=h;rfl⟩
def jbn (S:Nat->Prop):World->Value->List GA->Prop:=jae juz S
theorem juy.read {S T:Nat->Prop} {w:World} {l:List Value} {a:GA} (h:juy T w l a) (hS:∀ b,T b->S b):AtomE S w l a:=by
 obtain⟨v,h1,h2,h3⟩:=h;exact⟨v,h1,h2,jad.sub h3.read hS⟩
theorem jbn.read {S:Nat->Prop} {w:World} {v:Value} {xs:List GA} (h:jbn S w v xs):jab S w v xs:=jae.read (k:=juz) (E':=AtomE) h (fun _ _ _ h hS=>juy.read h hS)
end Go.Proofs.YthiflhkcpanaaaaGreatDoor
