/- Own texts, joined. -/
import Derived.Test.YthdojieomhighaaGreatDoorCas03
import Derived.Test.YthdojieomhighaaGreatDoorCas01
set_option linter.unusedSimpArgs false
set_option linter.unusedVariables false
set_option maxHeartbeats 4000000
set_option maxRecDepth 100000
namespace Go.Proofs.YthdojieomhighaaGreatDoor
open Go.RowKit
theorem maxOf {n:Nat} (h:n≤1000000000):n≤maxLen:=by unfold maxLen;omega
abbrev None:Nat→Prop:=fun _=>False
structure Kind (α:Type) where
 size:Nat
 E:(Nat→Prop)→World→List Value→α→Prop
 pos:0<size
 imp:∀ {S S':Nat→Prop} {w w':World} {cs:List Value} {x:α},E S w cs x→(∀ b,S b→b<w.heap.size→S' b)→Agree S w w'→w.heap.size≤w'.heap.size→E S' w' cs x
 one:∀ {S:Nat→Prop} {w:World} {l:List Value} {x:α},E S w l x→∀ u∈l,u.oneCell'=true
 len:∀ {S:Nat→Prop} {w:World} {l:List Value} {x:α},E S w l x→l.length=size
theorem jaa.impL {α:Type} {S S':Nat→Prop} {size:Nat} {E E':World→List Value→α→Prop} {w w':World} {v:Value} {xs:List α}
  (hE:∀ cs x,x∈xs→E w cs x→E' w' cs x) (hS:∀ b,S b→b<w.heap.size→S' b) (h:jaa S size E w v xs) (he:Agree S w w') (hsz:w.heap.size≤w'.heap.size):jaa S' size E' w' v xs:=by
 obtain⟨A,c,hv,h1,h2,h3⟩:=h;refine⟨A,c,hv,h1,h2,fun h0=>?_⟩;obtain⟨b,off,ha,hb,hs,hc⟩:=h3 h0;refine⟨b,off,ha,Nat.lt_of_lt_of_le hb hsz,hS b hs hb,fun i x hx=>?_⟩;obtain⟨cs,hl,hcs,hEx⟩:=hc i x hx;exact⟨cs,hl,fun j u hu=>(World.cell?_of_block (w:=w) (a:=⟨b,_,none⟩) (he b hs hb)).trans (hcs j u hu),hE _ _ (List.mem_of_getElem? hx) hEx⟩
def ListK {α:Type} (k:Kind α) (S:Nat→Prop) (w:World) (v:Value) (xs:List α):Prop:=jaa S k.size (k.E S) w v xs
section
variable {α:Type} {k:Kind α} {S S':Nat→Prop} {w w':World} {v:Value} {xs:List α}
theorem ListK.imp (h:ListK k S w v xs) (hS:∀ b,S b→b<w.heap.size→S' b) (he:Agree S w w') (hsz:w.heap.size≤w'.heap.size):ListK k S' w' v xs :=
 jaa.impL (fun _ _ _ h=>k.imp h hS he hsz) hS h he hsz
theorem ListK.ext (h:ListK k S w v xs) (he:Ext w w'):ListK k S w' v xs:=h.imp (fun _ h _=>h) (.of_ext he) he.size
theorem ListK.sub (h:ListK k S w v xs) (hS:∀ b,S b→S' b):ListK k S' w v xs:=h.imp (fun b hb _=>hS b hb) (.refl _ _) (Nat.le_refl _)
def jas (k:Kind α) (S:Nat→Prop) (w:World) (v:Value) (xs:List α):Prop:=jaa Any k.size (k.E S) w v xs
theorem ListK.elems (h:ListK k S w v xs):jas k S w v xs:=jaa.impL (fun _ _ _ h=>h) (fun _ _ _=>trivial) h (.refl _ _) (Nat.le_refl _)
theorem ListK.nil (c:Nat) (hc:c≤maxLen) (A:Option Addr):ListK k S w (.slice A 0 c) []:=jaa.nil_ c hc A
theorem jas.ext (h:jas k S w v xs) (he:Ext w w'):jas k S w' v xs:=jaa.impL (fun _ _ _ h=>k.imp h (fun _ h _=>h) (.of_ext he) he.size) (fun _ _ _=>trivial) h (.of_ext he) he.size
theorem jas.one {g:Nat} {t:TypeId} {l:List Value} {x:α} (hb:Blk w g t l.toArray) (h:k.E S w l x):jas k S w (.slice (some ⟨g,0,none⟩) 1 1) [x]:=by
 refine⟨_,1,rfl,Nat.le_refl _,by unfold maxLen;omega,fun _=>⟨g,0,rfl,hb.lt,trivial,fun i y hy=>?_⟩⟩
 cases i with
 | zero =>
   simp at hy;subst hy;refine⟨l,k.len h,fun j u hu=>?_,h⟩;rw[hb.cell];simpa using hu
 | succ i=>simp at hy
end
def OwnK {α:Type} (k:Kind α) (base:Nat) (e:TypeId) (S:Nat→Prop) (w:World) (v:Value) (xs:List α):Prop :=
 ∃ rows T,w.ownsRow base e k.size v xs.length rows∧RowsE k.size (k.E T) w rows xs∧(∀ b,T b→S b∧b<w.heap.size)∧∀ g,v.ownBlock=some g→¬ T g
section
variable {α:Type} {k:Kind α} {S S':Nat→Prop} {w w':World} {v:Value} {xs ys:List α} {base:Nat} {e:TypeId}
theorem OwnK.form (h:OwnK k base e S w v xs):∃ A c,v=.slice A xs.length c∧xs.length≤c∧c≤9223372036854775807:=by
 obtain⟨rows,T,h1,_⟩:=h;rcases h1.2 with ⟨rfl,h0⟩|⟨g,cap,cur,rfl,_,_,h2,h3,_⟩
 · exact⟨none,0,by rw[h0],by omega,by omega⟩
 exact⟨_,_,rfl,h2,h3⟩
theorem OwnK.form2 (h:OwnK k base e S w v xs):∃ A n c,v=.slice A n c∧Hid (n=xs.length)∧n≤c∧c≤9223372036854775807:=by
 obtain⟨A,c,h1,h2,h3⟩:=h.form;exact⟨A,_,c,h1,zh rfl,h2,h3⟩
theorem OwnK.nil:OwnK k base e S w (.slice none 0 0) []:=⟨[],fun _=>False,World.ownsRow_nil _ _ _ _,RowsE.nil,fun _ h=>h.elim,fun _ _ h=>h⟩
theorem OwnK.empty {g:Nat} (hg:g=w.heap.size) (hb:base≤g):OwnK k base e S (w.alloc (.cells #[] e)) (.slice (some ⟨g,0,none⟩) 0 0) ([]:List α):=by
 subst hg;refine⟨[],fun _=>False,⟨by simp,.inr ⟨w.heap.size,0,#[],rfl,hb,Blk.new w e #[],Nat.le_refl _,Nat.zero_le _,by simp,by simp⟩⟩,RowsE.nil,fun _ h=>h.elim,fun _ _ h=>h⟩
theorem OwnK.at_ (h:OwnK k base e S w v xs):∀ g,v.ownBlock=some g→base≤g∧g<w.heap.size:=by
 obtain⟨rows,T,h1,_⟩:=h;exact h1.lt
theorem OwnK.agree (h:OwnK k base e S w v xs) (h1:Agree S w w') (h2:∀ g,v.ownBlock=some g→w'.heap[g]? = w.heap[g]?) (hsz:w.heap.size≤w'.heap.size):OwnK k base e S w' v xs:=by
 obtain⟨rows,T,k1,k2,k3,k4⟩:=h;refine⟨rows,T,⟨k1.1,?_⟩,k2.mono (fun l x _ hx=>k.imp hx (fun _ h _=>h) (fun b hb hlt=>h1 b (k3 b hb).1 hlt) hsz),fun b hb=>⟨(k3 b hb).1,Nat.lt_of_lt_of_le (k3 b hb).2 hsz⟩,k4⟩;rcases k1.2 with h0|⟨g,cap,cur,rfl,hb,hc,h3⟩
 · exact .inl h0
 exact .inr ⟨g,cap,cur,rfl,hb,(h2 g rfl).trans hc,h3⟩
theorem OwnK.ext (h:OwnK k base e S w v xs) (he:Ext w w'):OwnK k base e S w' v xs :=
 h.agree (.of_ext he) (fun g hg=>he.block g (h.at_ g hg).2) he.size
theorem OwnK.drew (h:OwnK k base e S w v xs):OwnK k base e S w.drew v xs:=h.ext (Ext.refl _).drew
theorem OwnK.alloc (h:OwnK k base e S w v xs) (o:Obj):OwnK k base e S (w.alloc o) v xs:=h.ext ((Ext.refl _).alloc o)
theorem OwnK.set (h:OwnK k base e S w v xs) {p:Addr} (hp:p.block<base) (hS:¬ S p.block) (u:Value):OwnK k base e S (w.setCell p u) v xs :=
 h.agree ((Agree.refl _ _).setCell hS u) (fun g hg=>Below.heap_setCell w p u g (by have:=(h.at_ g hg).1;omega)) (by go_size)
theorem OwnK.sub (h:OwnK k base e S w v xs) {base':Nat} (hb:base'≤base) (hS:∀ b,S b→S' b):OwnK k base' e S' w v xs:=by
 obtain⟨rows,T,k1,k2,k3,k4⟩:=h;refine⟨rows,T,⟨k1.1,?_⟩,k2,fun b hb=>⟨hS b (k3 b hb).1,(k3 b hb).2⟩,k4⟩;rcases k1.2 with h0|⟨g,cap,cur,rfl,hbb,hc,h3⟩
 · exact .inl h0
 exact .inr ⟨g,cap,cur,rfl,Nat.le_trans hb hbb,hc,h3⟩
theorem OwnK.list (h:OwnK k base e S w v xs) (hS:∀ b,S b→S' b) (hS':∀ b,base≤b→S' b):ListK k S' w v xs:=by
 obtain⟨rows,T,k1,k2,k3,k4⟩:=h;have h1:=jw4 (E:=k.E S') (xs:=xs) k1 (k2.mono (fun l x _ hx=>k.imp hx (fun b hb _=>hS b (k3 b hb).1) (.refl _ _) (Nat.le_refl _))) rfl;exact jaa.impL (fun _ _ _ h=>h) (fun b hb _=>hS' b hb) h1 (.refl _ _) (Nat.le_refl _)
end
section
variable {α:Type} {k:Kind α} {S T:Nat→Prop} {v:Value} {xs ys:List α} {base:Nat} {e:TypeId}
theorem ji2 {P:Program} (w:World) (base:Nat) (t ty e:TypeId) (i:TypeInfo) (size:Nat) (ht:P.underlying t=some (.slice e)) (hi:P.info? e=some i)
  (v:Value) (n:Nat) (xs:List Value) (hown:w.ownsRow base e size v n xs) (c:Nat):(Builtin.append_ #[t,t] ty #[v,.slice none 0 c]).run P w=.ok v w:=by
 rcases hown.2 with ⟨rfl,rfl⟩|⟨g,cap,cur,rfl,_,_,hnc,_⟩
 · simp[Builtin.append_,run_underlying ht,sizeOf,typeInfo,hi,Builtin.lenOf,Builtin.firstCells]
 simp[Builtin.append_,run_underlying ht,sizeOf,typeInfo,hi,Builtin.lenOf,Builtin.firstCells,hnc,storeCells]
structure Apped (k:Kind α) (base:Nat) (e:TypeId) (S:Nat→Prop) (w:World) (v:Value) (zs:List α) (v':Value) (w':World):Prop where
 own:OwnK k base e S w' v' zs
 below:Below base w w'
 grown:w.grownBy w' v.ownBlock
 at_:v'.ownBlock=v.ownBlock∨v'.ownBlock=some w.heap.size
theorem Apped.toExt {w0 w w':World} {v v':Value} {zs:List α} (h:Apped k base e S w v zs v' w') (hx:Ext w0 w) (hb:w0.heap.size≤base):Ext w0 w':=Below.trans hx (h.below.mono hb)
theorem Apped.blk {w w':World} {v v':Value} {zs:List α} {g:Nat} {t:TypeId} {cs:Array Value} (h:Apped k base e S w v zs v' w') (hb:Blk w g t cs) (hg:g<base):Blk w' g t cs:=hb.below h.below hg
theorem jg9 {w w':World} {row:Option Nat} (h:w.grownBy w' row) (hr:∀ g,row=some g→base≤g) (hb:base≤w.heap.size):Below base w w' :=
 ⟨h.os,h.tape,h.output,h.size,fun i hi=>h.block i (Nat.lt_of_lt_of_le hi hb) (fun e=>by have:=hr i e.symm;omega)⟩
theorem jt5 {P:Program} (w:World) (t ty:TypeId) (i:TypeInfo) (z:Value) (bytes:Nat) (ht:P.underlying t=some (.slice e)) (hi:P.info? e=some i) (hz:i.zero=some z)
  (hsize:i.size=k.size) (hby:i.bytes=bytes) (hzs:z.cells.size=k.size)
  (hown:OwnK k base e S w v xs) (A:Option Addr) (m c:Nat) (hu:jas k T w (.slice A m c) ys) (hT:∀ b,T b→b<w.heap.size→S b) (hTv:∀ g,v.ownBlock=some g→¬ T g)
  (h63:xs.length+m≤maxLen) (hbytes:(xs.length+m)*bytes≤140737488355328) (hbase:base≤w.heap.size) :
  ∃ v' w',(Builtin.append_ #[t,t] ty #[v,.slice A m c]).run P w=.ok v' w'∧Apped k base e S w v (xs++ys) v' w':=by
 obtain⟨rows,U,k1,k2,k3,k4⟩:=id hown;have hlt:=k1.lt;by_cases hm:m=0
 · subst hm
   have hys:ys=[]:=by
    obtain⟨A',c',hv,_⟩:=hu;injection hv with _ hn _
    exact List.eq_nil_of_length_eq_zero hn.symm
   subst hys;rw[List.append_nil];rcases A with _|ad
   · exact⟨v,w,ji2 w base t ty e i k.size ht hi v _ rows k1 c,hown,Below.refl _ _,World.grownBy.refl w _,.inl rfl⟩
   obtain⟨v',w',hr,h1,h2,h3,h4⟩:=run_append_own_at (P:=P) w base t ty e i z k.size bytes ht hi hz hsize hby hzs k.pos v xs.length rows k1 ad 0 c [] (by simp) (by simp) (by simp) h63 hbytes hbase;have hb:=jg9 h2 (fun g hg=>(hlt g hg).1) hbase;rw[Nat.add_zero,List.append_nil] at h1;refine⟨v',w',hr,⟨rows,U,h1,k2.mono (fun l x _ hx=>k.imp hx (fun _ h _=>h) (fun b hb hlt'=>h2.block b hlt' (fun e=>k4 b e.symm hb)) h2.size),fun b hb=>⟨(k3 b hb).1,Nat.lt_of_lt_of_le (k3 b hb).2 h2.size⟩,fun g hg hU=>?_⟩,hb,h2,h4⟩;rcases h4 with h4|h4
   · exact k4 g (h4▸hg) hU
   rw[h4] at hg;injection hg with hg;have:=(k3 g hU).2;omega
 obtain⟨b,off,news,rfl,hb,_,hn,hl,hrow,hcell⟩:=jaa.rows_ hu (by omega) k.pos
 obtain ⟨v',w',hr,h1,h2,h3,h4⟩:=run_append_own_at (P:=P) w base t ty e i z k.size bytes ht hi hz hsize hby hzs k.pos v xs.length rows k1 ⟨b,off,none⟩ m c news hl (fun j u hj=>by rw[jog];exact hcell j u hj)
  (hrow.oneCell k.pos (fun l x hx=>k.one hx)) h63 hbytes hbase
 have hbl:=jg9 h2 (fun g hg=>(hlt g hg).1) hbase;refine⟨v',w',hr,⟨rows++news,fun b=>(U b∨T b)∧b<w.heap.size,by rw[List.length_append,← hn];exact h1,?_,fun b hb=>⟨?_,Nat.lt_of_lt_of_le hb.2 h2.size⟩,fun g hg hU=>?_⟩,hbl,h2,h4⟩
 · exact (k2.mono (E':=k.E (fun b=>(U b∨T b)∧b<w.heap.size)) (w':=w') (fun l x _ hx=>k.imp hx (fun b hb hlt=>⟨.inl hb,hlt⟩) (fun b hb hlt'=>h2.block b hlt' (fun e=>k4 b e.symm hb)) h2.size)).append
     (hrow.mono (fun l x _ hx=>k.imp hx (fun b hb hlt=>⟨.inr hb,hlt⟩) (fun b hb hlt'=>h2.block b hlt' (fun e=>hTv b e.symm hb)) h2.size))
 · rcases hb.1 with hb'|hb'
   · exact (k3 b hb').1
   exact hT b hb' hb.2
 rcases h4 with h4|h4
 · rw [h4] at hg
   rcases hU.1 with hU'|hU'
   · exact k4 g hg hU'
   exact hTv g hg hU'
 rw[h4] at hg;injection hg with hg;have:=hU.2;omega
theorem jfl {P:Program} (w:World) {o:Oper} {a:Act} {K:Act→World→Prop} {Q:Exit→Act→World→Prop} (s x:Operand) (t:TypeId)
  (ho:o.op=.call { callee:=.builtin .append,args:= #[s,x],argTypes:= #[t,t] })
  (i:TypeInfo) (z:Value) (bytes:Nat) (ht:P.underlying t=some (.slice e)) (hi:P.info? e=some i) (hz:i.zero=some z)
  (hsize:i.size=k.size) (hby:i.bytes=bytes) (hzs:z.cells.size=k.size)
  (hs:a.eval s=v) (hown:OwnK k base e S w v xs) (A:Option Addr) (m c:Nat) (hx:a.eval x=.slice A m c) (hu:jas k T w (.slice A m c) ys) (hT:∀ b,T b→b<w.heap.size→S b) (hTv:∀ g,v.ownBlock=some g→¬ T g)
  (h63:xs.length+m≤maxLen) (hbytes:(xs.length+m)*bytes≤140737488355328) (hbase:base≤w.heap.size)
  (h:∀ v' w',Apped k base e S w v (xs++ys) v' w'→K (a.put o.dst v') w'):o.wp P a w K Q:=by
 obtain⟨v',w',hr,h2⟩:=jt5 (P:=P) w t o.type i z bytes ht hi hz hsize hby hzs hown A m c hu hT hTv h63 hbytes hbase;unfold Oper.wp execOp;simp only[ho,resolve,invoke,builtin,Sem.run_bind,Sem.run_pure,Result.andThen_ok,List.map_toArray,List.map_cons,List.map_nil,hs,hx,hr];exact h v' w' h2
theorem jcn {P:Program} {w:World} {ops:Array Oper} {rest:List Oper} {o:Oper} {a:Act} {Q:Exit→Act→World→Prop} (hgd:o.guard=none) (s x:Operand) (t:TypeId)
  (ho:o.op=.call { callee:=.builtin .append,args:= #[s,x],argTypes:= #[t,t] })
  (i:TypeInfo) (z:Value) (bytes:Nat) (ht:P.underlying t=some (.slice e)) (hi:P.info? e=some i) (hz:i.zero=some z)
  (hsize:i.size=k.size) (hby:i.bytes=bytes) (hzs:z.cells.size=k.size)
  (hs:a.eval s=v) (hown:OwnK k base e S w v xs) (A:Option Addr) (m c:Nat) (hx:a.eval x=.slice A m c) (hu:jas k T w (.slice A m c) ys) (hT:∀ b,T b→b<w.heap.size→S b) (hTv:∀ g,v.ownBlock=some g→¬ T g)
  (h63:xs.length+m≤maxLen) (hbytes:(xs.length+m)*bytes≤140737488355328) (hbase:base≤w.heap.size)
  (h:∀ v' w',Apped k base e S w v (xs++ys) v' w'→wpList P ops Q rest (a.put o.dst v') w'):wpList P ops Q (o :: rest) a w :=
 wpList_plain hgd fun _ hK=>jfl w s x t ho i z bytes ht hi hz hsize hby hzs hs hown A m c hx hu hT hTv h63 hbytes hbase fun v' w' h2=>hK _ _ (h v' w' h2)
theorem jdd {P:Program} {w:World} {ops:Array Oper} {o:Oper} {a:Act} {K:Act→World→Prop} {Q:Exit→Act→World→Prop} {E:Prop} (hgd:o.guard=none) (s x:Operand) (t:TypeId)
  (ho:o.op=.call { callee:=.builtin .append,args:= #[s,x],argTypes:= #[t,t] })
  (i:TypeInfo) (z:Value) (bytes:Nat) (ht:P.underlying t=some (.slice e)) (hi:P.info? e=some i) (hz:i.zero=some z)
  (hsize:i.size=k.size) (hby:i.bytes=bytes) (hzs:z.cells.size=k.size)
  (hs:a.eval s=v) (hown:OwnK k base e S w v xs) (A:Option Addr) (m c:Nat) (hx:a.eval x=.slice A m c) (hu:jas k T w (.slice A m c) ys) (hT:∀ b,T b→b<w.heap.size→S b) (hTv:∀ g,v.ownBlock=some g→¬ T g)
  (h63:xs.length+m≤maxLen) (hbytes:(xs.length+m)*bytes≤140737488355328) (hbase:base≤w.heap.size)
  (h:∀ v' w',Apped k base e S w v (xs++ys) v' w'→K (a.put o.dst v') w') :
  if Region.wanted o (yielded ops a.tmps)=true then Oper.wp P o a w K Q else E:=by
 have hw:Region.wanted o (yielded ops a.tmps)=true:=by simp[Region.wanted,hgd]
 rw[if_pos hw];exact jfl w s x t ho i z bytes ht hi hz hsize hby hzs hs hown A m c hx hu hT hTv h63 hbytes hbase h
end
section
variable {α:Type} {k:Kind α} {S T:Nat→Prop} {v:Value} {xs ys:List α} {base:Nat} {e:TypeId}
theorem jb2 {P:Program} {w:World} {ops:Array Oper} {o:Oper} {a:Act} {K:Act→World→Prop} {Q:Exit→Act→World→Prop} {E:Prop} (hgd:o.guard=none) (s x:Operand) (t:TypeId)
  (ho:o.op=.call { callee:=.builtin .append,args:= #[s,x],argTypes:= #[t,t] })
  (i:TypeInfo) (z:Value) (bytes:Nat) (ht:P.underlying t=some (.slice e)) (hi:P.info? e=some i) (hz:i.zero=some z)
  (hsize:i.size=k.size) (hby:i.bytes=bytes) (hzs:z.cells.size=k.size)
  (hs:a.eval s=v) (hown:OwnK k base e S w v xs) (A:Option Addr) (m c:Nat) (hx:a.eval x=.slice A m c) (hu:jas k T w (.slice A m c) ys) (hT:∀ b,T b→S b∧b<base)
  (h63:xs.length+m≤maxLen) (hbytes:(xs.length+m)*bytes≤140737488355328) (hbase:base≤w.heap.size)
  (h:∀ v' w',Apped k base e S w v (xs++ys) v' w'→K (a.put o.dst v') w') :
  if Region.wanted o (yielded ops a.tmps)=true then Oper.wp P o a w K Q else E :=
 jdd hgd s x t ho i z bytes ht hi hz hsize hby hzs hs hown A m c hx hu (fun b hb _=>(hT b hb).1) (fun g hg hb=>absurd (hown.at_ g hg).1 (Nat.not_le.2 (hT g hb).2)) h63 hbytes hbase h
theorem jd9 {P:Program} {w:World} {ops:Array Oper} {rest:List Oper} {o:Oper} {a:Act} {Q:Exit→Act→World→Prop} (hgd:o.guard=none) (s x:Operand) (t:TypeId)
  (ho:o.op=.call { callee:=.builtin .append,args:= #[s,x],argTypes:= #[t,t] })
  (i:TypeInfo) (z:Value) (bytes:Nat) (ht:P.underlying t=some (.slice e)) (hi:P.info? e=some i) (hz:i.zero=some z)
  (hsize:i.size=k.size) (hby:i.bytes=bytes) (hzs:z.cells.size=k.size)
  (hs:a.eval s=v) (hown:OwnK k base e S w v xs) (A:Option Addr) (m c:Nat) (hx:a.eval x=.slice A m c) (hu:jas k T w (.slice A m c) ys) (hT:∀ b,T b→S b∧b<base)
  (h63:xs.length+m≤maxLen) (hbytes:(xs.length+m)*bytes≤140737488355328) (hbase:base≤w.heap.size)
  (h:∀ v' w',Apped k base e S w v (xs++ys) v' w'→wpList P ops Q rest (a.put o.dst v') w'):wpList P ops Q (o :: rest) a w :=
 jcn hgd s x t ho i z bytes ht hi hz hsize hby hzs hs hown A m c hx hu (fun b hb _=>(hT b hb).1) (fun g hg hb=>absurd (hown.at_ g hg).1 (Nat.not_le.2 (hT g hb).2)) h63 hbytes hbase h
theorem Apped.blk2 {w w':World} {v v':Value} {zs:List α} {g:Nat} {t:TypeId} {cs:Array Value} (h:Apped k base e S w v zs v' w') (hb:Blk w g t cs) (hg:v.ownBlock≠some g):Blk w' g t cs :=
 (h.grown.block g hb.lt (fun e=>hg e.symm)).trans hb
theorem Blk.at_new {w:World} {g:Nat} {t:TypeId} {cs:Array Value} (hg:g=w.heap.size):Blk (w.alloc (.cells cs t)) g t cs:=by subst hg;exact Blk.new _ _ _
theorem ListK.low {w:World} (h:ListK k S w v xs):ListK k (fun b=>S b∧b<w.heap.size) w v xs:=h.imp (fun _ hb hlt=>⟨hb,hlt⟩) (.refl _ _) (Nat.le_refl _)
theorem jas.sub {w:World} (h:jas k S w v xs) (hS:∀ b,S b→b<w.heap.size→T b):jas k T w v xs:=jaa.impL (fun _ _ _ h=>k.imp h hS (.refl _ _) (Nat.le_refl _)) (fun _ _ _=>trivial) h (.refl _ _) (Nat.le_refl _)
theorem jaa.fst {size:Nat} {E:World→List Value→α→Prop} {w:World} {A:Option Addr} {n c:Nat} (h:jaa S size E w (.slice A n c) xs) (j:Nat) (hj:j≤n):jaa S size E w (.slice A j c) (xs.take j):=by
 obtain⟨A',c',hv,h1,h2,h3⟩:=h;injection hv with hA hn hc
 subst hA;subst hn;subst hc;have hl:(xs.take j).length=j:=by rw[List.length_take];omega
 refine⟨A,c,by rw[hl],by omega,h2,fun h0=>?_⟩;obtain⟨b,off,ha,hb,hs,hcell⟩:=h3 (by omega)
 exact ⟨b,off,ha,hb,hs,fun i x hx=>hcell i x (by
  rw[List.getElem?_take] at hx;split at hx
  · exact hx
  cases hx)⟩
theorem jaa.drop {size:Nat} {E:World→List Value→α→Prop} {w:World} {A:Option Addr} {n c:Nat} (h:jaa S size E w (.slice A n c) xs) (j:Nat) (hj:j≤n):jaa S size E w (.slice (if c=j then A else A.map (·.add (j*size))) (n-j) (c-j)) (xs.drop j):=by
 obtain⟨A',c',hv,h1,h2,h3⟩:=h;injection hv with hA hn hc
 subst hA;subst hn;subst hc;refine⟨_,c-j,by rw[List.length_drop],by rw[List.length_drop];omega,by omega,fun h0=>?_⟩;rw[List.length_drop] at h0;obtain⟨b,off,rfl,hb,hs,hcell⟩:=h3 (by omega);refine⟨b,off+j*size,by rw[if_neg (by omega)];simp[jog],hb,hs,fun i x hx=>?_⟩;rw[List.getElem?_drop] at hx;obtain⟨cs,k1,k2,k3⟩:=hcell (j+i) x hx;refine⟨cs,k1,fun q u hu=>?_,k3⟩;have:=k2 q u hu
 rwa [show off+((j+i)*size+q)=off+j*size+(i*size+q) from by rw[Nat.add_mul];omega] at this
end
/-! ### The kinds -/
theorem jae.impL {S S':Nat→Prop} {w w':World} {v:Value} {xs:List GT} (h:jae S w v xs) (hS:∀ b,S b→b<w.heap.size→S' b) (he:Agree S w w') (hsz:w.heap.size≤w'.heap.size):jae S' w' v xs :=
 jaa.impL (E:=TermE) (w:=w) (fun _ _ _ h=>h) hS h he hsz
def kTerm:Kind GT:=⟨2,fun _=>TermE,by decide,fun h _ _ _=>h,fun {_ w l x} h=>TermE.oneCell (w:=w) l x h,fun h=>by obtain⟨rfl,_⟩:=h;rfl⟩
def kAtom:Kind GA:=⟨2,AtomE,by decide,fun h hS he hsz=>by obtain⟨v,h1,h2,h3⟩:=h;exact⟨v,h1,h2,h3.impL hS he hsz⟩,fun {_ _ l x} h=>AtomE.oneCell l x h,fun h=>by obtain⟨v,rfl,_⟩:=h;rfl⟩
def StrE (_:World) (cs:List Value) (s:ByteArray):Prop:=cs=[.string s]∧s.size≤maxLen
def StrsR (S:Nat→Prop):World→Value→List ByteArray→Prop:=jaa S 1 StrE
theorem StrsR.at_ {S:Nat→Prop} {w:World} {A:Option Addr} {n c:Nat} {xs:List ByteArray} (h:StrsR S w (.slice A n c) xs) {k:Nat} (hk:k<n) :
  ∃ (b off:Nat) (x:ByteArray),A=some ⟨b,off,none⟩∧b<w.heap.size∧xs[k]? = some x∧x.size≤maxLen∧w.cell? ⟨b,off+k,none⟩=some (.string x):=by
 obtain⟨b,off,x,cs,hA,hb,hx,_,hc,rfl,hs⟩:=jaa.at_ h hk;exact⟨b,off,x,hA,hb,hx,hs,by simpa using hc 0 _ rfl⟩
theorem StrsR.imp {S S':Nat→Prop} {w w':World} {v:Value} {xs:List ByteArray} (h:StrsR S w v xs) (hS:∀ b,S b→S' b) (he:Agree S w w') (hsz:w.heap.size≤w'.heap.size):StrsR S' w' v xs :=
 jaa.imp (E:=StrE) (w:=w) (fun _ _ _ h=>h) hS h he hsz
theorem StrsR.ext {S:Nat→Prop} {w w':World} {v:Value} {xs:List ByteArray} (h:StrsR S w v xs) (he:Ext w w'):StrsR S w' v xs:=h.imp (fun _ h=>h) (.of_ext he) he.size
def kStr:Kind ByteArray:=⟨1,fun _=>StrE,by decide,fun h _ _ _=>h,fun h=>by obtain⟨rfl,_⟩:=h;intro u hu;simp at hu;subst hu;rfl,fun h=>by obtain⟨rfl,_⟩:=h;rfl⟩
end Go.Proofs.YthdojieomhighaaGreatDoor
namespace Go.Proofs.YthdojieomhighaaGreatDoor
open Go.RowKit
def jad {α:Type} (k:Kind α) (S:Nat→Prop) (w:World) (v:Value) (xs:List α):Prop :=
 ∃ A c,v=.slice A xs.length c∧xs.length≤c∧c≤maxLen ∧
   (0 < xs.length→∃ (b off:Nat) (F:Nat→Nat→Prop),A=some ⟨b,off,none⟩∧b<w.heap.size∧S b ∧
    (∀ j,j<xs.length*k.size→w.frozen? ⟨b,off+j,none⟩=false) ∧
    (∀ i n,F i n→S n∧n≠b∧n<w.heap.size)∧(∀ i j n,F i n→F j n→i=j) ∧
    ∀ (i:Nat) (x:α),xs[i]? = some x→∃ cs:List Value,cs.length=k.size∧(∀ (j:Nat) (u:Value),cs[j]? = some u→w.cell? ⟨b,off+(i*k.size+j),none⟩=some u)∧k.E (F i) w cs x)
section
variable {α:Type} {k:Kind α} {S S':Nat→Prop} {w w':World} {v:Value} {xs:List α}
theorem jad.imp (h:jad k S w v xs) (hS:∀ b,S b→b<w.heap.size→S' b) (he:Agree S w w') (hsz:w.heap.size≤w'.heap.size):jad k S' w' v xs:=by
 obtain⟨A,c,hv,h1,h2,h3⟩:=h;refine⟨A,c,hv,h1,h2,fun h0=>?_⟩;obtain⟨b,off,F,ha,hb,hs,hfr,hF,hdis,hc⟩:=h3 h0;refine⟨b,off,F,ha,Nat.lt_of_lt_of_le hb hsz,hS b hs hb,fun j hj=>(World.frozen?_of_block (w:=w) (a:=⟨b,_,none⟩) (he b hs hb)).trans (hfr j hj),fun i n hn=>⟨hS n (hF i n hn).1 (hF i n hn).2.2,(hF i n hn).2.1,Nat.lt_of_lt_of_le (hF i n hn).2.2 hsz⟩,hdis,fun i x hx=>?_⟩;obtain⟨cs,hl,hcs,hEx⟩:=hc i x hx;exact⟨cs,hl,fun j u hu=>(World.cell?_of_block (w:=w) (a:=⟨b,_,none⟩) (he b hs hb)).trans (hcs j u hu),k.imp hEx (fun _ h _=>h) (fun n hn hlt=>he n (hF i n hn).1 hlt) hsz⟩
theorem jad.ext (h:jad k S w v xs) (he:Ext w w'):jad k S w' v xs:=h.imp (fun _ h _=>h) (.of_ext he) he.size
theorem jad.sub (h:jad k S w v xs) (hS:∀ b,S b→S' b):jad k S' w v xs:=h.imp (fun b hb _=>hS b hb) (.refl _ _) (Nat.le_refl _)
theorem jad.form (h:jad k S w v xs):∃ A c,v=.slice A xs.length c∧xs.length≤c∧c≤9223372036854775807:=by
 obtain⟨A,c,hv,h1,h2,_⟩:=h;exact⟨A,c,hv,h1,h2⟩
theorem jad.read {E':(Nat→Prop)→World→List Value→α→Prop} (h:jad k S w v xs) (hE:∀ T l x,k.E T w l x→(∀ b,T b→S b)→E' S w l x):jaa S k.size (E' S) w v xs:=by
 obtain⟨A,c,hv,h1,h2,h3⟩:=h;refine⟨A,c,hv,h1,h2,fun h0=>?_⟩;obtain⟨b,off,F,ha,hb,hs,_,hF,_,hc⟩:=h3 h0;refine⟨b,off,ha,hb,hs,fun i x hx=>?_⟩;obtain⟨cs,hl,hcs,hEx⟩:=hc i x hx;exact⟨cs,hl,hcs,hE _ _ _ hEx (fun n hn=>(hF i n hn).1)⟩
end
section
variable {α:Type} {k:Kind α} {S S' T:Nat→Prop} {w w':World} {v:Value} {xs ys:List α} {base:Nat} {e:TypeId}
end
/-! ### The kinds -/
def ja8 (S:Nat→Prop):World→Value→List GT→Prop:=jad kTerm S
def jt6 (S:Nat→Prop) (w:World) (cs:List Value) (a:GA):Prop:=∃ v,cs=[.string a.n,v]∧a.n.size≤maxLen∧ja8 S w v a.args
theorem ja8.imp {S S':Nat→Prop} {w w':World} {v:Value} {xs:List GT} (h:ja8 S w v xs) (hS:∀ b,S b→b<w.heap.size→S' b) (he:Agree S w w') (hsz:w.heap.size≤w'.heap.size):ja8 S' w' v xs:=jad.imp h hS he hsz
theorem ja8.read {S:Nat→Prop} {w:World} {v:Value} {xs:List GT} (h:ja8 S w v xs):jae S w v xs:=jad.read (E':=fun _=>TermE) h (fun _ _ _ h _=>h)
def jt7:Kind GA:=⟨2,jt6,by decide,fun h hS he hsz=>by obtain⟨v,h1,h2,h3⟩:=h;exact⟨v,h1,h2,h3.imp hS he hsz⟩,
 fun {_ _ l x} h=>by
  obtain⟨v,rfl,_,ht⟩:=h;obtain⟨A,c,rfl,_⟩:=jad.form ht;intro u hu;simp at hu;rcases hu with rfl|rfl<;>rfl,fun h=>by obtain⟨v,rfl,_⟩:=h;rfl⟩
def jba (S:Nat→Prop):World→Value→List GA→Prop:=jad jt7 S
theorem jt6.read {S T:Nat→Prop} {w:World} {l:List Value} {a:GA} (h:jt6 T w l a) (hS:∀ b,T b→S b):AtomE S w l a:=by
 obtain⟨v,h1,h2,h3⟩:=h;exact⟨v,h1,h2,jae.sub h3.read hS⟩
theorem jba.read {S:Nat→Prop} {w:World} {v:Value} {xs:List GA} (h:jba S w v xs):jac S w v xs:=jad.read (k:=jt7) (E':=AtomE) h (fun _ _ _ h hS=>jt6.read h hS)
end Go.Proofs.YthdojieomhighaaGreatDoor
namespace Go.Proofs.YthdojieomhighaaGreatDoor
open Go.RowKit
section
variable {α:Type} {k:Kind α} {S S' T:Nat→Prop} {w w':World} {v u:Value} {xs:List α}
theorem jad.one {v:Value} {xs:List α} (h:jad k S w v xs):v.oneCell'=true:=by obtain⟨A,c,rfl,_⟩:=h.form;rfl
theorem ListK.one {v:Value} {xs:List α} (h:ListK k S w v xs):v.oneCell'=true:=by obtain⟨A,c,rfl,_⟩:=jaa.form h;rfl
end
theorem jac.impL {S S':Nat→Prop} {w w':World} {v:Value} {xs:List GA} (h:jac S w v xs) (hS:∀ b,S b→b<w.heap.size→S' b) (he:Agree S w w') (hsz:w.heap.size≤w'.heap.size):jac S' w' v xs:=ListK.imp (k:=kAtom) h hS he hsz
def kPart:Kind GP:=⟨3,PartE,by decide,fun h hS he hsz=>by obtain⟨v,h1,h2,h3⟩:=h;exact⟨v,h1,h2,h3.impL hS he hsz⟩,
 fun {_ _ l x} h=>by obtain⟨v,rfl,_,ht⟩:=h;intro u hu;simp at hu;rcases hu with rfl|rfl|rfl<;>first|rfl|exact ListK.one (k:=kTerm) ht,fun h=>by obtain⟨v,rfl,_⟩:=h;rfl⟩
theorem jao.impL {S S':Nat→Prop} {w w':World} {v:Value} {xs:List GP} (h:jao S w v xs) (hS:∀ b,S b→b<w.heap.size→S' b) (he:Agree S w w') (hsz:w.heap.size≤w'.heap.size):jao S' w' v xs:=ListK.imp (k:=kPart) h hS he hsz
def kRule:Kind GR:=⟨3,RuleE,by decide,fun h hS he hsz=>by obtain⟨v,u,h1,h2,h3,h4⟩:=h;exact⟨v,u,h1,h2,h3.impL hS he hsz,h4.impL hS he hsz⟩,
 fun {_ _ l x} h=>by obtain⟨v,u,rfl,_,ht,hp⟩:=h;intro y hy;simp at hy;rcases hy with rfl|rfl|rfl<;>first|rfl|exact ListK.one (k:=kTerm) ht|exact ListK.one (k:=kPart) hp,fun h=>by obtain⟨v,u,rfl,_⟩:=h;rfl⟩
def jha:Kind GC:=⟨2,jof,by decide,fun h hS he hsz=>by obtain⟨v,u,h1,h2,h3⟩:=h;exact⟨v,u,h1,h2.impL hS he hsz,h3.impL hS he hsz⟩,
 fun {_ _ l x} h=>by obtain⟨v,u,rfl,ht,hp⟩:=h;intro y hy;simp at hy;rcases hy with rfl|rfl<;>first|exact ListK.one (k:=kAtom) ht|exact ListK.one (k:=kAtom) hp,fun h=>by obtain⟨v,u,rfl,_⟩:=h;rfl⟩
def jan (S:Nat→Prop):World→Value→List GC→Prop:=jaa S 2 (jof S)
theorem jan.impL {S S':Nat→Prop} {w w':World} {v:Value} {xs:List GC} (h:jan S w v xs) (hS:∀ b,S b→b<w.heap.size→S' b) (he:Agree S w w') (hsz:w.heap.size≤w'.heap.size):jan S' w' v xs:=ListK.imp (k:=jha) h hS he hsz
theorem jan.ext {S:Nat→Prop} {w w':World} {v:Value} {xs:List GC} (h:jan S w v xs) (he:Ext w w'):jan S w' v xs:=h.impL (fun _ h _=>h) (.of_ext he) he.size
theorem jan.sub {S S':Nat→Prop} {w:World} {v:Value} {xs:List GC} (h:jan S w v xs) (hS:∀ b,S b→S' b):jan S' w v xs:=h.impL (fun b hb _=>hS b hb) (.refl _ _) (Nat.le_refl _)
theorem jan.at_ {S:Nat→Prop} {w:World} {A:Option Addr} {n c:Nat} {xs:List GC} (h:jan S w (.slice A n c) xs) {k:Nat} (hk:k<n) :
  ∃ (b off:Nat) (x:GC) (v u:Value),A=some ⟨b,off,none⟩∧b<w.heap.size∧xs[k]? = some x∧jac S w v x.comes∧jac S w u x.goes ∧
    w.cell? ⟨b,off+k*2,none⟩=some v∧w.cell? ⟨b,off+k*2+1,none⟩=some u:=by
 obtain⟨b,off,x,cs,hA,hb,hx,_,hc,v,u,rfl,ht,hp⟩:=jaa.at_ h hk;exact⟨b,off,x,v,u,hA,hb,hx,ht,hp,hc 0 _ rfl,hc 1 _ rfl⟩
/-! ### Owned whole -/
def jt8 (S:Nat→Prop) (w:World) (cs:List Value) (p:GP):Prop:=∃ v,cs=[.bool p.no,.string p.atom.n,v]∧p.atom.n.size≤maxLen∧ja8 S w v p.atom.args
def jw5:Kind GP:=⟨3,jt8,by decide,fun h hS he hsz=>by obtain⟨v,h1,h2,h3⟩:=h;exact⟨v,h1,h2,h3.imp hS he hsz⟩,
 fun {_ _ l x} h=>by obtain⟨v,rfl,_,ht⟩:=h;intro u hu;simp at hu;rcases hu with rfl|rfl|rfl<;>first|rfl|exact jad.one ht,fun h=>by obtain⟨v,rfl,_⟩:=h;rfl⟩
def jci (S:Nat→Prop):World→Value→List GP→Prop:=jad jw5 S
theorem jt8.read {S T:Nat→Prop} {w:World} {l:List Value} {a:GP} (h:jt8 T w l a) (hS:∀ b,T b→S b):PartE S w l a:=by
 obtain⟨v,h1,h2,h3⟩:=h;exact⟨v,h1,h2,jae.sub h3.read hS⟩
theorem jci.read {S:Nat→Prop} {w:World} {v:Value} {xs:List GP} (h:jci S w v xs):jao S w v xs:=jad.read (k:=jw5) (E':=PartE) h (fun _ _ _ h hS=>jt8.read h hS)
def jd2 (S:Nat→Prop) (w:World) (cs:List Value) (r:GR):Prop:=∃ (v u:Value) (S1 S2:Nat→Prop),cs=[.string r.head.n,v,u]∧r.head.n.size≤maxLen∧ja8 S1 w v r.head.args∧jci S2 w u r.body∧(∀ b,S1 b→S b)∧(∀ b,S2 b→S b)∧∀ b,S1 b→¬ S2 b
theorem jd2.imp {S S':Nat→Prop} {w w':World} {cs:List Value} {x:GR} (h:jd2 S w cs x) (hS:∀ b,S b→b<w.heap.size→S' b) (he:Agree S w w') (hsz:w.heap.size≤w'.heap.size):jd2 S' w' cs x:=by
 obtain⟨v,u,S1,S2,h1,h2,h3,h4,h5,h6,h7⟩:=h
 exact ⟨v,u,fun b=>S1 b∧b<w.heap.size,fun b=>S2 b∧b<w.heap.size,h1,h2,jad.imp h3 (fun b hb hlt=>⟨hb,hlt⟩) (fun b hb hlt=>he b (h5 b hb) hlt) hsz,
  jad.imp h4 (fun b hb hlt=>⟨hb,hlt⟩) (fun b hb hlt=>he b (h6 b hb) hlt) hsz,fun b hb=>hS b (h5 b hb.1) hb.2,fun b hb=>hS b (h6 b hb.1) hb.2,fun b hb hc=>h7 b hb.1 hc.1⟩
def jw6:Kind GR:=⟨3,jd2,by decide,jd2.imp,
 fun {_ _ l x} h=>by obtain⟨v,u,_,_,rfl,_,ht,hp,_⟩:=h;intro y hy;simp at hy;rcases hy with rfl|rfl|rfl<;>first|rfl|exact jad.one ht|exact jad.one hp,fun h=>by obtain⟨v,u,_,_,rfl,_⟩:=h;rfl⟩
def jc7 (S:Nat→Prop):World→Value→List GR→Prop:=jad jw6 S
theorem jd2.read {S T:Nat→Prop} {w:World} {l:List Value} {a:GR} (h:jd2 T w l a) (hS:∀ b,T b→S b):RuleE S w l a:=by
 obtain⟨v,u,S1,S2,h1,h2,h3,h4,h5,h6,h7⟩:=h;exact⟨v,u,h1,h2,jae.sub h3.read (fun b hb=>hS b (h5 b hb)),jao.sub h4.read (fun b hb=>hS b (h6 b hb))⟩
theorem jc7.read {S:Nat→Prop} {w:World} {v:Value} {xs:List GR} (h:jc7 S w v xs):jal S w v xs:=jad.read (k:=jw6) (E':=RuleE) h (fun _ _ _ h hS=>jd2.read h hS)
def jbv (S:Nat→Prop) (w:World) (cs:List Value) (c:GC):Prop:=∃ (v u:Value) (S1 S2:Nat→Prop),cs=[v,u]∧jba S1 w v c.comes∧jba S2 w u c.goes∧(∀ b,S1 b→S b)∧(∀ b,S2 b→S b)∧∀ b,S1 b→¬ S2 b
theorem jbv.imp {S S':Nat→Prop} {w w':World} {cs:List Value} {x:GC} (h:jbv S w cs x) (hS:∀ b,S b→b<w.heap.size→S' b) (he:Agree S w w') (hsz:w.heap.size≤w'.heap.size):jbv S' w' cs x:=by
 obtain⟨v,u,S1,S2,h1,h3,h4,h5,h6,h7⟩:=h
 exact ⟨v,u,fun b=>S1 b∧b<w.heap.size,fun b=>S2 b∧b<w.heap.size,h1,jad.imp h3 (fun b hb hlt=>⟨hb,hlt⟩) (fun b hb hlt=>he b (h5 b hb) hlt) hsz,
  jad.imp h4 (fun b hb hlt=>⟨hb,hlt⟩) (fun b hb hlt=>he b (h6 b hb) hlt) hsz,fun b hb=>hS b (h5 b hb.1) hb.2,fun b hb=>hS b (h6 b hb.1) hb.2,fun b hb hc=>h7 b hb.1 hc.1⟩
def joh:Kind GC:=⟨2,jbv,by decide,jbv.imp,
 fun {_ _ l x} h=>by obtain⟨v,u,_,_,rfl,ht,hp,_⟩:=h;intro y hy;simp at hy;rcases hy with rfl|rfl<;>first|exact jad.one ht|exact jad.one hp,fun h=>by obtain⟨v,u,_,_,rfl,_⟩:=h;rfl⟩
def jby (S:Nat→Prop):World→Value→List GC→Prop:=jad joh S
theorem jbv.read {S T:Nat→Prop} {w:World} {l:List Value} {a:GC} (h:jbv T w l a) (hS:∀ b,T b→S b):jof S w l a:=by
 obtain⟨v,u,S1,S2,h1,h3,h4,h5,h6,h7⟩:=h;exact⟨v,u,h1,jac.sub h3.read (fun b hb=>hS b (h5 b hb)),jac.sub h4.read (fun b hb=>hS b (h6 b hb))⟩
theorem jby.read {S:Nat→Prop} {w:World} {v:Value} {xs:List GC} (h:jby S w v xs):jan S w v xs:=jad.read (k:=joh) (E':=jof) h (fun _ _ _ h hS=>jbv.read h hS)
end Go.Proofs.YthdojieomhighaaGreatDoor
namespace Go.Proofs.YthdojieomhighaaGreatDoor
open Go.RowKit Go.Shelf
attribute [local go_sem] Oper.semAt_some
structure BE where
 i:Nat
 x:GC
 A:Option Addr
 an:Nat
 ac:Nat
 B:Option Addr
 bn:Nat
 bc:Nat
def encBE (e:BE):Array Value:= #[.int .i64 (e.i:Int),.agg #[.slice e.A e.an e.ac,.slice e.B e.bn e.bc]]
def BackE (R:Nat→Prop) (w:World) (gs:List GC) (pre:List BE) (e:BE):Prop :=
 e.i+1+pre.length=gs.length∧gs[e.i]? = some e.x∧jac R w (.slice e.A e.an e.ac) e.x.comes∧jac R w (.slice e.B e.bn e.bc) e.x.goes
theorem jan.atS {S:Nat→Prop} {w:World} {A:Option Addr} {n c:Nat} {xs:List GC} (h:jan S w (.slice A n c) xs) {k:Nat} (hk:k<n) :
  ∃ (b off:Nat) (x:GC) (v u:Value),A=some ⟨b,off,none⟩∧b<w.heap.size∧S b∧xs[k]? = some x∧jac S w v x.comes∧jac S w u x.goes ∧
    w.cell? ⟨b,off+k*2,none⟩=some v∧w.cell? ⟨b,off+k*2+1,none⟩=some u:=by
 obtain⟨A',c',hv,h1,h2,h3⟩:=h;injection hv with hA hn hc
 subst hA;subst hn;obtain⟨b,off,ha,hb,hs,hcell⟩:=h3 (by omega);obtain⟨cs,hl,hcs,v,u,rfl,hE1,hE2⟩:=hcell k xs[k] (List.getElem?_eq_getElem hk);exact⟨b,off,xs[k],v,u,ha,hb,hs,List.getElem?_eq_getElem hk,hE1,hE2,hcs 0 _ rfl,hcs 1 _ rfl⟩
theorem jp4 (v:Value) (w:World) (A:Option Addr) (n c:Nat) (hv:v=.slice A n c) :
  Calls Tryz.prog 47 #[v] w fun e w' =>
   e=.returned (.func (.func 107) #[] #[.pointer (some ⟨w.heap.size,0,none⟩)])∧w'=w.alloc (.cells #[v] 31):=by
 subst hv
 go_enter Tryz.func47,Tryz.ntmps47;go_wp2;go_ret;exact⟨rfl,rfl⟩
theorem jlf (n:Nat) (hn:1≤n) (pb:Nat) (R:Nat→Prop) (w:World) (A:Option Addr) (c:Nat) (gs:List GC) (hB:R pb) (c0:w.cell? ⟨pb,0,none⟩=some (.slice A gs.length c)) (h1:jan R w (.slice A gs.length c) gs) :
  jpr Fence.wide n Tryz.prog 107 #[.pointer (some ⟨pb,0,none⟩)] encBE (fun A B=>Ext A B) (BackE R w gs) (KeepR R) (fun L=>L.length=gs.length) (fun _=>True) w:=by
 intro l J Jx W hW hJ hY h0
 have hgl:gs.length≤9223372036854775807:=by
  obtain⟨A',c',hv,k1,k2,_⟩:=id h1;unfold maxLen at k2;omega
 have hww:wrap64 ((gs.length:Int)-1)=(gs.length:Int)-1:=IntWalk.wrap64_in _ (by omega);have hw0:KeepR R w W:=.of_ext hW;have HY:=zh hY;have HJ:=zh hJ;have H1:=zh h1;have HB:=zh hB;have C0:=zh c0;have e0:=hw0.cell hB c0;have hl0:=jcm e0;clear hY hJ h1 c0 hW hB;refine callsIn_of_wp Tryz.func107 rfl trivial ?_ rfl;simp only[Tryz.ntmps107,List.size_toArray,List.length_cons,List.length_nil,Nat.reduceAdd,Nat.reduceSub,Array.replicate_succ,Array.replicate_zero,List.push_toArray,List.append_toArray,List.nil_append,List.cons_append]
 gi_wp2
 gi_loopw [3] (fun i wr=>∃ pre:List BE,pre.length≤gs.length∧i=.int .i64 ((gs.length:Int)-1-pre.length)∧J pre wr∧KeepR R w wr) (fun i _=>(intOf i+1).toNat)
 case atStart=>exact⟨[],Nat.zero_le _,by simp,h0,hw0⟩
 case round =>
  obtain⟨pre,hp,rfl,hJs,hk⟩:=hrel;have e10:=hk.cell HB.out C0.out;have hl1:=jcm e10;by_cases hlt:pre.length<gs.length
  · obtain ⟨k,hk1⟩:∃ k,k+1+pre.length=gs.length:=⟨gs.length-1-pre.length,by omega⟩
    have hkl:k<gs.length:=by omega
    have hki:(gs.length:Int)-1-pre.length=(k:Int):=by omega
    have hk0:(0:Int)≤(k:Int):=by omega
    have hk2:(k:Int)<(gs.length:Int):=by omega
    obtain⟨b,off,x,v,u,rfl,hb,hRb,hxk,hv,hu,hp0,hp1⟩:=jan.atS H1.out hkl;obtain⟨VA,va,rfl,_,_⟩:=jaa.form hv;obtain⟨UA,ua,rfl,_,_⟩:=jaa.form hu;have q0:=hk.cell hRb hp0;have q1:=hk.cell hRb hp1;have hb':=jcm q0;obtain⟨fn,tmps,assign,body,hy,hR⟩:=HY.out pre (⟨k,x,VA,x.comes.length,va,UA,x.goes.length,ua⟩:BE) wr wr hJs (Ext.refl _) ⟨hk1,hxk,hv,hu⟩;dsimp only[encBE] at hy;have HR:=zh hR;clear hR hv hu hxk hp0 hp1;rw[hki];have hwk:wrap64 ((k:Int)-1)=(k:Int)-1:=IntWalk.wrap64_in _ (by omega)
    gi_wp2
    refine HR.out.mono ?_;rintro e W3 (⟨rfl,hJ3,hk3⟩|⟨rfl,hJx3⟩)
    · gi_wp2
      go_roundw
      case rel=>exact⟨pre++[_],by simp;omega,by simp only[List.length_append,List.length_cons,List.length_nil];go_num,hJ3,hk.trans hk3⟩
      case measure=>first|(simp[intOf];done)|(simp[intOf];omega)
    gi_wp2
    refine bodyPost_ret (results_none rfl _ _ _) rfl ?_;exact⟨⟨_,rfl⟩,.inr ⟨pre++[_],trivial,hJx3⟩⟩
  have hpl:pre.length=gs.length:=by omega
  have hki:(gs.length:Int)-1-pre.length = -1:=by omega
  rw[hki]
  gi_wp2
  go_end0
  exact⟨⟨_,rfl⟩,.inl ⟨pre,hpl,hJs⟩⟩
theorem jh1 (A B:Option Addr) (n c m d:Nat) (w:World) :
  Calls Tryz.prog 109 #[.agg #[.slice A n c,.func (.func 133) #[] #[]],.agg #[.slice B m d,.func (.func 133) #[] #[]]] w fun e w' =>
   e=.returned (.func (.func 162) #[] #[.pointer (some ⟨w.heap.size,0,none⟩),.pointer (some ⟨w.heap.size+1,0,none⟩)]) ∧
   w'=(w.alloc (.cells #[.slice A n c,.func (.func 133) #[] #[]] 152)).alloc (.cells #[.slice B m d,.func (.func 133) #[] #[]] 152):=by
 go_enter Tryz.func109,Tryz.ntmps109;go_wp2;go_ret;exact⟨rfl,rfl⟩
theorem jae.low {S:Nat→Prop} {w:World} {v:Value} {xs:List GT} (h:jae S w v xs):jae (fun b=>b<w.heap.size) w v xs:=by
 obtain⟨A,c,hv,h1,h2,h3⟩:=h;exact⟨A,c,hv,h1,h2,fun h0=>let ⟨b,off,ha,hb,_,hc⟩:=h3 h0;⟨b,off,ha,hb,hb,hc⟩⟩
theorem jac.low {S:Nat→Prop} {w:World} {v:Value} {xs:List GA} (h:jac S w v xs):jac (fun b=>b<w.heap.size) w v xs:=by
 obtain⟨A,c,hv,h1,h2,h3⟩:=h;exact⟨A,c,hv,h1,h2,fun h0=>let ⟨b,off,ha,hb,_,hc⟩:=h3 h0;⟨b,off,ha,hb,hb,fun i x hx=>let ⟨cs,hl,hcs,u,e1,e2,e3⟩:=hc i x hx;⟨cs,hl,hcs,u,e1,e2,e3.low⟩⟩⟩
def jc8 (L:List ME):Bool:=L.all fun e=> !(e.s == 2)
theorem jp5 (v u:Value) (xs ys:List GA) (w:World) {S T:Nat→Prop} (hv:jac S w v xs) (hu:jac T w u ys) :
  ∃ ps qs:List P2,ps.map (·.1)=xs∧qs.map (·.1)=ys ∧
  Calls Tryz.prog 50 #[v,u] w fun e w'=>e=.returned (.bool (!jc8 (jah ps qs)))∧Ext w w':=by
 obtain⟨ps,hps,hp⟩:=hv.low.pairs;obtain⟨qs,hqs,hq⟩:=hu.low.pairs;refine⟨ps,qs,hps,hqs,?_⟩;clear hps hqs hv hu;obtain⟨A,c,rfl,hc1,hc2⟩:=jaa.form hp;obtain⟨B,d,rfl,hd1,hd2⟩:=jaa.form hq;have HP:=zh hp;have HQ:=zh hq;clear hp hq;refine (callsIn_wide (n:=5)).1 ?_;refine callsIn_of_wp_marks Tryz.func50 rfl trivial ?_ rfl;simp only[Tryz.ntmps50,List.size_toArray,List.length_cons,List.length_nil,Nat.reduceAdd,Nat.reduceSub,Array.replicate_succ,Array.replicate_zero,List.push_toArray,List.append_toArray,List.nil_append,List.cons_append];have tok:True:=trivial
 gi_wp2_with (first
  | (refine⟨trivial,?_⟩;gi_at_call 108;have _t:=tok;refine (callsIn_wide.2 (jcz _ _ _ _)).mono ?_;clear tok _t;rintro e w1 ⟨rfl,hx1⟩)
  | (refine⟨trivial,?_⟩;gi_at_call 108;refine (callsIn_wide.2 (jcz _ _ _ _)).mono ?_;rintro e w2 ⟨rfl,hx2⟩)
  | (refine⟨trivial,?_⟩;gi_at_call 109;refine (callsIn_wide.2 (jh1 _ _ _ _ _ _ _)).mono ?_;rintro e w3 ⟨rfl,rfl⟩))
 have hs1:=hx1.size;have hs2:=hx2.size;simp only[World.size_alloc] at hs1
 have hB0:Ext w ((w2.alloc (.cells #[.slice A ps.length c,.func (.func 133) #[] #[]] 152)).alloc (.cells #[.slice B qs.length d,.func (.func 133) #[] #[]] 152)) :=
  (((((Ext.refl w).alloc _).trans' hx1).trans' hx2).alloc _).alloc _
 have hB1:Ext (w.alloc (.cells #[.bool false] 4)) ((w2.alloc (.cells #[.slice A ps.length c,.func (.func 133) #[] #[]] 152)).alloc (.cells #[.slice B qs.length d,.func (.func 133) #[] #[]] 152)) :=
  ((hx1.trans' hx2).alloc _).alloc _
 have hr0:Blk (w.alloc (.cells #[.bool false] 4)) w.heap.size 4 #[.bool false]:=Blk.new _ _ _;have hr1:=hr0.ext hB1;have hb1:Blk ((w2.alloc (.cells #[.slice A ps.length c,.func (.func 133) #[] #[]] 152)).alloc (.cells #[.slice B qs.length d,.func (.func 133) #[] #[]] 152)) w2.heap.size 152 #[.slice A ps.length c,.func (.func 133) #[] #[]]:=(Blk.new _ _ _).alloc _
 have hb2:Blk ((w2.alloc (.cells #[.slice A ps.length c,.func (.func 133) #[] #[]] 152)).alloc (.cells #[.slice B qs.length d,.func (.func 133) #[] #[]] 152)) (w2.heap.size+1) 152 #[.slice B qs.length d,.func (.func 133) #[] #[]]:=by
  have:=Blk.new (w2.alloc (.cells #[.slice A ps.length c,.func (.func 133) #[] #[]] 152)) 152 #[.slice B qs.length d,.func (.func 133) #[] #[]]
  rwa [World.size_alloc] at this
 refine wpIn_rangeFunc_ownF (F:=Fence.wide) rfl (by omega) (gf:=162) (lb:= #[.pointer (some ⟨w2.heap.size,0,none⟩),.pointer (some ⟨w2.heap.size+1,0,none⟩)]) rfl trivial (enters_of Tryz.func162 (by kernel_rfl) rfl)
  (jj8 4 (by omega) w2.heap.size (w2.heap.size+1) (fun b=>b≠w.heap.size∧b<w2.heap.size+2) _ _ _ ps qs ⟨by omega,by omega⟩ ⟨by omega,by omega⟩
   (hb1.cell 0) (hb1.cell 1) (hb2.cell 0) (HP.out.imp (fun b hb=>⟨by omega,by omega⟩) (.of_ext hB0) hB0.size) (HQ.out.imp (fun b hb=>⟨by omega,by omega⟩) (.of_ext hB0) hB0.size))
  KeepR.trans (fun W l o o' hl ho _ _=>⟨by simp[World.putObj],fun b hb hlt=>(grownBy_putObj' W l o').block b hlt (fun e=>by injection e with e;simp only[World.size_alloc] at hl;omega)⟩) (Below.refl _ _) (fun _=>rfl)
  (fun pre W=>(jc8 pre=true∧W.cell? ⟨w.heap.size,0,none⟩=some (.bool false)∧W.frozen? ⟨w.heap.size,0,none⟩=false)∧Below w.heap.size w W)
  (fun c pre W=>(c=.ret∧jc8 pre=false∧W.cell? ⟨w.heap.size,0,none⟩=some (.bool true))∧Below w.heap.size w W)
  (OwnFrom.and (Own.from (fun s A B row hs hg hr=>⟨hs.1,cell_kept hs.2.1 hg hr,(frozen_kept hs.2.1 hg hr).trans hs.2.2⟩) _) (ownFrom_below (Nat.le_refl _) hB0.size))
  (fun c=>OwnFrom.and (Own.from (fun s A B row hs hg hr=>⟨hs.1,hs.2.1,cell_kept hs.2.2 hg hr⟩) _) (ownFrom_below (Nat.le_refl _) hB0.size))
  ⟨⟨rfl,hr1.cell 0,hr1.frozen 0⟩,hB0⟩
  (fun e=> { tmps:= #[.slice A ps.length c,.slice B qs.length d,undef,undef,.pointer (some ⟨w.heap.size,0,none⟩),undef,.int .i64 e.s,.slice A ps.length c,
   .agg #[.slice A ps.length c,.func (.func 133) #[] #[]],.slice B qs.length d,.agg #[.slice B qs.length d,.func (.func 133) #[] #[]],
   .func (.func 162) #[] #[.pointer (some ⟨w2.heap.size,0,none⟩),.pointer (some ⟨w2.heap.size+1,0,none⟩)],.agg #[.string e.x.n,e.v],.int .i64 e.s,undef,undef],defers:=[] }) ?assign ?body ?done ?stop
 case assign =>
  intro l x W K hK;simp only[encME]
  gi_wp2
  exact hK
 case body =>
  rintro l pre x W ⟨⟨hp,hcr,hfr⟩,hB⟩ _;have HX:=zh hp;clear hp;by_cases hs:x.s=2
  · have h1:((x.s:Int) == 2)=true:=by simp[hs]
    have HN:=zh (show jc8 (pre++[x])=false from by unfold jc8;rw[List.all_append];simp[hs]);clear hs
    gi_wp2
    exact⟨KeepsOthers.setCell _ _ _,⟨rfl,HN.out,World.cell?_setCell_same' _ _ _ (by rw[hcr];rfl)⟩,hB.setCell (p:=⟨w.heap.size,0,none⟩) (Nat.le_refl _) _⟩
  have h1:((x.s:Int) == 2)=false:=by simp[hs]
  have HN:=zh (show jc8 (pre++[x])=true from by have:=HX.out;unfold jc8 at this ⊢;rw[List.all_append,this];simp[hs]);clear hs
  gi_wp2
  exact⟨KeepsOthers.refl _,⟨Nat.le_refl _,.refl _ _⟩,⟨HN.out,hcr,hfr⟩,hB⟩
 case done =>
  rintro D L W hD rfl ⟨⟨hne,hcr,hfr⟩,hB⟩ hK;have HN:=zh hne;clear hne
  gi_wp2
  have hK':=(KeepsOthers.setCell W ⟨w.heap.size,0,none⟩ (.bool false)).same D _ hK rfl;refine⟨by simp,.inl ⟨_,_,rfl,run_takeDeferred hK',?_⟩⟩;have hc5:=cell_kept (World.cell?_setCell_same' W ⟨w.heap.size,0,none⟩ (.bool false) (by rw[hcr];rfl)) (grownBy_putObj' _ D (.deferred none)) (fun r e=>by cases e;exact⟨_,hK',rfl⟩);refine⟨.bool false,?_,by rw[HN.out];rfl,(hB.setCell (p:=⟨w.heap.size,0,none⟩) (Nat.le_refl _) _).trans (belowK_b (w:=w) (Nat.le_refl _) _ D _ _ (by simp only[World.size_alloc] at hD;omega) hK' rfl rfl)⟩;simp[results,Tryz.f50,go_sem,hc5]
 case stop =>
  rintro D c pre W hD hpre ⟨⟨rfl,hin,hcr⟩,hB⟩ hK
  have HN:=zh (show jc8 (jah ps qs)=false from by
   obtain⟨r,hr⟩:=hpre;rw[← hr];unfold jc8 at hin ⊢;rw[List.all_append,hin];rfl)
  clear hpre hin
  gi_wp2
  refine⟨by simp,.inl ⟨_,_,rfl,run_takeDeferred hK,?_⟩⟩;have hc5:=cell_kept hcr (grownBy_putObj' _ D (.deferred none)) (fun r e=>by cases e;exact⟨_,hK,rfl⟩);refine⟨.bool true,?_,by rw[HN.out];rfl,hB.trans (belowK_b (w:=w) (Nat.le_refl _) W D _ _ (by simp only[World.size_alloc] at hD;omega) hK rfl rfl)⟩;simp[results,Tryz.f50,go_sem,hc5]
end Go.Proofs.YthdojieomhighaaGreatDoor
