/- Own texts, joined. -/
import Derived.Deep.LoopGhost
import Derived.Deep.RegionLaw
import Derived.Test.YthiflhkcpanaaaaGreatDoorDas15
set_option linter.unusedSimpArgs false
set_option linter.unusedVariables false
set_option maxHeartbeats 1000000
set_option maxRecDepth 100000
namespace Go.Proofs.YthiflhkcpanaaaaGreatDoor
open Go.RowKit
def jb4 {α:Type} (k:Kind α) (g:Nat) (S:Nat->Prop) (w:World) (cs:Array Value) (xs:List α) (n:Nat):Prop :=
 ∃ F : Nat->Nat->Prop,(∀ i m,F i m->S m/\m≠g/\m<w.heap.size)/\(∀ i j m,F i m->F j m->i=j) /\
   ∀ (i:Nat) (x:α),i<n->xs[i]? = some x->∃ l:List Value,l.length=k.size/\(∀ (j:Nat) (u:Value),l[j]? = some u->cs[i*k.size+j]? = some u)/\k.E (F i) w l x
section
variable {α:Type} {k:Kind α} {g:Nat} {S S':Nat->Prop} {w w':World} {cs cs':Array Value} {xs:List α} {n:Nat}
theorem jb4.zero:jb4 k g S w cs xs 0:=⟨fun _ _=>False,fun _ _ h=>h.elim,fun _ _ _ h=>h.elim,fun _ _ h=>absurd h (by omega)⟩
theorem jb4.step (h:jb4 k g S w cs xs n) (hag:∀ m,m≠g->m<w.heap.size->w'.heap[m]? = w.heap[m]?) (hsz:w.heap.size<=w'.heap.size) (hg:g<w.heap.size) (hS:∀ m,w.heap.size<=m->S m)
  {x:α} (hk:xs[n]? = some x) {l:List Value} (hx:k.E (From w.heap.size) w' l x) (h1:∀ (j:Nat) (u:Value),l[j]? = some u->cs'[n*k.size+j]? = some u) (h2:∀ o,o<n*k.size->cs'[o]? = cs[o]?) :
  jb4 k g S w' cs' xs (n+1):=by
 obtain⟨F,k1,k2,k3⟩:=h;refine⟨fun i m=>(i<n/\F i m)∨(i=n/\w.heap.size<=m/\m<w'.heap.size),fun i m hm=>?_,fun i j m hi hj=>?_,fun i y hi hy=>?_⟩
 . rcases hm with ⟨_,hm⟩|⟨_,hm,hm2⟩
   . exact⟨(k1 i m hm).1,(k1 i m hm).2.1,Nat.lt_of_lt_of_le (k1 i m hm).2.2 hsz⟩
   exact⟨hS m hm,fun e=>by omega,hm2⟩
 . rcases hi with ⟨hi1,hi⟩|⟨hi1,hi2,_⟩<;>rcases hj with ⟨hj1,hj⟩|⟨hj1,hj2,_⟩
   . exact k2 i j m hi hj
   . have:=(k1 i m hi).2.2;omega
   . have:=(k1 j m hj).2.2;omega
   omega
 by_cases hin:i=n
 . subst hin
   rw[hk] at hy;injection hy with hy;subst hy
   exact⟨l,k.len hx,h1,k.imp hx (fun b hb hlt=>.inr ⟨rfl,hb,hlt⟩) (.refl _ _) (Nat.le_refl _)⟩
 obtain⟨l',m1,m2,m3⟩:=k3 i y (by omega) hy;refine⟨l',m1,fun j u hu=>?_,k.imp m3 (fun b hb _=>.inl ⟨by omega,hb⟩) (fun b hb hlt=>hag b (k1 i b hb).2.1 hlt) hsz⟩;have hj:j<k.size:=by rw[<- m1];exact (List.getElem?_eq_some_iff.1 hu).1
 rw [h2 _ (by
  have:(i+1)*k.size<=n*k.size:=Nat.mul_le_mul_right _ (by omega);rw[Nat.add_mul] at this;omega)]
 exact m2 j u hu
theorem jb4.slice (h:jb4 k g S w cs xs n) {t:TypeId} {c:Nat} (hb:Blk w g t cs) (hn:n=xs.length) (hc:n<=c) (hm:c<=maxLen) (hg:S' g) (hS:∀ m,S m->S' m):jae k S' w (.slice (some ⟨g,0,none⟩) n c) xs:=by
 subst hn;obtain⟨F,k1,k2,k3⟩:=h;refine⟨_,c,rfl,hc,hm,fun _=>⟨g,0,F,rfl,hb.lt,hg,fun j _=>hb.frozen _,fun i m hm=>⟨hS m (k1 i m hm).1,(k1 i m hm).2⟩,k2,fun i x hx=>?_⟩⟩;obtain⟨l,h1,h2,h3⟩:=k3 i x (List.getElem?_eq_some_iff.1 hx).1 hx;exact⟨l,h1,fun j u hu=>by rw[hb.cell,Nat.zero_add];exact h2 j u hu,h3⟩
end
theorem jf1.terms {g:Nat} {t:TypeId} {S:Nat->Prop} {w:World} {cs:Array Value} {xs:List GT} {n c:Nat} (h:jf1 2 TermE w cs xs n) (hb:Blk w g t cs) (hn:n=xs.length) (hc:n<=c) (hm:c<=maxLen) (hg:S g):jbt S w (.slice (some ⟨g,0,none⟩) n c) xs :=
 jb4.slice (k:=kTerm) (S:=fun _=>False) (n:=n) ⟨fun _ _=>False,fun _ _ h=>h.elim,fun _ _ _ h=>h.elim,fun i x hi hx=>h i x hi hx⟩ hb hn hc hm hg (fun _ h=>h.elim)
theorem jzq {cs:Array Value} {i:Nat} {a b d:Value} (hs:i*3+2<cs.size) (j:Nat) (u:Value) (hu: [a,b,d][j]? = some u):(((cs.setIfInBounds (i*3) a).setIfInBounds (i*3+1) b).setIfInBounds (i*3+2) d)[i*3+j]? = some u:=by
 match j,hu with
 | 0,hu=>simp at hu;subst hu;simp[show i*3<cs.size from by omega]
 | 1,hu=>simp at hu;subst hu;simp[show i*3+1<cs.size from by omega]
 | 2,hu=>simp at hu;subst hu;simp[hs]
theorem jvy {cs:Array Value} {i:Nat} {a b d:Value} (o:Nat) (ho:o<i*3):(((cs.setIfInBounds (i*3) a).setIfInBounds (i*3+1) b).setIfInBounds (i*3+2) d)[o]? = cs[o]? :=by
 rw[Array.getElem?_setIfInBounds_ne (by omega),Array.getElem?_setIfInBounds_ne (by omega),Array.getElem?_setIfInBounds_ne (by omega)]
theorem jt8 {cs:Array Value} {i:Nat} {a b:Value} (hs:i*2+1<cs.size) (j:Nat) (u:Value) (hu: [a,b][j]? = some u):((cs.setIfInBounds (i*2) a).setIfInBounds (i*2+1) b)[i*2+j]? = some u:=by
 match j,hu with
 | 0,hu=>simp at hu;subst hu;simp[show i*2<cs.size from by omega]
 | 1,hu=>simp at hu;subst hu;simp[hs]
theorem jp1 {cs:Array Value} {i:Nat} {a b:Value} (o:Nat) (ho:o<i*2):((cs.setIfInBounds (i*2) a).setIfInBounds (i*2+1) b)[o]? = cs[o]? :=by
 rw[Array.getElem?_setIfInBounds_ne (by omega),Array.getElem?_setIfInBounds_ne (by omega)]
abbrev Mid (a b:Nat):Nat->Prop:=fun m=>a<=m/\m<b
theorem Agree.mid {a b:Nat} {w w':World} (h:Agree (From a) w w'):Agree (Mid a b) w w':=fun i hb hlt=>h i hb.1 hlt
theorem jbt.mid {a a':Nat} {w:World} {v:Value} {xs:List GT} (h:jbt (From a) w v xs) (ha:a'<=a):jbt (Mid a' w.heap.size) w v xs:=jae.imp h (fun b hb hlt=>⟨Nat.le_trans ha hb,hlt⟩) (.refl _ _) (Nat.le_refl _)
theorem jdn.imp {S S':Nat->Prop} {w w':World} {v:Value} {xs:List GP} (h:jdn S w v xs) (hS:∀ b,S b->b<w.heap.size->S' b) (he:Agree S w w') (hsz:w.heap.size<=w'.heap.size):jdn S' w' v xs:=jae.imp h hS he hsz
theorem jc8 {w:World} {p:Addr} {u:Value} {m:Nat} (h:m≠p.block):(w.setCell p u).heap[m]? = w.heap[m]? :=Below.heap_setCell w p u m h
theorem jt9 (v:Value) (xs:List GT) (w:World) {S:Nat->Prop} (hv:jad S w v xs) (hw:jbz xs<=1048576) :
  Calls Tryz.prog 95 #[v] w fun e w'=>(∃ u,e=.returned u/\jbt (From w.heap.size) w' u xs)/\Ext w w':=by
 obtain⟨A,c,rfl,hc1,hc2⟩:=jaa.form hv;have hn:xs.length<=1048576:=by unfold jbz at hw;omega
 clear hw;obtain⟨i0,hi0,hz0,hz1,hz2⟩:=info_parts jgd;obtain⟨cs0,hcs0,hmk⟩:=made 67 157 i0 _ Tryz.underlying67 hi0 hz0 xs.length (by rw[hz2];omega) (by omega);rw[hz1] at hcs0;have HC:=zh hcs0;have HV:=zh hv;have HN:=zh hn;clear hcs0 hi0 hz0 hz1 hz2 hv hn
 go_in;go_wp2;go_loopw [4] (fun i wr=>∃ (k:Nat) (cs:Array Value),k<=xs.length/\i=.int .i64 k/\cs.size=xs.length*2/\Blk wr w.heap.size 157 cs/\jf1 2 TermE wr cs xs k/\Ext w wr) (fun i _=>xs.length-(intOf i).toNat)
 case atStart=>exact⟨0,cs0,Nat.zero_le _,rfl,HC.o,Blk.new _ _ _,jf1.zero _ _ _ _ _,(Ext.refl _).alloc _⟩
 case round =>
  obtain⟨k,cs,hk,rfl,hcs,hb,hf,hx⟩:=hrel;by_cases hlt:k<xs.length
  . obtain ⟨b,off,x,rfl,hb0,hxk,hxs,hc0,hc1⟩:=jad.at_ (HV.o.ext hx) hlt
    have HK:=zh hxk;have HS:=zh hcs;have HF:=zh hf;have HB:=zh hb;have hg:=hb.lt;clear hxk hcs hf hb hmk;go_wp2_with (go_at_call 149;refine (jwd x _).mono ?_;rintro e w1 ⟨rfl,hx1⟩;obtain⟨⟨u0,hr0⟩,hf0⟩:=(HB.o.ext hx1).ready (i:=k*2) (by have:=HS.o;omega);obtain⟨⟨u1,hr1⟩,hf1⟩:=(HB.o.ext hx1).ready (i:=k*2+1) (by have:=HS.o;omega))
    go_roundw
    case rel =>
     have hb1:=HB.o.ext hx1;refine⟨k+1,_,by omega,by go_num,?_,((hb1.set_ _ _).set_ _ _),HF.o.two (fun l y h=>h) HK.o (by have:=HS.o;omega) ⟨rfl,hxs⟩,(Below.setCell (Below.setCell (hx.t hx1) (Nat.le_refl _) _) (Nat.le_refl _) _)⟩;simp[HS.o]
    case measure=>simp[intOf];omega
  have hkk:k=xs.length:=by omega
  go_wp2;go_ret;exact⟨⟨_,rfl,jf1.terms (hkk▸hf) hb rfl (Nat.le_refl _) (by unfold maxLen;omega) (Nat.le_refl _)⟩,hx⟩
theorem jj3 (a:GA) (v:Value) (w:World) {S:Nat->Prop} (hv:jad S w v a.args) (hn:jbz a.args<=1048576) :
  Calls Tryz.prog 34 #[.agg #[.string a.n,v]] w fun e w'=>(∃ u,e=.returned (.agg #[.string a.n,u])/\jbt (From w.heap.size) w' u a.args)/\Ext w w':=by
 obtain⟨A,c,rfl,hc1,hc2⟩:=jaa.form hv;have HV:=zh hv;have HN:=zh hn;clear hv hn
 go_in;go_wp2_with (go_at_call 95;refine (jt9 _ a.args _ (HV.o.ext ((((Ext.refl _).alloc _).alloc _).alloc _)) HN.o).mono ?_;rintro e w1 ⟨⟨u,rfl,hu⟩,hx1⟩;obtain⟨hcc,hcf⟩:=hx1.cells;obtain⟨B,d,rfl,hd1,hd2⟩:=jae.form hu)
 refine bodyPost_ret (v:=.agg #[.string a.n,.slice B a.args.length d]) (by simp[results,Tryz.results34,go_sem,hcc]) rfl ⟨⟨_,rfl,?_⟩,?_⟩
 . exact hu.imp (fun b hb _=>jdd (by go_size) b hb) ((((Agree.refl _ _).set (by go_size) _).set (by go_size) _).set (by go_size) _) (by go_size)
 exact (((((((Ext.refl _).alloc _).alloc _).alloc _).t hx1).setNew (by go_size) _).setNew (by go_size) _).setNew (by go_size) _
theorem jee (w:World) (p:Addr) (u:Value):(w.setCell p u).heap.size=w.heap.size:=by simp[World.setCell]
theorem jea.forms {S:Nat->Prop} {w:World} {n:ByteArray} {v u:Value} {r:GR} (h:jea S w [.string n,v,u] r) :
  (∃ A c,v=.slice A r.head.args.length c/\r.head.args.length<=c/\c<=9223372036854775807)/\(∃ A c,u=.slice A r.body.length c/\r.body.length<=c/\c<=9223372036854775807):=by
 obtain⟨v3,u3,S1,S2,heq,_,hv2,hu2,_⟩:=h;injection heq with _ heq
 injection heq with heq1 heq
 injection heq with heq2 _
 subst heq1 heq2;exact⟨jae.form hv2,jae.form hu2⟩
theorem jea.made {a b:Nat} {w1 w1' w2 w3:World} {v u:Value} {r:GR} (hn:r.head.n.size<=maxLen) (hv:jbt (From a) w1 v r.head.args) (h1:Agree (From a) w1 w1') (hs1:w1.heap.size<=w1'.heap.size)
  (hx:Ext w1' w2) (hu:jdn (From w1'.heap.size) w2 u r.body) (h2:Agree (From a) w2 w3) (hs2:w2.heap.size<=w3.heap.size) (ha:a<=w1.heap.size) (hb:b<=a):jea (From b) w3 [.string r.head.n,v,u] r :=
 ⟨v,u,Mid a w1.heap.size,From w1'.heap.size,rfl,hn,jbt.imp (jae.ext (jbt.imp (jbt.mid hv (Nat.le_refl _)) (fun _ h _=>h) (Agree.mid h1) hs1) hx) (fun _ h _=>h) (Agree.mid h2) hs2,
  jdn.imp hu (fun _ h _=>h) (fun i hi hlt=>h2 i (Nat.le_trans (Nat.le_trans ha hs1) hi) hlt) hs2,fun i hi=>Nat.le_trans hb hi.1,fun i hi=>Nat.le_trans hb (Nat.le_trans (Nat.le_trans ha hs1) hi),fun i hi hi2=>Nat.lt_irrefl _ (Nat.lt_of_lt_of_le (Nat.lt_of_lt_of_le hi.2 hs1) hi2)⟩
theorem jzr:(Tryz.prog.info? 137).map (fun i=>(i.zero,i.size,i.bytes))=some (some (.agg #[.bool false,.string ByteArray.empty,.slice none 0 0]),3,48):=by kernel_rfl
theorem jzs:(Tryz.prog.info? 178).map (fun i=>(i.zero,i.size,i.bytes))=some (some (.agg #[.string ByteArray.empty,.slice none 0 0,.slice none 0 0]),3,64):=by kernel_rfl
theorem jxa (p:GP) (v:Value) (w:World) {S:Nat->Prop} (hv:jad S w v p.atom.args) (hn:jbz p.atom.args<=1048576) :
  Calls Tryz.prog 106 #[.agg #[.bool p.no,.string p.atom.n,v]] w fun e w'=>(∃ u,e=.returned (.agg #[.bool p.no,.string p.atom.n,u])/\jbt (From w.heap.size) w' u p.atom.args)/\Ext w w':=by
 obtain⟨A,c,rfl,hc1,hc2⟩:=jaa.form hv;have HV:=zh hv;have HN:=zh hn;clear hv hn
 go_in;go_wp2_with (go_at_call 34;refine (jj3 p.atom _ _ (HV.o.ext ((((Ext.refl _).alloc _).alloc _).alloc _)) HN.o).mono ?_;rintro e w1 ⟨⟨u,rfl,hu⟩,hx1⟩;obtain⟨hcc,hcf⟩:=hx1.cells;obtain⟨B,d,rfl,hd1,hd2⟩:=jae.form hu)
 refine bodyPost_ret (v:=.agg #[.bool p.no,.string p.atom.n,.slice B p.atom.args.length d]) (by simp[results,Tryz.results106,go_sem,hcc]) rfl ⟨⟨_,rfl,?_⟩,?_⟩
 . exact hu.imp (fun b hb _=>jdd (by go_size) b hb) ((((((Agree.refl _ _).set (by go_size) _).set (by go_size) _).set (by go_size) _).set (by go_size) _).set (by go_size) _) (by go_size)
 exact (((((((((Ext.refl _).alloc _).alloc _).alloc _).t hx1).setNew (by go_size) _).setNew (by go_size) _).setNew (by go_size) _).setNew (by go_size) _).setNew (by go_size) _
theorem jua (v:Value) (xs:List GP) (w:World) {S:Nat->Prop} (hv:jao S w v xs) (hw:jdl xs<=1048576) :
  Calls Tryz.prog 43 #[v] w fun e w'=>(∃ u,e=.returned u/\jdn (From w.heap.size) w' u xs)/\Ext w w':=by
 obtain⟨A,c,rfl,hc1,hc2⟩:=jaa.form hv;have hn:xs.length<=1048576:=by unfold jdl at hw;omega
 obtain⟨i0,hi0,hz0,hz1,hz2⟩:=info_parts jzr;obtain⟨cs0,hcs0,hmk⟩:=made 79 137 i0 _ Tryz.underlying79 hi0 hz0 xs.length (by rw[hz2];omega) (by omega);rw[hz1] at hcs0;have HC:=zh hcs0;have HV:=zh hv;have HN:=zh hw;clear hcs0 hi0 hz0 hz1 hz2 hv hn hw
 go_in;go_wp2;go_loopw [4] (fun i wr=>∃ (k:Nat) (cs:Array Value),k<=xs.length/\i=.int .i64 k/\cs.size=xs.length*3/\Blk wr w.heap.size 137 cs/\jb4 jx4 w.heap.size (From (w.heap.size+1)) wr cs xs k/\Ext w wr) (fun i _=>xs.length-(intOf i).toNat)
 case atStart=>exact⟨0,cs0,Nat.zero_le _,rfl,HC.o,Blk.new _ _ _,jb4.zero,(Ext.refl _).alloc _⟩
 case round =>
  obtain⟨k,cs,hk,rfl,hcs,hb,hf,hx⟩:=hrel;by_cases hlt:k<xs.length
  . obtain ⟨b,off,x,v1,rfl,hb0,hxk,hxs,ht,hc0,hc1,hc2⟩:=jao.at_ (HV.o.ext hx) hlt
    obtain⟨A1,c1,rfl,hq1,hq2⟩:=jaa.form ht
    have HW:=zh (show jbz x.atom.args<=1048576 from by
     have h1:=jv9 (List.mem_of_getElem? hxk);have h2:=HN.o;unfold wPart wAtom at h1;omega)
    have HK:=zh hxk;have HS:=zh hcs;have HF:=zh hf;have HB:=zh hb;have HT:=zh ht;have hg:=hb.lt;clear hxk hcs hf hb hmk ht
    go_wp2_with (first
     | (go_at_call 106;refine (jxa x _ _ HT.o HW.o).mono ?_;rintro e w1 ⟨⟨u,rfl,hu⟩,hx1⟩
        obtain⟨B,d,rfl,hd1,hd2⟩:=jae.form hu;obtain⟨⟨u0,hr0⟩,hf0⟩:=(HB.o.ext hx1).ready (i:=k*3) (by have:=HS.o;omega);obtain⟨⟨u1',hr1⟩,hf1⟩:=(HB.o.ext hx1).ready (i:=k*3+1) (by have:=HS.o;omega);obtain⟨⟨u2,hr2⟩,hf2⟩:=(HB.o.ext hx1).ready (i:=k*3+2) (by have:=HS.o;omega)))
    go_roundw
    case rel =>
     have hb1:=HB.o.ext hx1
     have ha:Agree (From (w.heap.size+1)) w1 (((w1.setCell ⟨w.heap.size,k*3,none⟩ (.bool x.no)).setCell ⟨w.heap.size,k*3+1,none⟩ (.string x.atom.n)).setCell ⟨w.heap.size,k*3+2,none⟩ (.slice B x.atom.args.length d)) :=
      (((Agree.refl _ _).set (by simp) _).set (by simp) _).set (by simp) _
     have hsz:w1.heap.size<=(((w1.setCell ⟨w.heap.size,k*3,none⟩ (.bool x.no)).setCell ⟨w.heap.size,k*3+1,none⟩ (.string x.atom.n)).setCell ⟨w.heap.size,k*3+2,none⟩ (.slice B x.atom.args.length d)).heap.size:=by go_size
     refine⟨k+1,_,by omega,by go_num,?_,(((hb1.set_ _ _).set_ _ _).set_ _ _),HF.o.step (fun m hm hlt=>(jc8 hm).trans ((jc8 hm).trans ((jc8 hm).trans (hx1.block m hlt)))) (Nat.le_trans hx1.size hsz) hg (fun m hm=>by show w.heap.size+1<=m;omega) HK.o (l:=[.bool x.no,.string x.atom.n,.slice B x.atom.args.length d]) ⟨_,rfl,hxs,hu.imp (fun b hb _=>hb) (fun b hb hlt=>ha b (by show w.heap.size+1<=b;have:wr.heap.size<=b:=hb;omega) hlt) hsz⟩ (jzq (by have:=HS.o;omega)) (fun o ho=>jvy o ho),(Below.setCell (Below.setCell (Below.setCell (hx.t hx1) (Nat.le_refl _) _) (Nat.le_refl _) _) (Nat.le_refl _) _)⟩;simp[HS.o]
    case measure=>simp[intOf];omega
  have hkk:k=xs.length:=by omega
  go_wp2;go_ret;refine⟨⟨_,rfl,?_⟩,hx⟩;exact jb4.slice (c:=xs.length) (hkk▸hf) hb rfl (Nat.le_refl _) (by unfold maxLen;have:=HN.o;unfold jdl at this;omega) (Nat.le_refl _) (jdd (by omega))
theorem jxb (r:GR) (v u:Value) (w:World) {S T:Nat->Prop} (hv:jad S w v r.head.args) (hu:jao T w u r.body) (hn:jbz r.head.args<=1048576) (hm:jdl r.body<=1048576) (hs:r.head.n.size<=maxLen) :
  Calls Tryz.prog 140 #[.agg #[.string r.head.n,v,u]] w fun e w'=>(∃ v' u',e=.returned (.agg #[.string r.head.n,v',u'])/\jea (From w.heap.size) w' [.string r.head.n,v',u'] r)/\Ext w w':=by
 obtain⟨A,c,rfl,hc1,hc2⟩:=jaa.form hv;obtain⟨B,d,rfl,hd1,hd2⟩:=jaa.form hu;have HV:=zh hv;have HU:=zh hu;have HN:=zh hn;have HM:=zh hm;have HS:=zh hs;clear hv hu hn hm hs
 go_in;go_wp2_with (fail)
 refine (jj3 r.head _ _ (HV.o.ext ((((Ext.refl _).alloc _).alloc _).alloc _)) HN.o).mono ?_;rintro e w1 ⟨⟨v1,rfl,hv1⟩,hx1⟩;obtain⟨hcc,hcf⟩:=hx1.cells;obtain⟨A1,c1,rfl,hc11,hc12⟩:=jae.form hv1;have HV1:=zh hv1;have HX1:=zh hx1;have hz1:=hx1.size;simp only[World.size_alloc] at hz1;have hbO:=(Blk.at_new (w:=(w.alloc (.cells #[.string r.head.n,.slice A r.head.args.length c,.slice B r.body.length d] 176)).alloc (.cells #[.string ⟨#[]⟩,.slice none 0 0,.slice none 0 0] 178)) (g:=w.heap.size+1+1) (t:=178) (cs:= #[.string ⟨#[]⟩,.slice none 0 0,.slice none 0 0]) (by simp)).ext hx1;have hbR:=((Blk.at_new (w:=w.alloc (.cells #[.string r.head.n,.slice A r.head.args.length c,.slice B r.body.length d] 176)) (g:=w.heap.size+1) (t:=178) (cs:= #[.string ⟨#[]⟩,.slice none 0 0,.slice none 0 0]) (by simp)).alloc (.cells #[.string ⟨#[]⟩,.slice none 0 0,.slice none 0 0] 178)).ext hx1;have hbO2:Blk ((w1.setCell ⟨w.heap.size+1+1,0,none⟩ (.string r.head.n)).setCell ⟨w.heap.size+1+1,1,none⟩ (.slice A1 r.head.args.length c1)) (w.heap.size+1+1) 178 #[.string r.head.n,.slice A1 r.head.args.length c1,.slice none 0 0]:=by simpa using (hbO.set_ 0 (.string r.head.n)).set_ 1 (.slice A1 r.head.args.length c1)
 have HBO:=zh hbO2;have HBR:=zh ((hbR.far (p:=⟨w.heap.size+1+1,0,none⟩) (by simp) (.string r.head.n)).far (p:=⟨w.heap.size+1+1,1,none⟩) (by simp) (.slice A1 r.head.args.length c1));clear hv1 hbO hbR hbO2;go_wp2_with (fail)
 refine (jua _ r.body _ (HU.o.ext ((((((Ext.refl _).alloc _).alloc _).alloc _).t HX1.o).setNew (by go_size) _ |>.setNew (by go_size) _)) HM.o).mono ?_;rintro e w2 ⟨⟨v2,rfl,hv2⟩,hx2⟩;obtain⟨B2,d2,rfl,hd21,hd22⟩:=jae.form hv2;have HV2:=zh hv2;have HX2:=zh hx2;have hO:=HBO.o.ext hx2;have hR:=HBR.o.ext hx2;have q0:=hO.cell 0;have q1:=hO.cell 1;have q2:=hO.cell 2;have f2:=hO.frozen 2;have r0:=hR.cell 0;have r1:=hR.cell 1;have r2:=hR.cell 2;have g0:=hR.frozen 0;have g1:=hR.frozen 1;have g2:=hR.frozen 2;have hlO:=hO.lt;have hz2:=hx2.size;simp only[jee] at hz2;clear hv2 hO hR;go_wp2;refine bodyPost_ret (v:=.agg #[.string r.head.n,.slice A1 r.head.args.length c1,.slice B2 r.body.length d2]) (by simp[results,Tryz.results140,go_sem,q0,q1,q2,r0,r1,r2]) rfl ⟨⟨_,_,rfl,?_⟩,?_⟩
 . refine jea.made (a:=w.heap.size+3) HS.o (HV1.o.sub (jdd (by go_size))) ?_ ?_ HX2.o HV2.o ?_ ?_ ?_ ?_
   . exact (((Agree.refl _ _).set (by go_size) _).set (by go_size) _)
   . go_size
   . exact ((((Agree.refl _ _).set (by go_size) _).set (by go_size) _).set (by go_size) _).set (by go_size) _
   . go_size
   . go_size
   omega
 exact (((((((((((Ext.refl _).alloc _).alloc _).alloc _).t HX1.o).setNew (by go_size) _).setNew (by go_size) _).t HX2.o).setNew (by go_size) _).setNew (by go_size) _).setNew (by go_size) _).setNew (by go_size) _
theorem jub (v:Value) (xs:List GR) (w:World) {S:Nat->Prop} (hv:jam S w v xs) (hw:jdm xs<=1048576) :
  Calls Tryz.prog 78 #[v] w fun e w'=>(∃ u,e=.returned u/\je7 (From w.heap.size) w' u xs)/\Ext w w':=by
 obtain⟨A,c,rfl,hc1,hc2⟩:=jaa.form hv;have hn:xs.length<=1048576:=by unfold jdm at hw;omega
 obtain⟨i0,hi0,hz0,hz1,hz2⟩:=info_parts jzs;obtain⟨cs0,hcs0,hmk⟩:=made 23 178 i0 _ Tryz.underlying23 hi0 hz0 xs.length (by rw[hz2];omega) (by omega);rw[hz1] at hcs0;have HC:=zh hcs0;have HV:=zh hv;have HN:=zh hw;clear hcs0 hi0 hz0 hz1 hz2 hv hn hw
 go_in;go_wp2;go_loopw [4] (fun i wr=>∃ (k:Nat) (cs:Array Value),k<=xs.length/\i=.int .i64 k/\cs.size=xs.length*3/\Blk wr w.heap.size 178 cs/\jb4 jx5 w.heap.size (From (w.heap.size+1)) wr cs xs k/\Ext w wr) (fun i _=>xs.length-(intOf i).toNat)
 case atStart=>exact⟨0,cs0,Nat.zero_le _,rfl,HC.o,Blk.new _ _ _,jb4.zero,(Ext.refl _).alloc _⟩
 case round =>
  obtain⟨k,cs,hk,rfl,hcs,hb,hf,hx⟩:=hrel;by_cases hlt:k<xs.length
  . obtain ⟨b,off,x,v1,u1,rfl,hb0,hxk,hxs,ht,hp,hc0,hc1,hc2⟩:=jam.at_ (HV.o.ext hx) hlt
    obtain⟨A1,c1,rfl,hq1,hq2⟩:=jaa.form ht;obtain⟨B1,d1,rfl,hq3,hq4⟩:=jaa.form hp
    have HW:=zh (show jbz x.head.args<=1048576/\jdl x.body<=1048576 from by
     have h1:=jwa (List.mem_of_getElem? hxk);have h2:=HN.o;unfold wRule wAtom at h1;omega)
    have HK:=zh hxk;have HS:=zh hcs;have HF:=zh hf;have HB:=zh hb;have HT:=zh ht;have HP:=zh hp;have hg:=hb.lt;clear hxk hcs hf hb hmk ht hp
    go_wp2_with (first
     | (go_at_call 140;refine (jxb x _ _ _ HT.o HP.o HW.o.1 HW.o.2 hxs).mono ?_;rintro e w1 ⟨⟨v2,u2,rfl,hE⟩,hx1⟩
        obtain⟨⟨A2,c2,rfl,hd1,hd2⟩,⟨B2,d2,rfl,hd3,hd4⟩⟩:=jea.forms hE;have HE:=zh hE;clear hE;obtain⟨⟨u0,hr0⟩,hf0⟩:=(HB.o.ext hx1).ready (i:=k*3) (by have:=HS.o;omega);obtain⟨⟨u1',hr1⟩,hf1⟩:=(HB.o.ext hx1).ready (i:=k*3+1) (by have:=HS.o;omega);obtain⟨⟨u2',hr2⟩,hf2⟩:=(HB.o.ext hx1).ready (i:=k*3+2) (by have:=HS.o;omega)))
    go_roundw
    case rel =>
     have hb1:=HB.o.ext hx1
     have ha:Agree (From (w.heap.size+1)) w1 (((w1.setCell ⟨w.heap.size,k*3,none⟩ (.string x.head.n)).setCell ⟨w.heap.size,k*3+1,none⟩ (.slice A2 x.head.args.length c2)).setCell ⟨w.heap.size,k*3+2,none⟩ (.slice B2 x.body.length d2)) :=
      (((Agree.refl _ _).set (by simp) _).set (by simp) _).set (by simp) _
     have hsz:w1.heap.size<=(((w1.setCell ⟨w.heap.size,k*3,none⟩ (.string x.head.n)).setCell ⟨w.heap.size,k*3+1,none⟩ (.slice A2 x.head.args.length c2)).setCell ⟨w.heap.size,k*3+2,none⟩ (.slice B2 x.body.length d2)).heap.size:=by go_size
     refine⟨k+1,_,by omega,by go_num,?_,(((hb1.set_ _ _).set_ _ _).set_ _ _),HF.o.step (fun m hm hlt=>(jc8 hm).trans ((jc8 hm).trans ((jc8 hm).trans (hx1.block m hlt)))) (Nat.le_trans hx1.size hsz) hg (fun m hm=>by show w.heap.size+1<=m;omega) HK.o (l:=[.string x.head.n,.slice A2 x.head.args.length c2,.slice B2 x.body.length d2]) (jea.imp HE.o (fun b hb _=>hb) (fun b hb hlt=>ha b (by show w.heap.size+1<=b;have:wr.heap.size<=b:=hb;omega) hlt) hsz) (jzq (by have:=HS.o;omega)) (fun o ho=>jvy o ho),(Below.setCell (Below.setCell (Below.setCell (hx.t hx1) (Nat.le_refl _) _) (Nat.le_refl _) _) (Nat.le_refl _) _)⟩;simp[HS.o]
    case measure=>simp[intOf];omega
  have hkk:k=xs.length:=by omega
  go_wp2;go_ret;refine⟨⟨_,rfl,?_⟩,hx⟩;exact jb4.slice (c:=xs.length) (hkk▸hf) hb rfl (Nat.le_refl _) (by unfold maxLen;have:=HN.o;unfold jdm at this;omega) (Nat.le_refl _) (jdd (by omega))
end Go.Proofs.YthiflhkcpanaaaaGreatDoor
namespace Go.Proofs.YthiflhkcpanaaaaGreatDoor
open Go.RowKit
def mid (a:GA):Prop:=a.n.size<=9/\a.args.length<=6/\∀ t∈a.args,t.n.size<=9
theorem juc (t:GT) (w:World) :
  Calls Tryz.prog 155 #[.agg #[.bool t.v,.string t.n],.agg #[.bool t.v,.string t.n]] w fun e w'=>e=.returned (.bool true)/\Ext w w':=by
 go_in;go_wp2;go_ret;exact⟨rfl,((Ext.refl _).alloc _).alloc _⟩
theorem jsh (v u:Value) (xs:List GT) (w:World) {S T:Nat->Prop} (hv:jad S w v xs) (hu:jad T w u xs) :
  Calls Tryz.prog 98 #[v,u] w fun e w'=>e=.returned (.bool true)/\Ext w w':=by
 obtain⟨A,c,rfl,hc1,hc2⟩:=jaa.form hv;obtain⟨B,d,rfl,hd1,hd2⟩:=jaa.form hu;have HV:=zh hv;have HU:=zh hu;clear hv hu
 go_in;go_wp2;go_loopw [5] (fun i wr=>∃ k:Nat,k<=xs.length/\i=.int .i64 k/\Ext w wr) (fun i _=>xs.length-(intOf i).toNat)
 case atStart=>exact⟨0,Nat.zero_le _,rfl,Ext.refl _⟩
 case round =>
  obtain⟨k,hk,rfl,hx⟩:=hrel;by_cases hlt:k<xs.length
  . obtain ⟨b,off,x,rfl,hb,hxk,hxs,hc0,hc1⟩:=jad.at_ (HV.o.ext hx) hlt
    obtain⟨b',off',x',rfl,hb',hxk',hxs',hc0',hc1'⟩:=jad.at_ (HU.o.ext hx) hlt;obtain rfl:x=x':=Option.some.inj (hxk.symm.trans hxk');clear hxk hxk';have hk0:(0:Int)<=(k:Int):=Int.natCast_nonneg _;have hk1:(k:Int)<(xs.length:Int):=by omega
    go_wp2_with fail
    go_still_tail 8,(by kernel_rfl)
    change wpList _ _ _ _ _ wr.drew;clear hb hb' hc0 hc1 hc0' hc1';go_wp2_with (go_at_call 155;refine (juc x _).mono ?_;rintro e w1 ⟨rfl,hx1⟩)
    go_roundw
    case rel=>exact⟨k+1,by omega,by go_num,hx.drew.t hx1⟩
    case measure=>simp[intOf];omega
  go_wp2;go_ret;exact⟨rfl,hx⟩
theorem jhx (a:GA) (v u:Value) (w:World) {S T:Nat->Prop} (hv:jad S w v a.args) (hu:jad T w u a.args) :
  Calls Tryz.prog 36 #[.agg #[.string a.n,v],.agg #[.string a.n,u]] w fun e w'=>e=.returned (.bool true)/\Ext w w':=by
 obtain⟨A,c,rfl,hc1,hc2⟩:=jaa.form hv;obtain⟨B,d,rfl,hd1,hd2⟩:=jaa.form hu;have HV:=zh hv;have HU:=zh hu;clear hv hu
 go_in;go_wp2_with (go_at_call 98;refine (jsh _ _ a.args _ (HV.o.ext (((Ext.refl _).alloc _).alloc _)) (HU.o.ext (((Ext.refl _).alloc _).alloc _))).mono ?_;rintro e w1 ⟨rfl,hx1⟩)
 go_ret;exact⟨rfl,(((Ext.refl _).alloc _).alloc _).t hx1⟩
theorem jdc (v u:Value) (xs:List GA) (w:World) {S T:Nat->Prop} (hv:jab S w v xs) (hu:jab T w u xs) :
  Calls Tryz.prog 27 #[v,u] w fun e w'=>e=.returned (.bool true)/\Ext w w':=by
 obtain⟨A,c,rfl,hc1,hc2⟩:=jaa.form hv;obtain⟨B,d,rfl,hd1,hd2⟩:=jaa.form hu;have HV:=zh hv;have HU:=zh hu;clear hv hu
 go_in;go_wp2;go_loopw [5] (fun i wr=>∃ k:Nat,k<=xs.length/\i=.int .i64 k/\Ext w wr) (fun i _=>xs.length-(intOf i).toNat)
 case atStart=>exact⟨0,Nat.zero_le _,rfl,Ext.refl _⟩
 case round =>
  obtain⟨k,hk,rfl,hx⟩:=hrel;by_cases hlt:k<xs.length
  . obtain ⟨b,off,x,v1,rfl,hb,hxk,hxs,ht1,hc0,hc1⟩:=jab.at_ (HV.o.ext hx) hlt
    obtain⟨b',off',x',v2,rfl,hb',hxk',hxs',ht2,hc0',hc1'⟩:=jab.at_ (HU.o.ext hx) hlt;obtain rfl:x=x':=Option.some.inj (hxk.symm.trans hxk');clear hxk hxk';have hk0:(0:Int)<=(k:Int):=Int.natCast_nonneg _;have hk1:(k:Int)<(xs.length:Int):=by omega
    go_wp2_with fail
    go_still_tail 8,(by kernel_rfl)
    change wpList _ _ _ _ _ wr.drew;clear hb hb' hc0 hc1 hc0' hc1';go_wp2_with (go_at_call 36;refine (jhx x _ _ _ ht1.drew_ ht2.drew_).mono ?_;rintro e w1 ⟨rfl,hx1⟩)
    go_roundw
    case rel=>exact⟨k+1,by omega,by go_num,hx.drew.t hx1⟩
    case measure=>simp[intOf];omega
  go_wp2;go_ret;exact⟨rfl,hx⟩
theorem jir (a:GC) (v1 u1 v2 u2:Value) (w:World) {S T:Nat->Prop} (hv1:jab S w v1 a.comes) (hu1:jab S w u1 a.goes) (hv2:jab T w v2 a.comes) (hu2:jab T w u2 a.goes) :
  Calls Tryz.prog 85 #[.agg #[v1,u1],.agg #[v2,u2]] w fun e w'=>e=.returned (.bool true)/\Ext w w':=by
 obtain⟨A1,c1,rfl,hc1,hc1'⟩:=jaa.form hv1;obtain⟨B1,d1,rfl,hd1,hd1'⟩:=jaa.form hu1;obtain⟨A2,c2,rfl,hc2,hc2'⟩:=jaa.form hv2;obtain⟨B2,d2,rfl,hd2,hd2'⟩:=jaa.form hu2;have HV1:=zh hv1;have HU1:=zh hu1;have HV2:=zh hv2;have HU2:=zh hu2;clear hv1 hu1 hv2 hu2
 go_in;have tok:True:=trivial
 go_wp2_with (first
  | (go_at_call 27;have _t:=tok;refine (jdc _ _ a.comes _ (HV1.o.ext (((Ext.refl _).alloc _).alloc _)) (HV2.o.ext (((Ext.refl _).alloc _).alloc _))).mono ?_;clear tok _t;rintro e w1 ⟨rfl,hx1⟩;obtain⟨hcc,hcf⟩:=hx1.cells)
  | (go_at_call 27;refine (jdc _ _ a.goes _ (HU1.o.ext ((((Ext.refl _).alloc _).alloc _).t hx1)) (HU2.o.ext ((((Ext.refl _).alloc _).alloc _).t hx1))).mono ?_;rintro e w2 ⟨rfl,hx2⟩))
 go_ret;exact⟨rfl,((((Ext.refl _).alloc _).alloc _).t hx1).t hx2⟩
end Go.Proofs.YthiflhkcpanaaaaGreatDoor
namespace Go.Proofs.YthiflhkcpanaaaaGreatDoor
open Go.RowKit
section
variable {α:Type} (m:Nat->α->α) (c:α->Nat)
end
theorem jnj (v u:Value) (xs:List GC) (w:World) {S T:Nat->Prop} (hv:jan S w v xs) (hu:jan T w u xs) :
  Calls Tryz.prog 84 #[v,u] w fun e w'=>e=.returned (.bool true)/\Ext w w':=by
 obtain⟨A,c,rfl,hc1,hc2⟩:=jaa.form hv;obtain⟨B,d,rfl,hd1,hd2⟩:=jaa.form hu;have HV:=zh (hv.sub (S':=Any) (fun _ _=>trivial));have HU:=zh (hu.sub (S':=Any) (fun _ _=>trivial));clear hv hu
 go_in;go_wp2;go_loopw [5] (fun i wr=>∃ k:Nat,k<=xs.length/\i=.int .i64 k/\Ext w wr) (fun i _=>xs.length-(intOf i).toNat)
 case atStart=>exact⟨0,Nat.zero_le _,rfl,Ext.refl _⟩
 case round =>
  obtain⟨k,hk,rfl,hx⟩:=hrel;by_cases hlt:k<xs.length
  . obtain ⟨b,off,x,v1,u1,rfl,hb,hxk,ht1,ht2,hc0,hc1⟩:=jan.at_ (HV.o.ext hx) hlt
    obtain⟨b',off',x',v2,u2,rfl,hb',hxk',ht3,ht4,hc0',hc1'⟩:=jan.at_ (HU.o.ext hx) hlt;obtain rfl:x=x':=Option.some.inj (hxk.symm.trans hxk');clear hxk hxk';have hk0:(0:Int)<=(k:Int):=Int.natCast_nonneg _;have hk1:(k:Int)<(xs.length:Int):=by omega
    go_wp2_with fail
    go_still_tail 8,(by kernel_rfl)
    change wpList _ _ _ _ _ wr.drew;clear hb hb' hc0 hc1 hc0' hc1';go_wp2_with (go_at_call 85;refine (jir x _ _ _ _ _ ht1.drew_ ht2.drew_ ht3.drew_ ht4.drew_).mono ?_;rintro e w1 ⟨rfl,hx1⟩)
    go_roundw
    case rel=>exact⟨k+1,by omega,by go_num,hx.drew.t hx1⟩
    case measure=>simp[intOf];omega
  go_wp2;go_ret;exact⟨rfl,hx⟩
end Go.Proofs.YthiflhkcpanaaaaGreatDoor
namespace Go.Proofs.YthiflhkcpanaaaaGreatDoor
open Go.RowKit
def purse (left:Int) (n:Nat):Int:=if (n:Int)<=left then left-n else -1
theorem jcm {l:Int} {n:Nat} (h:(n:Int)<=l):purse l n=l-n:=if_pos h
theorem jbf {l:Int} {n:Nat} (h:l<n):purse l n = -1:=if_neg (by omega)
theorem jxc (t:GT) (l:Int) (w:World) (hl:0<=l/\l<=1048576) (hs:t.n.size<=maxLen) :
  Calls Tryz.prog 143 #[.agg #[.bool t.v,.string t.n],.int .i64 l] w fun e w'=>e=.returned (.int .i64 (purse l (wTerm t)))/\Ext w w':=by
 unfold maxLen at hs;obtain⟨h0,h1⟩:=hl;by_cases hc:l<t.n.size
 . have HP:=zh (jbf (l:=l) (n:=wTerm t) hc)
   go_in;go_wp2;go_ret;exact⟨by rw[HP.o];rfl,(Ext.refl _).alloc _⟩
 have HP:=zh (jcm (l:=l) (n:=wTerm t) (by unfold wTerm;omega))
 go_in;go_wp2;go_ret;exact⟨by rw[HP.o];rfl,(Ext.refl _).alloc _⟩
theorem jis {α:Type} (f:α->Nat) (l:List α) (k:Nat) (x:α) (h:l[k]? = some x):((l.take (k+1)).map f).sum=((l.take k).map f).sum+f x:=by
 obtain⟨hk,rfl⟩:=List.getElem?_eq_some_iff.1 h;rw[List.take_succ_eq_append_getElem hk,List.map_append,List.sum_append];simp only[List.map_cons,List.map_nil,List.sum_cons,List.sum_nil,Nat.add_zero]
theorem jet {α:Type} (f:α->Nat) (l:List α) (k:Nat):((l.take k).map f).sum<=(l.map f).sum:=by
 have h:(l.map f).sum=((l.take k++l.drop k).map f).sum:=by rw[List.take_append_drop]
 rw[h,List.map_append,List.sum_append];omega
theorem jbj {P:Program} {f:FuncId} {args:Array Value} {w:World} {l:Int} {n:Nat} (h:Calls P f args w fun e w'=>e=.returned (.int .i64 (purse l n))/\Ext w w') :
  (l<n->Calls P f args w fun e w'=>e=.returned (.int .i64 (-1))/\Ext w w')/\((n:Int)<=l->Calls P f args w fun e w'=>e=.returned (.int .i64 (l-n))/\Ext w w') :=
 ⟨fun hc=>by rw[jbf hc] at h;exact h,fun hc=>by rw[jcm hc] at h;exact h⟩
theorem jud (v:Value) (xs:List GT) (l:Int) (w:World) (hl:0<=l/\l<=1048576) {S:Nat->Prop} (hv:jad S w v xs) :
  Calls Tryz.prog 93 #[v,.int .i64 l] w fun e w'=>e=.returned (.int .i64 (purse l (jbz xs)))/\Ext w w':=by
 obtain⟨h0,h1⟩:=hl;obtain⟨A,c,rfl,hc1,hc2⟩:=jaa.form hv;by_cases hc:l<xs.length
 . have HP:=zh (jbf (l:=l) (n:=jbz xs) (by unfold jbz;omega))
   go_in;go_wp2;go_ret;exact⟨by rw[HP.o];rfl,Ext.refl _⟩
 go_in;go_wp2;go_loopw [1,5] (fun lf i wr=>∃ k:Nat,∃ q:Int,k<=xs.length/\i=.int .i64 k/\lf=.int .i64 q/\0<=q/\q<=l/\q=l-xs.length-((xs.take k).map wTerm).sum/\Ext w wr) (fun _ i _=>xs.length-(intOf i).toNat)
 case atStart=>exact⟨0,_,Nat.zero_le _,rfl,rfl,by omega,by omega,by simp,Ext.refl _⟩
 case round =>
  obtain⟨k,q,hk,rfl,rfl,hq0,hq1,hq,hx⟩:=hrel;have HQ:=zh hq;clear hq;by_cases hlt:k<xs.length
  . obtain ⟨b,off,x,rfl,hb,hxk,hxs,hc0,hc1⟩:=jad.at_ (hv.ext hx) hlt
    have HS:=zh (jis wTerm xs k x hxk);have HL:=zh (jet wTerm xs (k+1));clear hxk hv;have hw:=jbj (jxc x q wr ⟨by omega,by omega⟩ hxs);by_cases hs:q<wTerm x
    . have HP:=zh (jbf (l:=l) (n:=jbz xs) (by have:=HS.o;have:=HL.o;have:=HQ.o;unfold jbz;omega))
      have hw1:=zh (hw.1 hs);clear hw;go_wp2_with (go_at_call 143;refine hw1.o.mono ?_;rintro e w1 ⟨rfl,hx1⟩)
      go_ret;exact⟨by rw[HP.o];rfl,hx.t hx1⟩
    have hw1:=zh (hw.2 (by omega));have hle:(wTerm x:Int)<=q:=by omega
    clear hw;go_wp2_with (go_at_call 143;refine hw1.o.mono ?_;rintro e w1 ⟨rfl,hx1⟩)
    go_roundw
    case rel=>exact⟨k+1,_,by omega,by go_num,rfl,by omega,by omega,by have:=HS.o;have:=HQ.o;omega,hx.t hx1⟩
    case measure=>simp[intOf];omega
  have HP:=zh (jcm (l:=l) (n:=jbz xs) (by
    have:=HQ.o;rw[List.take_of_length_le (by omega)] at this;unfold jbz;omega))
  go_wp2;go_ret;exact⟨by rw[HP.o];have:=HQ.o;rw[List.take_of_length_le (by omega)] at this;rw[this];unfold jbz;exact congrArg (fun z=>Ending.returned (.int .i64 z)) (by push_cast;omega),hx⟩
theorem jj4 (a:GA) (v:Value) (l:Int) (w:World) (hl:0<=l/\l<=1048576) (hs:a.n.size<=maxLen) {S:Nat->Prop} (hv:jad S w v a.args) :
  Calls Tryz.prog 32 #[.agg #[.string a.n,v],.int .i64 l] w fun e w'=>e=.returned (.int .i64 (purse l (wAtom a)))/\Ext w w':=by
 unfold maxLen at hs;obtain⟨h0,h1⟩:=hl;obtain⟨A,c,rfl,hc1,hc2⟩:=jaa.form hv;by_cases hc:l<a.n.size
 . have HP:=zh (jbf (l:=l) (n:=wAtom a) (by unfold wAtom;omega))
   go_in;go_wp2;go_ret;exact⟨by rw[HP.o];rfl,(Ext.refl _).alloc _⟩
 have hw:=jbj (jud _ a.args (l-a.n.size) _ ⟨by omega,by omega⟩ (hv.ext ((Ext.refl w).alloc (.cells #[.string a.n,.slice A a.args.length c] 63))));by_cases hq:l-a.n.size<jbz a.args
 . have HP:=zh (jbf (l:=l) (n:=wAtom a) (by unfold wAtom;omega))
   have hw1:=zh (hw.1 hq);clear hw
   go_in;go_wp2_with (go_at_call 93;go_fit hw1.o;rintro e w1 ⟨rfl,hx1⟩)
   go_ret;exact⟨by rw[HP.o];rfl,((Ext.refl _).alloc _).t hx1⟩
 have HP:=zh (jcm (l:=l) (n:=wAtom a) (by unfold wAtom;omega));have hw1:=zh (hw.2 (by omega));clear hw
 go_in;go_wp2_with (go_at_call 93;go_fit hw1.o;rintro e w1 ⟨rfl,hx1⟩)
 go_ret;exact⟨by rw[HP.o];unfold wAtom;exact congrArg (fun z=>Ending.returned (.int .i64 z)) (by push_cast;omega),((Ext.refl _).alloc _).t hx1⟩
theorem jeu (v:Value) (xs:List GA) (l:Int) (w:World) (hl:0<=l/\l<=1048576) {S:Nat->Prop} (hv:jab S w v xs) :
  Calls Tryz.prog 74 #[v,.int .i64 l] w fun e w'=>e=.returned (.int .i64 (purse l (jb7 xs)))/\Ext w w':=by
 obtain⟨h0,h1⟩:=hl;obtain⟨A,c,rfl,hc1,hc2⟩:=jaa.form hv;by_cases hc:l<xs.length
 . have HP:=zh (jbf (l:=l) (n:=jb7 xs) (by unfold jb7;omega))
   go_in;go_wp2;go_ret;exact⟨by rw[HP.o];rfl,Ext.refl _⟩
 go_in;go_wp2;go_loopw [1,5] (fun lf i wr=>∃ k:Nat,∃ q:Int,k<=xs.length/\i=.int .i64 k/\lf=.int .i64 q/\0<=q/\q<=l/\q=l-xs.length-((xs.take k).map wAtom).sum/\Ext w wr) (fun _ i _=>xs.length-(intOf i).toNat)
 case atStart=>exact⟨0,_,Nat.zero_le _,rfl,rfl,by omega,by omega,by simp,Ext.refl _⟩
 case round =>
  obtain⟨k,q,hk,rfl,rfl,hq0,hq1,hq,hx⟩:=hrel;have HQ:=zh hq;clear hq;by_cases hlt:k<xs.length
  . obtain ⟨b,off,x,v,rfl,hb,hxk,hxs,ht,hc0,hc1⟩:=jab.at_ (hv.ext hx) hlt
    have HS:=zh (jis wAtom xs k x hxk);have HL:=zh (jet wAtom xs (k+1));clear hxk hv;have hw:=jbj (jj4 x v q wr ⟨by omega,by omega⟩ hxs ht);by_cases hs:q<wAtom x
    . have HP:=zh (jbf (l:=l) (n:=jb7 xs) (by have:=HS.o;have:=HL.o;have:=HQ.o;unfold jb7;omega))
      have hw1:=zh (hw.1 hs);clear hw;go_wp2_with (go_at_call 32;refine hw1.o.mono ?_;rintro e w1 ⟨rfl,hx1⟩)
      go_ret;exact⟨by rw[HP.o];rfl,hx.t hx1⟩
    have hw1:=zh (hw.2 (by omega));have hle:(wAtom x:Int)<=q:=by omega
    clear hw;go_wp2_with (go_at_call 32;refine hw1.o.mono ?_;rintro e w1 ⟨rfl,hx1⟩)
    go_roundw
    case rel=>exact⟨k+1,_,by omega,by go_num,rfl,by omega,by omega,by have:=HS.o;have:=HQ.o;omega,hx.t hx1⟩
    case measure=>simp[intOf];omega
  have HP:=zh (jcm (l:=l) (n:=jb7 xs) (by
    have:=HQ.o;rw[List.take_of_length_le (by omega)] at this;unfold jb7;omega))
  go_wp2;go_ret;exact⟨by rw[HP.o];have:=HQ.o;rw[List.take_of_length_le (by omega)] at this;rw[this];unfold jb7;exact congrArg (fun z=>Ending.returned (.int .i64 z)) (by push_cast;omega),hx⟩
theorem jku (g:GC) (v u:Value) (l:Int) (w:World) (hl:0<=l/\l<=1048576) {S:Nat->Prop} (hv:jab S w v g.comes) (hu:jab S w u g.goes) :
  Calls Tryz.prog 76 #[.agg #[v,u],.int .i64 l] w fun e w'=>e=.returned (.int .i64 (purse l (jbp g)))/\Ext w w':=by
 obtain⟨h0,h1⟩:=hl;obtain⟨A,c,rfl,hc1,hc2⟩:=jaa.form hv;obtain⟨B,d,rfl,hd1,hd2⟩:=jaa.form hu;have hw:=jbj (jeu _ g.comes l _ ⟨h0,h1⟩ (hv.ext ((Ext.refl w).alloc (.cells #[.slice A g.comes.length c,.slice B g.goes.length d] 44))));by_cases hq:l<jb7 g.comes
 . have HP:=zh (jbf (l:=l) (n:=jbp g) (by unfold jbp;omega))
   have hw1:=zh (hw.1 hq);clear hw hv hu
   go_in;go_wp2_with (go_at_call 74;refine hw1.o.mono ?_;rintro e w1 ⟨rfl,hx1⟩)
   go_ret;exact⟨by rw[HP.o];rfl,((Ext.refl _).alloc _).t hx1⟩
 have hw1:=zh (hw.2 (by omega));clear hw hv;by_cases hq2:l-jb7 g.comes<jb7 g.goes
 . have HP:=zh (jbf (l:=l) (n:=jbp g) (by unfold jbp;omega))
   have HU:=zh hu;clear hu
   go_in
   go_wp2_with (first
    | (go_at_call 74;refine hw1.o.mono ?_;clear hw1;rintro e w1 ⟨rfl,hx1⟩;obtain⟨hc1,hf1⟩:=hx1.cells)
    | (go_at_call 74;refine ((jbj (jeu _ g.goes _ _ ⟨by omega,by omega⟩ (HU.o.ext (((Ext.refl w).alloc _).t hx1)))).1 hq2).mono ?_;rintro e w2 ⟨rfl,hx2⟩))
   go_ret;exact⟨by rw[HP.o];rfl,(((Ext.refl _).alloc _).t hx1).t hx2⟩
 have HP:=zh (jcm (l:=l) (n:=jbp g) (by unfold jbp;omega));have HU:=zh hu;clear hu
 go_in
 go_wp2_with (first
  | (go_at_call 74;refine hw1.o.mono ?_;clear hw1;rintro e w1 ⟨rfl,hx1⟩;obtain⟨hc1,hf1⟩:=hx1.cells)
  | (go_at_call 74;refine ((jbj (jeu _ g.goes _ _ ⟨by omega,by omega⟩ (HU.o.ext (((Ext.refl w).alloc _).t hx1)))).2 (by omega)).mono ?_;rintro e w2 ⟨rfl,hx2⟩))
 go_ret;exact⟨by rw[HP.o];unfold jbp;exact congrArg (fun z=>Ending.returned (.int .i64 z)) (by push_cast;omega),(((Ext.refl _).alloc _).t hx1).t hx2⟩
end Go.Proofs.YthiflhkcpanaaaaGreatDoor
