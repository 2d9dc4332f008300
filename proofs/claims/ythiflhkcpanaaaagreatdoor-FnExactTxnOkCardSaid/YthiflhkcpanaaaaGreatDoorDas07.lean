/- Own texts, joined. -/
import Derived.Test.YthiflhkcpanaaaaGreatDoorDas06
set_option linter.unusedSimpArgs false
set_option linter.unusedVariables false
set_option maxHeartbeats 4000000
set_option maxRecDepth 100000
namespace Go.Proofs.YthiflhkcpanaaaaGreatDoor
open Go.RowKit
def jcu (p:GP):Bool:=jat p.atom
theorem jfg (r:GR):jba r=(r.body.all jcu && (jat r.head && decide (r.body.length<=4))):=rfl
theorem jrg (r:GR) (v u:Value) (w:World) {S T:Nat->Prop} (hs:r.head.n.size<=maxLen) (hv:jad S w v r.head.args) (hu:jao T w u r.body) :
  Calls Tryz.prog 249 #[.agg #[.string r.head.n,v,u]] w fun e w'=>e=.returned (.bool (jba r))/\Ext w w':=by
 obtain⟨A,c,rfl,hc1,hc2⟩:=jaa.form hv;obtain⟨B,d,rfl,hd1,hd2⟩:=jaa.form hu;have HV:=zh (hv.ext ((Ext.refl w).alloc (.cells #[.string r.head.n,.slice A r.head.args.length c,.slice B r.body.length d] 178)));have HU:=zh (hu.ext ((Ext.refl w).alloc (.cells #[.string r.head.n,.slice A r.head.args.length c,.slice B r.body.length d] 178)));have HB:=zh (Blk.new w 178 #[.string r.head.n,.slice A r.head.args.length c,.slice B r.body.length d]);clear hv hu
 go_in;go_wp2;go_loopw [3] (fun i wr=>∃ k:Nat,k<=r.body.length/\i=.int .i64 k/\J1 ((r.body.take k).all jcu=true)/\Ext (w.alloc (.cells #[.string r.head.n,.slice A r.head.args.length c,.slice B r.body.length d] 178)) wr) (fun i _=>r.body.length-(intOf i).toNat)
 case atStart=>exact⟨0,Nat.zero_le _,rfl,rfl,Ext.refl _⟩
 case round =>
  obtain⟨k,hk,rfl,hp,hx⟩:=hrel;have hb1:=HB.o.ext hx;have q0:=hb1.cell 0;have q1:=hb1.cell 1;have q2:=hb1.cell 2;have hl:=hb1.lt;clear hb1;by_cases hlt:k<r.body.length
  . obtain ⟨b,off,x,y,rfl,hb,hxk,hxs,htx,p0,p1,p2⟩:=jao.at_ (HU.o.ext hx) hlt
    obtain⟨C,e,rfl,he1,he2⟩:=jaa.form htx;have HK:=zh hxk;have hw:=jai (je4 x.atom _ wr hxs htx);clear hxk htx;cases ht:jat x.atom
    . have HF:=zh (show jba r=false from by rw[jfg,jbc jcu _ k x HK.o ht];rfl)
      have HW:=zh (hw.2 ht);clear hw ht;go_wp2_with (go_at_call 157;refine HW.o.mono ?_;rintro e w1 ⟨rfl,hx1⟩)
      go_ret;exact⟨by rw[HF.o];rfl,((Ext.refl _).alloc _).t (hx.t hx1)⟩
    have HP:=zh (show (r.body.take (k+1)).all jcu=true from by rw[jbo jcu _ k x HK.o,hp.o,show jcu x=true from ht];rfl);have HW:=zh (hw.1 ht);clear hw ht;go_wp2_with (go_at_call 157;refine HW.o.mono ?_;rintro e w1 ⟨rfl,hx1⟩)
    go_roundw
    case rel=>exact⟨k+1,by omega,by go_num,HP,hx.t hx1⟩
    case measure=>simp[intOf];omega
  have hall:=jbl jcu _ k hlt hp.o;have hw:=jai (je4 r.head _ wr hs (HV.o.ext hx));clear hp;cases hn:jat r.head
  . have HF:=zh (show jba r=false from by rw[jfg,hn,hall];rfl)
    have HW:=zh (hw.2 hn);clear hw hn hall;go_wp2_with (go_at_call 157;refine HW.o.mono ?_;rintro e w1 ⟨rfl,hx1⟩)
    go_ret;exact⟨by rw[HF.o];rfl,((Ext.refl _).alloc _).t (hx.t hx1)⟩
  have HF:=zh (show jba r=decide (r.body.length<=4) from by rw[jfg,hn,hall];rfl);have HW:=zh (hw.1 hn);clear hw hn hall;go_wp2_with (go_at_call 157;refine HW.o.mono ?_;rintro e w1 ⟨rfl,hx1⟩;have hb2:=(HB.o.ext (hx.t hx1));have p2:=hb2.cell 2;have hl2:=hb2.lt;clear hb2)
  go_ret;refine⟨ja6 ?_,((Ext.refl _).alloc _).t (hx.t hx1)⟩;rw[HF.o];exact decide_eq_decide.2 (by omega)
/-! ### Texts, ascending -/
theorem j0s:(Tryz.prog.info? 9).map (fun i=>(i.zero,i.size,i.bytes))=some (some (.string ByteArray.empty),1,16):=by kernel_rfl
theorem jlg (a b:ByteArray):Op.bytesLess a.toList b.toList=ltS a b:=by
 unfold ltS;cases h:Op.bytesLess a.toList b.toList
 . cases h2:(!a.toList == b.toList)
   . have:=jqs h h2
     unfold cmpS at this;rw[this];rfl
   have:=jqt h h2;unfold cmpS at this;rw[this];rfl
 have:=jqr h;unfold cmpS at this;rw[this];rfl
theorem jdh {a b:ByteArray} (h:a≠b):(a.toList == b.toList)=false:=by
 rw[beq_eq_false_iff_ne,ByteArray.toList_eq,ByteArray.toList_eq];intro e;apply h
 cases a;cases b
 simp at e;rw[e]
theorem j0t (l:List ByteArray) (s:ByteArray):(putS l s).length<=l.length+1:=by
 induction l with
 | nil=>exact Nat.le_refl _
 | cons x l ih =>
   unfold putS;split
   . simp;exact ih
   split<;>simp
theorem OwnK.strs {S S':Nat->Prop} {w:World} {v:Value} {xs:List ByteArray} {base:Nat} {e:TypeId} (h:OwnK kStr base e S w v xs):OwnK kStr base e S' w v xs:=by
 obtain⟨rows,T,h1,h2,_,_⟩:=h;exact⟨rows,fun _=>False,h1,h2,fun _ h=>h.elim,fun _ _ h=>h⟩
theorem j0u (v:Value) (xs:List ByteArray) (s:ByteArray) (w:World) {S:Nat->Prop} (hv:StrsR S w v xs) (hs:s.size<=maxLen) (hn:xs.length<=1000000) :
  Calls Tryz.prog 248 #[v,.string s] w fun e w'=>(∃ v',e=.returned v'/\StrsR (fun b=>S b∨w.heap.size<=b) w' v' (putS xs s))/\Ext w w':=by
 obtain⟨A,c,rfl,hc1,hc2⟩:=jaa.form hv;obtain⟨i0,hi0,hz0,hz1,hz2⟩:=info_parts j0s;have HV:=zh hv;clear hv
 go_in;go_wp2;go_loopw [5] (fun i wr=>∃ k:Nat,k<=xs.length/\i=.int .i64 k/\J1 (∀ i x,i<k->xs[i]? = some x->ltS x s=true)/\w=wr) (fun i _=>xs.length-(intOf i).toNat)
 case atStart=>exact⟨0,Nat.zero_le _,rfl,zh (fun i x h=>absurd h (Nat.not_lt_zero _)),rfl⟩
 case round =>
  obtain⟨k,hk,rfl,hlow,rfl⟩:=hrel;have hk0:(0:Int)<=(k:Int):=by omega
  have hk1:(k:Int)<=(c:Int):=by omega
  have hk2:(k:Int)<=(xs.length:Int):=by omega
  have hend:∀ hw:jd5 xs s=k,xs[k]? ≠some s->putS xs s=xs.take k++[s]++xs.drop k:=fun hw hne=>by rw[jth,hw,if_neg hne]
  by_cases hlt:k<xs.length
  . obtain ⟨b,off,x,rfl,hb,hxk,hxs,p0⟩:=StrsR.at_ HV.o hlt
    cases hl:ltS x s
    . have hw : jd5 xs s=k:=jq4 hk hlow.o (fun y hy=>by rw[hxk] at hy;injection hy with hy;subst hy;exact hl)
      have hbl:Op.bytesLess x.toList s.toList=false:=(jlg x s).trans hl;by_cases he:x=s
      . have HP:=zh (show putS xs s=xs from by rw[jth,hw,if_pos (by rw[hxk,he])])
        have he1:(x.toList == s.toList)=true:=by rw[he];exact beq_self_eq_true _
        clear hw hend hl hxk hlow he;go_wp2;go_ret;exact⟨⟨_,rfl,by rw[HP.o];exact StrsR.imp HV.o (fun _ h=>.inl h) (.refl _ _) (Nat.le_refl _)⟩,Ext.refl _⟩
      have HP:=zh (hend hw (by rw[hxk];intro e;injection e with e;exact he e));have he1:(x.toList == s.toList)=false:=jdh he;clear hw hend hl hxk hlow he;go_wp2;clear p0 hb
      generalize (some (⟨b,off,none⟩:Addr))=A at HV ⊢
      have HE1:=zh (show ∀ W,Ext w W->jar kStr (fun b=>b<w.heap.size) W (.slice A k c) (xs.take k) from fun W hW =>
       jar.ext ((ListK.elems (k:=kStr) (jaa.fst HV.o k hk)).sub (fun b hb hlt=>hlt)) hW)
      have HE2:=zh (show ∀ W,Ext w W->kStr.E (fun b=>b<w.heap.size) W [.string s] s from fun W hW=>⟨rfl,hs⟩)
      have HE3:=zh (show ∀ W,Ext w W->jar kStr (fun b=>b<w.heap.size) W (.slice (if c=k then A else A.map (·.add k)) (xs.length-k) (c-k)) (xs.drop k) from fun W hW =>
       jar.ext ((ListK.elems (k:=kStr) (by have h:=jaa.drop HV.o k hk;simp only[Nat.mul_one] at h;exact h)).sub (fun b hb hlt=>hlt)) hW)
      have hlk:(xs.take k).length=k:=by rw[List.length_take];omega
      go_region_held3 (fun _=>True) (exact trivial)
       (first
        | (refine jb1 (o:=⟨some 37,_,_,_,_,_⟩) (k:=kStr) (S:=fun b=>b<w.heap.size) (T:=fun b=>b<w.heap.size) (base:=w.heap.size) (v:=.slice (some ⟨_,0,none⟩) 0 0) (xs:=[]) (ys:=xs.take k) (by rfl) (.tmp 33) (.tmp 36) 140 (by rfl) i0 _ 16 Tryz.underlying140 hi0 hz0 hz1 hz2 (by rfl) (by rfl)
            (by first|exact OwnK.drew (OwnK.empty rfl (Nat.le_refl _))|exact OwnK.drew (OwnK.alloc (OwnK.empty rfl (Nat.le_refl _)) _)|exact OwnK.drew (OwnK.empty (w:=w.alloc _) (by simp) (by simp))) A k c (by rfl) (HE1.o _ (by first|exact Ext.drew (Ext.alloc (Ext.refl _) _)|exact Ext.drew (Ext.alloc (Ext.alloc (Ext.refl _) _) _))) (fun b hb=>⟨hb,hb⟩) (maxOf (by simp;omega)) (by simp;omega) (by go_size) ?_
           intro v1 w2 hap1;obtain⟨A1,n1,c1,rfl,hn1,hd11,hd12⟩:=hap1.own.form2;have HX2:=zh (hap1.toExt (w0:=w) (by first|exact Ext.drew (Ext.alloc (Ext.refl _) _)|exact Ext.drew (Ext.alloc (Ext.alloc (Ext.refl _) _) _)) (Nat.le_refl _));have HA1:=zh hap1;clear hap1)
        | (refine jb1 (o:=⟨some 40,_,_,_,_,_⟩) (k:=kStr) (S:=fun b=>b<w.heap.size) (T:=fun b=>b<w.heap.size) (base:=w.heap.size) (xs:=[]++xs.take k) (ys:=[s]) (by rfl) (.tmp 37) (.tmp 39) 140 (by rfl) i0 _ 16 Tryz.underlying140 hi0 hz0 hz1 hz2 (by rfl) (by rfl)
            (by first|exact HA1.o.own|exact OwnK.alloc HA1.o.own _) _ 1 1 (by rfl) (jar.one (k:=kStr) (x:=s) (by first|exact Blk.at_new rfl|exact HA1.o.blk2 (Blk.drew (Blk.at_new (w:=w.alloc _) (by simp))) (by simp[Value.ownBlock])|exact HA1.o.blk2 (Blk.drew (Blk.alloc (Blk.at_new rfl) _)) (by simp[Value.ownBlock])) (HE2.o _ (by first|exact HX2.o|exact Ext.alloc HX2.o _))) (fun b hb=>⟨hb,hb⟩) (maxOf (by simp;omega)) (by simp;omega) (by have:=HX2.o.size;go_size) ?_
           intro v2 w3 hap2;obtain⟨A2,n2,c2,rfl,hn2,hd21,hd22⟩:=hap2.own.form2;have HX3:=zh (hap2.toExt (w0:=w) (by first|exact HX2.o|exact Ext.alloc HX2.o _) (Nat.le_refl _));have HA2:=zh hap2;clear hap2)
        | (refine jb1 (o:=⟨some 44,_,_,_,_,_⟩) (k:=kStr) (S:=fun b=>b<w.heap.size) (T:=fun b=>b<w.heap.size) (base:=w.heap.size) (xs:=([]++xs.take k)++[s]) (ys:=xs.drop k) (by rfl) (.tmp 40) (.tmp 43) 140 (by rfl) i0 _ 16 Tryz.underlying140 hi0 hz0 hz1 hz2 (by rfl) (by rfl)
            (by exact HA2.o.own) _ _ _ (by rfl) (HE3.o _ HX3.o) (fun b hb=>⟨hb,hb⟩) (maxOf (by simp;omega)) (by simp;omega) (by have:=HX3.o.size;go_size) ?_
           intro v3 w4 hap3;obtain⟨A3,n3,c3,rfl,hn3,hd31,hd32⟩:=hap3.own.form2;have HX4:=zh (hap3.toExt (w0:=w) HX3.o (Nat.le_refl _));have HA3:=zh hap3;clear hap3))
      all_goals go_wp2
      all_goals
       go_ret;refine⟨⟨_,rfl,?_⟩,HX4.o⟩;rw[HP.o];have h:=(OwnK.strs (S':=None) HA3.o.own).list (S':=fun b=>S b∨w.heap.size<=b) (fun b hb=>hb.elim) (fun b hb=>.inr hb);simp only[List.nil_append] at h;exact h
    have hbl:Op.bytesLess x.toList s.toList=true:=(jlg x s).trans hl
    have HL:=zh (show ∀ i y,i<k+1->xs[i]? = some y->ltS y s=true from fun i y hi hy=>by
     rcases Nat.lt_or_ge i k with h|h
     . exact hlow.o i y h hy
     rw[show i=k from by omega,hxk] at hy;injection hy with hy;subst hy;exact hl)
    clear hend hl hxk hlow;go_wp2;go_roundw
    case rel=>exact⟨k+1,by omega,by go_num,HL,trivial⟩
    case measure=>simp[intOf];omega
  have hw:jd5 xs s=k:=jq4 hk hlow.o (fun y hy=>by rw[List.getElem?_eq_none (by omega)] at hy;cases hy);have HP:=zh (hend hw (by rw[List.getElem?_eq_none (by omega)];simp));clear hw hend hlow;go_wp2
  have HE1:=zh (show ∀ W,Ext w W->jar kStr (fun b=>b<w.heap.size) W (.slice A k c) (xs.take k) from fun W hW =>
   jar.ext ((ListK.elems (k:=kStr) (jaa.fst HV.o k hk)).sub (fun b hb hlt=>hlt)) hW)
  have HE2:=zh (show ∀ W,Ext w W->kStr.E (fun b=>b<w.heap.size) W [.string s] s from fun W hW=>⟨rfl,hs⟩)
  have HE3:=zh (show ∀ W,Ext w W->jar kStr (fun b=>b<w.heap.size) W (.slice (if c=k then A else A.map (·.add k)) (xs.length-k) (c-k)) (xs.drop k) from fun W hW =>
   jar.ext ((ListK.elems (k:=kStr) (by have h:=jaa.drop HV.o k hk;simp only[Nat.mul_one] at h;exact h)).sub (fun b hb hlt=>hlt)) hW)
  have hlk:(xs.take k).length=k:=by rw[List.length_take];omega
  go_region_held3 (fun _=>True) (exact trivial)
   (first
    | (refine jb1 (o:=⟨some 37,_,_,_,_,_⟩) (k:=kStr) (S:=fun b=>b<w.heap.size) (T:=fun b=>b<w.heap.size) (base:=w.heap.size) (v:=.slice (some ⟨_,0,none⟩) 0 0) (xs:=[]) (ys:=xs.take k) (by rfl) (.tmp 33) (.tmp 36) 140 (by rfl) i0 _ 16 Tryz.underlying140 hi0 hz0 hz1 hz2 (by rfl) (by rfl)
        (by first|exact OwnK.drew (OwnK.empty rfl (Nat.le_refl _))|exact OwnK.drew (OwnK.alloc (OwnK.empty rfl (Nat.le_refl _)) _)|exact OwnK.drew (OwnK.empty (w:=w.alloc _) (by simp) (by simp))) A k c (by rfl) (HE1.o _ (by first|exact Ext.drew (Ext.alloc (Ext.refl _) _)|exact Ext.drew (Ext.alloc (Ext.alloc (Ext.refl _) _) _))) (fun b hb=>⟨hb,hb⟩) (maxOf (by simp;omega)) (by simp;omega) (by go_size) ?_
       intro v1 w2 hap1;obtain⟨A1,n1,c1,rfl,hn1,hd11,hd12⟩:=hap1.own.form2;have HX2:=zh (hap1.toExt (w0:=w) (by first|exact Ext.drew (Ext.alloc (Ext.refl _) _)|exact Ext.drew (Ext.alloc (Ext.alloc (Ext.refl _) _) _)) (Nat.le_refl _));have HA1:=zh hap1;clear hap1)
    | (refine jb1 (o:=⟨some 40,_,_,_,_,_⟩) (k:=kStr) (S:=fun b=>b<w.heap.size) (T:=fun b=>b<w.heap.size) (base:=w.heap.size) (xs:=[]++xs.take k) (ys:=[s]) (by rfl) (.tmp 37) (.tmp 39) 140 (by rfl) i0 _ 16 Tryz.underlying140 hi0 hz0 hz1 hz2 (by rfl) (by rfl)
        (by first|exact HA1.o.own|exact OwnK.alloc HA1.o.own _) _ 1 1 (by rfl) (jar.one (k:=kStr) (x:=s) (by first|exact Blk.at_new rfl|exact HA1.o.blk2 (Blk.drew (Blk.at_new (w:=w.alloc _) (by simp))) (by simp[Value.ownBlock])|exact HA1.o.blk2 (Blk.drew (Blk.alloc (Blk.at_new rfl) _)) (by simp[Value.ownBlock])) (HE2.o _ (by first|exact HX2.o|exact Ext.alloc HX2.o _))) (fun b hb=>⟨hb,hb⟩) (maxOf (by simp;omega)) (by simp;omega) (by have:=HX2.o.size;go_size) ?_
       intro v2 w3 hap2;obtain⟨A2,n2,c2,rfl,hn2,hd21,hd22⟩:=hap2.own.form2;have HX3:=zh (hap2.toExt (w0:=w) (by first|exact HX2.o|exact Ext.alloc HX2.o _) (Nat.le_refl _));have HA2:=zh hap2;clear hap2)
    | (refine jb1 (o:=⟨some 44,_,_,_,_,_⟩) (k:=kStr) (S:=fun b=>b<w.heap.size) (T:=fun b=>b<w.heap.size) (base:=w.heap.size) (xs:=([]++xs.take k)++[s]) (ys:=xs.drop k) (by rfl) (.tmp 40) (.tmp 43) 140 (by rfl) i0 _ 16 Tryz.underlying140 hi0 hz0 hz1 hz2 (by rfl) (by rfl)
        (by exact HA2.o.own) _ _ _ (by rfl) (HE3.o _ HX3.o) (fun b hb=>⟨hb,hb⟩) (maxOf (by simp;omega)) (by simp;omega) (by have:=HX3.o.size;go_size) ?_
       intro v3 w4 hap3;obtain⟨A3,n3,c3,rfl,hn3,hd31,hd32⟩:=hap3.own.form2;have HX4:=zh (hap3.toExt (w0:=w) HX3.o (Nat.le_refl _));have HA3:=zh hap3;clear hap3))
  all_goals go_wp2
  all_goals
   go_ret;refine⟨⟨_,rfl,?_⟩,HX4.o⟩;rw[HP.o];have h:=(OwnK.strs (S':=None) HA3.o.own).list (S':=fun b=>S b∨w.heap.size<=b) (fun b hb=>hb.elim) (fun b hb=>.inr hb);simp only[List.nil_append] at h;exact h
/-! ### Variables -/
def jdq (os:List ByteArray) (l:List GT):List ByteArray:=((l.filter (·.v)).map (·.n)).foldl putS os
theorem jtp (os:List ByteArray) (l:List GT) (x:GT):jdq os (l++[x])=if x.v then putS (jdq os l) x.n else jdq os l:=by
 unfold jdq;rw[List.filter_append,List.map_append,List.foldl_append];cases h:x.v<;>simp[h]
theorem jn9 (os:List ByteArray):∀ l:List GT,(jdq os l).length<=os.length+l.length:=by
 intro l;unfold jdq
 generalize hvs:(l.filter (·.v)).map (·.n)=vs
 have hl:vs.length<=l.length:=by rw[<- hvs,List.length_map];exact List.length_filter_le _ _
 clear hvs
 have key:∀ (vs os:List ByteArray),(vs.foldl putS os).length<=os.length+vs.length:=by
  intro vs
  induction vs with
  | nil=>intro os;exact Nat.le_refl _
  | cons v vs ih =>
    intro os;have h1:=ih (putS os v);have h2:=j0t os v;simp only[List.foldl_cons,List.length_cons];omega
 have:=key vs os;omega
theorem jyk (a:GA) (v o:Value) (os:List ByteArray) (w:World) {S T:Nat->Prop} (hv:jad S w v a.args) (ho:StrsR T w o os) (hn:os.length+a.args.length<=1000000) :
  Calls Tryz.prog 210 #[.agg #[.string a.n,v],o] w fun e w'=>(∃ v',e=.returned v'/\StrsR (fun b=>T b∨w.heap.size<=b) w' v' (ja7 os a))/\Ext w w':=by
 obtain⟨A,c,rfl,hc1,hc2⟩:=jaa.form hv;have HV:=zh (hv.ext ((Ext.refl w).alloc (.cells #[.string a.n,.slice A a.args.length c] 69)));have HO:=zh (StrsR.imp (S':=fun b=>T b∨w.heap.size<=b) ho (fun _ h=>.inl h) (.of_ext ((Ext.refl w).alloc (.cells #[.string a.n,.slice A a.args.length c] 69))) (by go_size));have HB:=zh (Blk.new w 69 #[.string a.n,.slice A a.args.length c]);clear hv ho
 go_in;go_wp2;go_loopw [1,5] (fun o i wr=>∃ k:Nat,k<=a.args.length/\i=.int .i64 k/\J1 (StrsR (fun b=>T b∨w.heap.size<=b) wr o (jdq os (a.args.take k)))/\Ext (w.alloc (.cells #[.string a.n,.slice A a.args.length c] 69)) wr) (fun _ i _=>a.args.length-(intOf i).toNat)
 case atStart=>exact⟨0,Nat.zero_le _,rfl,HO,Ext.refl _⟩
 case round =>
  obtain⟨k,hk,rfl,ho,hx⟩:=hrel;have hb1:=HB.o.ext hx;have q0:=hb1.cell 0;have q1:=hb1.cell 1;have hl:=hb1.lt;clear hb1;obtain⟨B,d,rfl,hd1,hd2⟩:=jaa.form ho.o;obtain⟨n1,hn1⟩:=nm ((jdq os (a.args.take k)).length);have hln:=jn9 os (a.args.take k);rw[List.length_take] at hln;rw[<- hn1] at ho hln ⊢;by_cases hlt:k<a.args.length
  . obtain ⟨b,off,x,rfl,hb,hxk,hxs,hc0,hc1⟩:=jad.at_ (HV.o.ext hx) hlt
    have hstep:jdq os (a.args.take (k+1))=if x.v then putS (jdq os (a.args.take k)) x.n else jdq os (a.args.take k):=by
     obtain⟨hk',rfl⟩:=List.getElem?_eq_some_iff.1 hxk;rw[List.take_succ_eq_append_getElem hk',jtp]
    cases hxv:x.v
    . have HP:=zh (show jdq os (a.args.take (k+1))=jdq os (a.args.take k) from by rw[hstep,hxv];rfl)
      rw[hxv] at hc0;clear hstep hxk hxv hn1;go_wp2;go_roundw
      case rel=>exact⟨k+1,by omega,by go_num,(by rw[HP.o];exact ho),hx⟩
      case measure=>simp[intOf];omega
    have HP:=zh (show jdq os (a.args.take (k+1))=putS (jdq os (a.args.take k)) x.n from by rw[hstep,hxv];rfl);have HL:=zh (show (jdq os (a.args.take k)).length<=1000000 from by rw[<- hn1];omega);rw[hxv] at hc0;clear hstep hxk hxv hn1;go_wp2_with (go_at_call 248;refine (j0u _ (jdq os (a.args.take k)) x.n _ ho.o hxs HL.o).mono ?_;rintro e w1 ⟨⟨v1,rfl,hv1⟩,hx1⟩)
    go_roundw
    case rel=>exact⟨k+1,by omega,by go_num,zh (by rw[HP.o];exact StrsR.imp hv1 (fun b hb=>hb.elim id (fun h=>.inr (Nat.le_trans (((Ext.refl w).alloc _).t hx).size h))) (.refl _ _) (Nat.le_refl _)),hx.t hx1⟩
    case measure=>simp[intOf];omega
  have HP:=zh (show jdq os (a.args.take k)=ja7 os a from by rw[List.take_of_length_le (by omega)];rfl);clear hn1;go_wp2;go_ret;exact⟨⟨_,rfl,by rw[<- HP.o];exact ho.o⟩,((Ext.refl _).alloc _).t hx⟩
theorem jg5 (a:GA) (v o:Value) (os:List ByteArray) (w:World) {S T:Nat->Prop} (hv:jad S w v a.args) (ho:StrsR T w o os) (hn:os.length+a.args.length<=1000000) :
  Calls Tryz.prog 210 #[.agg #[.string a.n,v],o] w fun e w'=>(∃ v',e=.returned v'/\StrsR Any w' v' (ja7 os a))/\Ext w w' :=
 (jyk a v o os w hv ho hn).mono fun e w' ⟨⟨v',h1,h2⟩,h3⟩=>⟨⟨v',h1,StrsR.imp h2 (fun _ _=>trivial) (.refl _ _) (Nat.le_refl _)⟩,h3⟩
def allTo (o:List ByteArray) (l:List GP):List ByteArray:=l.foldl (fun o p=>ja7 o p.atom) o
def jdy (l:List GP):List ByteArray:=l.foldl (fun o p=>if p.no then o else ja7 o p.atom) []
theorem jep (o:List ByteArray) (a:GA):(ja7 o a).length<=o.length+a.args.length:=jn9 o a.args
theorem jtq (r:GR) (v u:Value) (w:World) {S T:Nat->Prop} (hs:r.head.n.size<=maxLen) (hv:jad S w v r.head.args) (hu:jao T w u r.body) (hargs:r.head.args.length<=12/\r.body.length<=4/\∀ p∈r.body,p.atom.args.length<=3) :
  Calls Tryz.prog 158 #[.agg #[.string r.head.n,v,u]] w fun e w'=>e=.returned (.bool (jca r))/\Ext w w':=by
 obtain⟨hh,hbl,hpl⟩:=hargs;obtain⟨A,c,rfl,hc1,hc2⟩:=jaa.form hv;obtain⟨B,d,rfl,hd1,hd2⟩:=jaa.form hu;have HV:=zh (hv.ext ((Ext.refl w).alloc (.cells #[.string r.head.n,.slice A r.head.args.length c,.slice B r.body.length d] 178)));have HU:=zh (hu.ext ((Ext.refl w).alloc (.cells #[.string r.head.n,.slice A r.head.args.length c,.slice B r.body.length d] 178)));have HB:=zh (Blk.new w 178 #[.string r.head.n,.slice A r.head.args.length c,.slice B r.body.length d]);have HPL:=zh hpl;have htl:=jye r;have HT:=zh htl;have tok:True:=trivial;clear hv hu hpl htl
 go_in
 go_wp2_with (first
  | (go_at_call 210;refine (jg5 (S:=S) (T:=Any) r.head _ _ [] _ (HV.o.ext (((Ext.refl _).alloc _).alloc _)) (jaa.nil_ 0 (Nat.zero_le _) _) (by simp;omega)).mono ?_;rintro e w1 ⟨⟨v1,rfl,hv1⟩,hx1⟩
     have HV1:=zh hv1;have HX1:=zh (((((Ext.refl (w.alloc (.cells #[.string r.head.n,.slice A r.head.args.length c,.slice B r.body.length d] 178)))).alloc (.cells #[] 9)).alloc (.cells #[] 9)).t hx1);clear hv1 hx1))
 go_loopw [3,4,5] (fun bo al i wr=>∃ k:Nat,k<=r.body.length/\i=.int .i64 k/\J1 (StrsR Any wr al (allTo (ja7 [] r.head) (r.body.take k)))/\J1 (StrsR Any wr bo (jdy (r.body.take k)))/\J1 ((allTo (ja7 [] r.head) (r.body.take k)).length<=12+3*k/\(jdy (r.body.take k)).length<=3*k)/\Ext (w.alloc (.cells #[.string r.head.n,.slice A r.head.args.length c,.slice B r.body.length d] 178)) wr) (fun _ _ i _=>r.body.length-(intOf i).toNat)
 case atStart=>exact⟨0,Nat.zero_le _,rfl,HV1,zh (jaa.nil_ 0 (Nat.zero_le _) _),zh ⟨by have:=jep [] r.head;show (ja7 [] r.head).length<=_;simp at this;omega,Nat.zero_le _⟩,HX1.o⟩
 case round =>
  obtain⟨k,hk,rfl,hal,hbo,hlen,hx⟩:=hrel;have hb1:=HB.o.ext hx;have q0:=hb1.cell 0;have q1:=hb1.cell 1;have q2:=hb1.cell 2;have hl:=hb1.lt;clear hb1;obtain⟨C,e,rfl,he1,he2⟩:=jaa.form hal.o;obtain⟨D,f,rfl,hf1,hf2⟩:=jaa.form hbo.o;obtain⟨n1,hn1⟩:=nm ((allTo (ja7 [] r.head) (r.body.take k)).length);obtain⟨m1,hm1⟩:=nm ((jdy (r.body.take k)).length);rw[<- hn1,<- hm1] at hlen;rw[<- hn1] at hal ⊢;rw[<- hm1] at hbo ⊢;by_cases hlt:k<r.body.length
  . obtain ⟨b,off,x,y,rfl,hb,hxk,hxs,htx,p0,p1,p2⟩:=jao.at_ (HU.o.ext hx) hlt
    obtain⟨E,g,rfl,hg1,hg2⟩:=jaa.form htx;have hx3:=HPL.o x (List.mem_of_getElem? hxk)
    have hst:r.body.take (k+1)=r.body.take k++[x]:=by
     obtain⟨hk',rfl⟩:=List.getElem?_eq_some_iff.1 hxk;exact List.take_succ_eq_append_getElem hk'
    have hA1:allTo (ja7 [] r.head) (r.body.take (k+1))=ja7 (allTo (ja7 [] r.head) (r.body.take k)) x.atom:=by
     unfold allTo;rw[hst,List.foldl_append];rfl
    have hB1:jdy (r.body.take (k+1))=if x.no then jdy (r.body.take k) else ja7 (jdy (r.body.take k)) x.atom:=by
     unfold jdy;rw[hst,List.foldl_append];rfl
    have HT1:=zh htx;have HA1:=zh hA1;have HN1:=zh hn1;have HM1:=zh hm1;clear hxk htx hst hA1 hn1 hm1;cases hno:x.no
    . have HBB:=zh (show jdy (r.body.take (k+1))=ja7 (jdy (r.body.take k)) x.atom from by rw[hB1,hno];rfl)
      rw[hno] at p0;clear hB1 hno
      go_wp2_with (first
       | (go_at_call 210;have _t:=tok;refine (jg5 (T:=Any) x.atom _ _ (allTo (ja7 [] r.head) (r.body.take k)) _ HT1.o hal.o (by have h:=hlen.o;have h2:=HN1.o;omega)).mono ?_;clear tok _t;rintro e w1 ⟨⟨v1,rfl,hv1⟩,hx1⟩
          have HV2:=zh hv1;have HX2:=zh hx1;obtain⟨hcc,hcf⟩:=hx1.cells;have hz1:=hx1.size;clear hv1)
       | (go_at_call 210;refine (jg5 (T:=Any) x.atom _ _ (jdy (r.body.take k)) _ (HT1.o.ext HX2.o) (StrsR.imp hbo.o (fun _ h=>h) (.of_ext HX2.o) HX2.o.size) (by have h:=hlen.o;have h2:=HM1.o;omega)).mono ?_;rintro e w2 ⟨⟨v2,rfl,hv2⟩,hx2⟩
          have HV3:=zh hv2;have HX3:=zh hx2;clear hv2))
      go_roundw
      case rel =>
       have h1:=jep (allTo (ja7 [] r.head) (r.body.take k)) x.atom;have h2:=jep (jdy (r.body.take k)) x.atom;have h3:=hlen.o;have h4:=HN1.o;have h5:=HM1.o;exact⟨k+1,by omega,by go_num,zh (by rw[HA1.o];exact StrsR.imp HV2.o (fun _ h=>h) (.of_ext HX3.o) HX3.o.size),zh (by rw[HBB.o];exact HV3.o),zh ⟨by rw[HA1.o];omega,by rw[HBB.o];omega⟩,(hx.t HX2.o).t HX3.o⟩
      case measure=>simp[intOf];omega
    have HBB:=zh (show jdy (r.body.take (k+1))=jdy (r.body.take k) from by rw[hB1,hno];rfl);rw[hno] at p0;clear hB1 hno
    go_wp2_with (first
     | (go_at_call 210;refine (jg5 (T:=Any) x.atom _ _ (allTo (ja7 [] r.head) (r.body.take k)) _ HT1.o hal.o (by have h:=hlen.o;have h2:=HN1.o;omega)).mono ?_;rintro e w1 ⟨⟨v1,rfl,hv1⟩,hx1⟩
        have HV2:=zh hv1;have HX2:=zh hx1;obtain⟨hcc,hcf⟩:=hx1.cells;have hz1:=hx1.size;clear hv1))
    go_roundw
    case rel =>
     have h1:=jep (allTo (ja7 [] r.head) (r.body.take k)) x.atom;have h3:=hlen.o;have h4:=HN1.o;have h5:=HM1.o;exact⟨k+1,by omega,by go_num,zh (by rw[HA1.o];exact HV2.o),zh (by rw[HBB.o];exact StrsR.imp hbo.o (fun _ h=>h) (.of_ext HX2.o) HX2.o.size),zh ⟨by rw[HA1.o];omega,by rw[HBB.o];omega⟩,hx.t HX2.o⟩
    case measure=>simp[intOf];omega
  have hall:r.body.take k=r.body:=List.take_of_length_le (by omega);rw[hall] at hn1 hm1;have HF:=zh (show jca r=(n1 == m1) from by rw[HT.o,hn1,hm1];rfl);clear hn1 hm1 hlen hal hbo hall;go_wp2;go_ret;refine⟨ja6 ?_,((Ext.refl _).alloc _).t hx⟩;rw[HF.o,Bool.eq_iff_iff];simp;omega
theorem jtr (r:GR) (v u:Value) (w:World) {S T:Nat->Prop} (hs:r.head.n.size<=maxLen) (hv:jad S w v r.head.args) (hu:jao T w u r.body) (hok:jba r=true) :
  Calls Tryz.prog 158 #[.agg #[.string r.head.n,v,u]] w fun e w'=>e=.returned (.bool (jca r))/\Ext w w':=by
 refine jtq r v u w hs hv hu ?_;unfold jba at hok;simp only[Bool.and_eq_true,List.all_eq_true,decide_eq_true_eq] at hok;have h1:=(jck hok.2.1).2.1;exact⟨by omega,hok.2.2,fun p hp=>(jck (hok.1 p hp)).2.1⟩
theorem jrh:∀ {ns:List ByteArray} {k:Nat} {x:ByteArray},ns[k]? = some x->(∀ i y,i<k->ns[i]? = some y->y≠x)->idxB ns x=some k
 | y :: l,0,x,h,_=>by
   have:y=x:=by simpa using h
   unfold idxB;rw[if_pos this]
 | y :: l,k+1,x,h,hl=>by
   have hx:l[k]? = some x:=by simpa using h
   have hne:¬ y=x:=hl 0 y (Nat.succ_pos _) rfl;unfold idxB;rw[if_neg hne,jrh hx (fun i z hi hz=>hl (i+1) z (by omega) (by simpa using hz))];rfl
theorem jyl {ns:List ByteArray} {x:ByteArray} (h:∀ i y,i<ns.length->ns[i]? = some y->y≠x):idxB ns x=none:=by
 cases hi:idxB ns x with
 | none=>rfl
 | some i=>exact absurd rfl (h i x (jc9 hi) (jd6 hi))
theorem jhr (b:LB) (v u:Value) (x:ByteArray) (w:World) {S T:Nat->Prop} (hv:StrsR S w v b.ns) (hu:StrsR T w u b.vs) (hok:b.ok) :
  Calls Tryz.prog 164 #[.agg #[v,u],.string x] w fun e w'=>e=.returned (.tuple #[.string ((b.get x).getD jq8),.bool (b.get x).isSome])/\Ext w w':=by
 obtain⟨A,c,rfl,hc1,hc2⟩:=jaa.form hv;obtain⟨B,d,rfl,hd1,hd2⟩:=jaa.form hu;have hx0:=(Ext.refl w).alloc (.cells #[.slice A b.ns.length c,.slice B b.vs.length d] 204);have HV:=zh (hv.ext hx0);have HU:=zh (hu.ext hx0);have HB:=zh (Blk.new w 204 #[.slice A b.ns.length c,.slice B b.vs.length d]);have HX0:=zh hx0;have HOK:=zh hok;clear hv hu hx0 hok
 go_in;go_wp2;go_loopw [6] (fun i wr=>∃ k:Nat,k<=b.ns.length/\i=.int .i64 k/\J1 (∀ i y,i<k->b.ns[i]? = some y->y≠x)/\Ext (w.alloc (.cells #[.slice A b.ns.length c,.slice B b.vs.length d] 204)) wr) (fun i _=>b.ns.length-(intOf i).toNat)
 case atStart=>exact⟨0,Nat.zero_le _,rfl,zh (fun i y h=>absurd h (Nat.not_lt_zero _)),Ext.refl _⟩
 case round =>
  obtain⟨k,hk,rfl,hp,hx⟩:=hrel;have hk0:(0:Int)<=(k:Int):=by omega
  have hb1:=HB.o.ext hx;have q0:=hb1.cell 0;have q1:=hb1.cell 1;have hl:=hb1.lt;clear hb1;by_cases hlt:k<b.ns.length
  . have hk1:(k:Int)<(b.ns.length:Int):=by omega
    have hk3:k<b.vs.length:=by have h:=HOK.o;unfold LB.ok at h;omega
    have hk2:(k:Int)<(b.vs.length:Int):=by omega
    obtain⟨bb,off,y,rfl,hbb,hyk,hys,hc⟩:=StrsR.at_ (HV.o.ext hx) hlt;obtain⟨bc,off2,z,rfl,hbc,hzk,hzs,hc2'⟩:=StrsR.at_ (HU.o.ext hx) (k:=k) hk3;by_cases hyx:y=x
    . subst hyx
      have h3:(y.toList == y.toList)=true:=beq_self_eq_true _;have HG:=zh (show b.get y=some z from by unfold LB.get;rw[jrh hyk hp.o];exact hzk);clear hyk hzk hp;go_wp2;go_ret2;rw[HG.o];exact⟨rfl,HX0.o.t hx⟩
    have h3:(y.toList == x.toList)=false:=jdh hyx
    have HP:=zh (show ∀ i u,i<k+1->b.ns[i]? = some u->u≠x from fun i u hi hu=>by
     rcases Nat.lt_or_ge i k with h|h
     . exact hp.o i u h hu
     have e:i=k:=by omega
     subst e;rw[hyk] at hu;injection hu with hu
     exact fun e=>hyx (hu.trans e))
    clear hyk hzk hp hyx;go_wp2;go_roundw
    case rel=>exact⟨k+1,by omega,by go_num,HP,hx⟩
    case measure=>simp[intOf];omega
  have HG:=zh (show b.get x=none from by
    unfold LB.get;rw[jyl (fun i y hi hy=>hp.o i y (by omega) hy)])
  clear hp;go_wp2;go_ret2;rw[HG.o];exact⟨rfl,HX0.o.t hx⟩
end Go.Proofs.YthiflhkcpanaaaaGreatDoor
