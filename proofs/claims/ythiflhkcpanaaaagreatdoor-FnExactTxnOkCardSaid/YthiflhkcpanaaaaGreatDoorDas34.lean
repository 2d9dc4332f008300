/- Own texts, joined. -/
import Derived.Shelf.SlSortCmp.WholeK
import Derived.Test.YthiflhkcpanaaaaGreatDoorDas33
set_option linter.unusedSimpArgs false
set_option linter.unusedVariables false
set_option maxHeartbeats 4000000
set_option maxRecDepth 100000
namespace Go.Proofs
open Go.Shelf
def Tryz.laysAtoms_ren:Go.Shelf.Ren:=⟨fun|6=>245|15=>223|14=>287|28=>269|29=>270|20=>308|21=>309|22=>310|23=>311|24=>312|25=>313|26=>314|27=>315|46=>326|47=>299|48=>300|49=>327|50=>328|57=>342|n=>n,fun|22=>24|24=>69|25=>164|3=>3|39=>260|0=>0|53=>309|55=>311|4=>4|46=>303|45=>302|50=>227|5=>5|9=>9|66=>337|70=>341|76=>354|77=>355|n=>n,fun|n=>n⟩
theorem Tryz.laysAtoms:Go.Proofs.SlLaysF0.n6 Tryz.prog Tryz.laysAtoms_ren:= {
 mixed:=by kernel_rfl
 f6:=⟨Tryz.f245.name,by decide,Tryz.func245.trans (congrArg some (by kernel_rfl))⟩
 f14:=⟨Tryz.f287.name,by decide,Tryz.func287.trans (congrArg some (by kernel_rfl))⟩
 f15:=Tryz.func223.trans (congrArg some (by kernel_rfl))
 f20:=⟨Tryz.f308.name,by decide,Tryz.func308.trans (congrArg some (by kernel_rfl))⟩
 f21:=⟨Tryz.f309.name,by decide,Tryz.func309.trans (congrArg some (by kernel_rfl))⟩
 f22:=⟨Tryz.f310.name,by decide,Tryz.func310.trans (congrArg some (by kernel_rfl))⟩
 f23:=⟨Tryz.f311.name,by decide,Tryz.func311.trans (congrArg some (by kernel_rfl))⟩
 f24:=⟨Tryz.f312.name,by decide,Tryz.func312.trans (congrArg some (by kernel_rfl))⟩
 f25:=⟨Tryz.f313.name,by decide,Tryz.func313.trans (congrArg some (by kernel_rfl))⟩
 f26:=⟨Tryz.f314.name,by decide,Tryz.func314.trans (congrArg some (by kernel_rfl))⟩
 f27:=⟨Tryz.f315.name,by decide,Tryz.func315.trans (congrArg some (by kernel_rfl))⟩
 f28:=Tryz.func269.trans (congrArg some (by kernel_rfl))
 f29:=Tryz.func270.trans (congrArg some (by kernel_rfl))
 f46:=⟨Tryz.f326.name,by decide,Tryz.func326.trans (congrArg some (by kernel_rfl))⟩
 f47:=Tryz.func299.trans (congrArg some (by kernel_rfl))
 f48:=Tryz.func300.trans (congrArg some (by kernel_rfl))
 f49:=⟨Tryz.f327.name,by decide,Tryz.func327.trans (congrArg some (by kernel_rfl))⟩
 f50:=⟨Tryz.f328.name,by decide,Tryz.func328.trans (congrArg some (by kernel_rfl))⟩
 f57:=⟨Tryz.f342.name,by decide,Tryz.func342.trans (congrArg some (by kernel_rfl))⟩
 t0:=Tryz.underlying0
 a0:=Tryz.isAgg0
 z0:=Tryz.sizeOf0
 v0:=Tryz.zeroValue0
 t3:=Tryz.underlying3
 a3:=Tryz.isAgg3
 z3:=Tryz.sizeOf3
 v3:=Tryz.zeroValue3
 t4:=Tryz.underlying4
 a4:=Tryz.isAgg4
 z4:=Tryz.sizeOf4
 v4:=Tryz.zeroValue4
 t5:=Tryz.underlying5
 a5:=Tryz.isAgg5
 z5:=Tryz.sizeOf5
 v5:=Tryz.zeroValue5
 t9:=Tryz.underlying9
 a9:=Tryz.isAgg9
 z9:=Tryz.sizeOf9
 v9:=Tryz.zeroValue9
 t22:=Tryz.underlying24
 a22:=Tryz.isAgg24
 z22:=Tryz.sizeOf24
 v22:=Tryz.zeroValue24
 t25:=Tryz.underlying164
 a25:=Tryz.isAgg164
 z25:=Tryz.sizeOf164
 v25:=Tryz.zeroValue164
 t39:=Tryz.underlying260
 a39:=Tryz.isAgg260
 z39:=Tryz.sizeOf260
 v39:=Tryz.zeroValue260
 t45:=Tryz.underlying302
 a45:=Tryz.isAgg302
 z45:=Tryz.sizeOf302
 v45:=Tryz.zeroValue302
 t46:=Tryz.underlying303
 a46:=Tryz.isAgg303
 z46:=Tryz.sizeOf303
 v46:=Tryz.zeroValue303
 t50:=Tryz.underlying227
 a50:=Tryz.isAgg227
 z50:=Tryz.sizeOf227
 v50:=Tryz.zeroValue227
 t53:=Tryz.underlying309
 a53:=Tryz.isAgg309
 z53:=Tryz.sizeOf309
 v53:=Tryz.zeroValue309
 t55:=Tryz.underlying311
 a55:=Tryz.isAgg311
 z55:=Tryz.sizeOf311
 v55:=Tryz.zeroValue311
 t66:=Tryz.underlying337
 a66:=Tryz.isAgg337
 z66:=Tryz.sizeOf337
 v66:=Tryz.zeroValue337
 t70:=Tryz.underlying341
 a70:=Tryz.isAgg341
 z70:=Tryz.sizeOf341
 v70:=Tryz.zeroValue341
 t76:=Tryz.underlying354
 a76:=Tryz.isAgg354
 z76:=Tryz.sizeOf354
 v76:=Tryz.zeroValue354
 t77:=Tryz.underlying355
 a77:=Tryz.isAgg355
 z77:=Tryz.sizeOf355
 v77:=Tryz.zeroValue355 }
end Go.Proofs
namespace Go.Proofs.YthiflhkcpanaaaaGreatDoor
open Go.RowKit
def Gw (w w':World):Prop:=∃ q os,w'=Sort.grow (w.drewN q) os
theorem Gw.refl (w:World):Gw w w:=⟨0,#[],by rw[Sort.grow_empty];rfl⟩
theorem Gw.alloc {a w:World} (h:Gw a w) (o:Obj):Gw a (w.alloc o):=by
 obtain⟨q,os,rfl⟩:=h;exact⟨q,os++ #[o],by rw[Sort.alloc_eq_grow,Sort.grow_grow]⟩
theorem Gw.t {a b c:World} (h:Gw a b) (k:Gw b c):Gw a c:=by
 obtain⟨q,os,rfl⟩:=h;obtain⟨p,os',rfl⟩:=k;refine⟨q+p,os++os',?_⟩;unfold Sort.grow World.drewN;simp[Nat.add_assoc,Array.append_assoc]
theorem Gw.ext {a b:World} (h:Gw a b):Ext a b:=by
 obtain⟨q,os,rfl⟩:=h;refine⟨rfl,rfl,rfl,?_,fun k hk=>?_⟩
 . show a.heap.size<=(a.heap++os).size
   rw[Array.size_append];omega
 show (a.heap++os)[k]? = a.heap[k]?;rw[Array.getElem?_append_left hk]
theorem jk4 (s t:GT) (w:World) :
  Calls Tryz.prog 240 #[.agg #[.bool s.v,.string s.n],.agg #[.bool t.v,.string t.n]] w fun e w'=>e=.returned (.int .i64 (cmpS s.n t.n))/\Gw w w':=by
 go_in;go_wp2_with (go_at_call 238;refine (jdu _ _ _).mono ?_;rintro e w1 ⟨rfl,rfl⟩)
 go_ret;exact⟨rfl,((Gw.refl _).alloc _).alloc _⟩
theorem js5 (v u:Value) (xs ys:List GT) (w:World) {S T:Nat->Prop} (hv:jad S w v xs) (hu:jad T w u ys) :
  Calls Tryz.prog 239 #[v,u,.func (.func 240) #[] #[]] w fun e w'=>e=.returned (.int .i64 (jdf xs ys))/\Gw w w':=by
 obtain⟨A,c,rfl,hc1,hc2⟩:=jaa.form hv;obtain⟨B,d,rfl,hd1,hd2⟩:=jaa.form hu;have HV:=zh hv;have HU:=zh hu;clear hv hu
 go_in;go_wp2;go_loopw [13] (fun i wr=>∃ k:Nat,(k<=xs.length/\k<=ys.length)/\i=.int .i64 k/\J1 (jdf xs ys=jdr xs ys k 0)/\Gw w wr) (fun i _=>xs.length-(intOf i).toNat)
 case atStart=>exact⟨0,⟨Nat.zero_le _,Nat.zero_le _⟩,rfl,jkg _ _,Gw.refl _⟩
 case round =>
  obtain⟨k,⟨hk1,hk2⟩,rfl,hz,hg0⟩:=hrel;have hx:=hg0.ext;have HG:=zh hg0;clear hg0;by_cases h1:k<xs.length
  . obtain ⟨ba,offa,x,rfl,hba,hxk,hxs,hx0,hx1⟩:=jad.at_ (HV.o.ext hx) h1
    by_cases h2:k<ys.length
    . obtain ⟨bb,offb,y,rfl,hbb,hyk,hys,hy0,hy1⟩:=jad.at_ (HU.o.ext hx) h2
      have HZ:=zh (hz.o.trans (jgb hxk hyk));have hg:decide (ys.length<=k)=false:=decide_eq_false (by omega);clear hxk hyk hz;by_cases hq:cmpS x.n y.n=0
      . have HQ:=zh (show jdf xs ys=jdr xs ys (k+1) 0 from by rw[HZ.o,hq])
        have HC:∀ W:World,Calls Tryz.prog 240 #[.agg #[.bool x.v,.string x.n],.agg #[.bool y.v,.string y.n]] W fun e w'=>e=.returned (.int .i64 0)/\Gw W w':=fun W=>by
         have:=jk4 x y W;rw[hq] at this;exact this
        have HC:=zh HC;clear hq;go_wp2_with (go_at_call 240;refine (HC.o _).mono ?_;rintro e w1 ⟨rfl,hw1⟩)
        go_roundw
        case rel=>exact⟨k+1,⟨by omega,by omega⟩,by go_num,HQ,((HG.o.alloc _).alloc _).t hw1⟩
        case measure=>simp[intOf];omega
      have HQ:=zh (HZ.o.trans (jgc hq));have hq1:((cmpS x.n y.n:Int) != 0)=true:=by simp[hq]
      have hq2:((cmpS x.n y.n:Int) == 0)=false:=by simp[hq]
      clear hq;go_wp2_with (go_at_call 240;refine (jk4 x y _).mono ?_;rintro e w1 ⟨rfl,hw1⟩)
      go_ret;exact⟨by rw[HQ.o];rfl,((HG.o.alloc _).alloc _).t hw1⟩
    have HZ:=zh (hz.o.trans (jds (.inr (by omega)) ⟨hk1,hk2⟩));have hl:ys.length<xs.length:=by omega
    have hg:decide (ys.length<=k)=true:=decide_eq_true (by omega);clear hxk hz;go_wp2;go_ret;exact⟨by rw[HZ.o,if_neg (by omega),if_pos hl];rfl,HG.o.alloc _⟩
  have HZ:=zh (hz.o.trans (jds (.inl (by omega)) ⟨hk1,hk2⟩));clear hz;by_cases hl:xs.length<ys.length
  . go_wp2
    go_ret;exact⟨by rw[HZ.o,if_pos hl];rfl,HG.o⟩
  go_wp2;go_ret;exact⟨by rw[HZ.o,if_neg (by omega),if_neg (by omega)];rfl,HG.o⟩
theorem jxz (a b:GA) (v u:Value) (w:World) {S T:Nat->Prop} (hv:jad S w v a.args) (hu:jad T w u b.args) :
  Calls Tryz.prog 194 #[.agg #[.string a.n,v],.agg #[.string b.n,u]] w fun e w'=>e=.returned (.int .i64 (cmpA a b))/\Gw w w':=by
 obtain⟨A,c,rfl,hc1,hc2⟩:=jaa.form hv;obtain⟨B,d,rfl,hd1,hd2⟩:=jaa.form hu;have HV:=zh (hv.ext (((Ext.refl w).alloc (.cells #[.string a.n,.slice A a.args.length c] 69)).alloc (.cells #[.string b.n,.slice B b.args.length d] 69)));have HU:=zh (hu.ext (((Ext.refl w).alloc (.cells #[.string a.n,.slice A a.args.length c] 69)).alloc (.cells #[.string b.n,.slice B b.args.length d] 69)));clear hv hu;by_cases hq:cmpS a.n b.n=0
 . have HC:∀ W:World,Calls Tryz.prog 238 #[.string a.n,.string b.n] W fun e w'=>e=.returned (.int .i64 0)/\w'=W:=fun W=>by
     have:=jdu a.n b.n W;rw[hq] at this;exact this
   have HC:=zh HC;have HF:=zh (show cmpA a b=jdf a.args b.args from if_pos hq);clear hq
   go_in
   go_wp2_with (first
    | (go_at_call 238;refine (HC.o _).mono ?_;rintro e w1 ⟨rfl,rfl⟩)
    | (go_at_call 239;refine (js5 _ _ a.args b.args _ HV.o HU.o).mono ?_;rintro e w1 ⟨rfl,hx1⟩))
   go_ret;exact⟨by rw[HF.o];rfl,(((Gw.refl _).alloc _).alloc _).t hx1⟩
 have HF:=zh (show cmpA a b=cmpS a.n b.n from if_neg hq);have hq1:((cmpS a.n b.n:Int) != 0)=true:=by simp[hq]
 have hq2:((cmpS a.n b.n:Int) == 0)=false:=by simp[hq]
 clear hq
 go_in;go_wp2_with (go_at_call 238;refine (jdu _ _ _).mono ?_;rintro e w1 ⟨rfl,rfl⟩)
 go_ret;exact⟨by rw[HF.o];rfl,((Gw.refl _).alloc _).alloc _⟩
end Go.Proofs.YthiflhkcpanaaaaGreatDoor
namespace Go.Proofs.YthiflhkcpanaaaaGreatDoor
open Go.RowKit
theorem j1q {α:Type} {c:α->α->Int} (h:Total c) {x y z:α} (h1:¬ c x y<0) (h2:¬ c y z<0):¬ c x z<0:=by
 intro h3;have n1:=h.neg x y;have n2:=h.neg y z;by_cases e:c x y=0
 . rw [(h.eq x y).1 e] at h3
   exact h2 h3
 exact h2 (h.trans y x z (by omega) h3)
theorem j2h {x y z:GA} (h1:¬ cmpA x y<0) (h2:¬ cmpA y z<0):¬ cmpA x z<0:=by
 rw[jfq] at *;exact j1q (jgl jb3) h1 h2
theorem jna {α:Type} [Inhabited α] (enc:α->List Value) (k:Nat) (w:World) (g o m:Nat) (d:Array α) (os:Array Obj) {b:Nat} (hb:b<w.heap.size) (hne:b≠g):(sortWorldK enc k w g o m d os).heap[b]? = w.heap[b]? :=by
 unfold sortWorldK Sort.putRowK;rw[Sort.heap_grow_old _ _ (by rw[Sort.size_putRow];exact hb)];show ((Sort.ahead w m).heap.modify g _)[b]? = _;rw[Array.getElem?_modify,if_neg (fun e=>hne e.symm)]
 rfl
theorem jo1 {α:Type} [Inhabited α] (enc:α->List Value) (k:Nat) (w:World) (g o m:Nat) (d:Array α) (os:Array Obj):w.heap.size<=(sortWorldK enc k w g o m d os).heap.size:=by
 unfold sortWorldK Sort.putRowK;rw[Sort.size_grow,Sort.size_putRow];show w.heap.size<=w.heap.size+_;omega
theorem jk5 {α:Type} [Inhabited α] (enc:α->List Value) (k:Nat) (w:World) (g o m:Nat) (d:Array α) (os:Array Obj):jac (fun b=>b=g) w (sortWorldK enc k w g o m d os) :=
 ⟨rfl,rfl,rfl,jo1 _ _ _ _ _ _ _ _,fun b hb hne=>jna _ _ _ _ _ _ _ _ hb hne⟩
open Go.Lib Go.Sort in
theorem jx0 {α:Type} [Inhabited α] (enc:α->List Value) (hk:∀ x,(enc x).length=2) (h1:∀ x,∀ v∈enc x,v.oneCell'=true) (cf:α->α->Int) (hO:SWO (ltOf cf)) (g:Nat) (cb:Array Value) (blk off cap:Nat) (d:Array α) (w:World)
  (eg:∀ args w,(callFunc g args).run Tryz.prog w=.ok (.enter g args) w) (hcmp:CmpLays Tryz.prog g cb enc 2 cf blk off d.size w) (hH:HoldsK enc 2 w blk off d) (hblk:blk<w.heap.size) (hsz:d.size<4611686018427387904) :
  Calls Tryz.prog 245 #[.slice (some ⟨blk,off,none⟩) d.size cap,.func (.func g) #[] cb] w fun e w' =>
   e=.returned (.tuple #[])/\∃ d' n os,PermIn 0 d.size d d'/\SortedIn (ltOf cf) 0 d.size d'/\w'=sortWorldK enc 2 w blk off n d' os :=
 AnyQ.slices_SortFunc Tryz.laysAtoms 2 Tryz.isAgg69 Tryz.sizeOf69 enc hk h1 cf hO g cb blk off cap d w eg hcmp hH hblk hsz
theorem jnb (p:Option Addr) (cap:Nat) (fv:Value) (w:World) :
 Calls Tryz.prog 245 #[.slice p 0 cap,fv] w fun e w'=>e=.returned (.tuple #[])/\w'=w:=AnyF.slices_SortFunc_none Tryz.laysAtoms p cap fv w
theorem jql (xs:List GA) (v:Value) (w:World) {base:Nat} {e:TypeId} {S:Nat->Prop} (ho:OwnK kAtom base e S w v xs) (hl:xs.length<4611686018427387904) :
  Calls Tryz.prog 245 #[v,.func (.func 194) #[] #[]] w fun e w'=>e=.returned (.tuple #[]) /\
   (∃ l:List GA,l.Perm xs/\l.Pairwise (fun a b=>cmpA a b<=0)/\jab (fun b=>S b∨v.ownBlock=some b) w' v l)/\jac (fun b=>v.ownBlock=some b) w w':=by
 by_cases hne:xs=[]
 . subst hne
   obtain⟨A,n,c,rfl,hn,hc1,hc2⟩:=ho.form2;obtain rfl:n=0:=hn.o;refine (jnb A c _ w).mono fun e w' ⟨h1,h2⟩=>⟨h1,⟨[],.refl _,List.Pairwise.nil,jaa.nil_ c hc2 A⟩,?_⟩
   rw[h2];exact jac.refl _ _
 obtain⟨rws,T,k1,k2,k3,k4⟩:=ho;have hpos:0<xs.length:=List.length_pos_iff.2 hne;rcases k1.2 with ⟨rfl,h0⟩|⟨g,cap,cur,rfl,hb,hc,h2,h3,h4,h5⟩
 . omega
 have hblk:Blk w g e cur:=hc
 haveI:Inhabited (Fin xs.length):=⟨⟨0,hpos⟩⟩
 have hval:∀ i:Fin xs.length,∃ l:List Value,l.length=2/\(∀ (j:Nat) (u:Value),l[j]? = some u->rws[i.val*2+j]? = some u)/\AtomE T w l (xs[i.val]'i.isLt):=fun i=>k2.2 i.val _ (List.getElem?_eq_getElem i.isLt)
 obtain⟨enc,henc⟩:∃ enc:Fin xs.length->List Value,∀ i,(enc i).length=2/\(∀ (j:Nat) (u:Value),(enc i)[j]? = some u->rws[i.val*2+j]? = some u)/\AtomE T w (enc i) (xs[i.val]'i.isLt):=⟨fun i=>(hval i).choose,fun i=>(hval i).choose_spec⟩
 have hone:∀ i,∀ u∈enc i,u.oneCell'=true:=fun i=>kAtom.one (henc i).2.2
 obtain⟨cf,hcf⟩:∃ cf:Fin xs.length->Fin xs.length->Int,cf=fun i j=>cmpA (xs[i.val]'i.isLt) (xs[j.val]'j.isLt):=⟨_,rfl⟩
 have hO:Sort.SWO (ltOf cf):=by
  rw[hcf];refine⟨fun x=>?_,fun x y z h1 h2=>?_,fun x y z h1 h2=>?_⟩
  . unfold ltOf
    show decide (cmpA (xs[x.val]'x.isLt) (xs[x.val]'x.isLt)<0)=false;rw[(jja _ _).2 rfl];rfl
  . exact decide_eq_true (jdw (of_decide_eq_true h1) (of_decide_eq_true h2))
  exact decide_eq_false (j2h (of_decide_eq_false h1) (of_decide_eq_false h2))
 have hd:(Array.ofFn (n:=xs.length) id).size=xs.length:=by simp
 have hH:Sort.HoldsK enc 2 w g 0 (Array.ofFn (n:=xs.length) id):=fun j hj=>by
  have hj':j<xs.length*2:=by rw[Sort.size_flatK,hd] at hj;exact hj
  refine⟨?_,hblk.frozen _⟩;have hq:j / 2<xs.length:=by omega
  rw[Sort.get_flatK _ _ _ _ (by rw[hd];exact hj'),show (Array.ofFn (n:=xs.length) id)[j / 2]! = ⟨j / 2,hq⟩ from by simp[getElem!_pos,hq]];have hl2:=(henc ⟨j / 2,hq⟩).1;have h6:=(henc ⟨j / 2,hq⟩).2.1 (j % 2) _ (List.getElem?_eq_getElem (by omega));rw[show (⟨j / 2,hq⟩:Fin xs.length).val*2+j % 2=j from by show j / 2*2+j % 2=j;omega,<- h5,List.getElem?_take] at h6;rw[getElem!_pos _ _ (by omega)];split at h6
  . rw [hblk.cell,Nat.zero_add]
    simpa using h6
  cases h6
 have hcmp:CmpLays Tryz.prog 194 #[] enc 2 cf g 0 (Array.ofFn (n:=xs.length) id).size w:=fun m dk os _ x y=>by
  have key:∀ z:Fin xs.length,∃ u,enc z=[.string (xs[z.val]'z.isLt).n,u]/\jad Any (sortWorldK enc 2 w g 0 m os dk) u (xs[z.val]'z.isLt).args:=fun z=>by
   obtain⟨u,hu1,hu2,hu3⟩:=(henc z).2.2;exact⟨u,hu1,hu3.impL (fun _ _ _=>trivial) (fun b hb hlt=>jna enc 2 w g 0 m os dk hlt (fun e=>k4 g rfl (e▸hb))) (jo1 enc 2 w g 0 m os dk)⟩
  obtain⟨u1,e1,t1⟩:=key x;obtain⟨u2,e2,t2⟩:=key y;have hc:=jxz (xs[x.val]'x.isLt) (xs[y.val]'y.isLt) u1 u2 (sortWorldK enc 2 w g 0 m os dk) t1 t2;rw[e1,e2];refine hc.mono fun e w' ⟨h1,h2⟩=>⟨by rw[h1,hcf],h2⟩
 have eg:∀ args w,(callFunc 194 args).run Tryz.prog w=.ok (.enter 194 args) w:=enters_of Tryz.func194 (by kernel_rfl) (by rfl);have hmain:=jx0 enc (fun i=>(henc i).1) hone cf hO 194 #[] g 0 cap (Array.ofFn (n:=xs.length) id) w eg hcmp hH hblk.lt (by rw[hd];exact hl);rw[hd] at hmain;refine hmain.mono fun e' w' ⟨he,d',m,os,hp,hs,hw⟩=>⟨he,?_,?_⟩
 . have hsz:d'.size=xs.length:=by rw[hp.1,hd]
   have hperm:d'.toList.Perm (List.finRange xs.length):=by
    have h:=hp.2.2
    rw [show d'.extract 0 xs.length=d' from by
     have:d'.extract 0 d'.size=d':=by simp
     rwa [hsz] at this,show (Array.ofFn (n:=xs.length) id).extract 0 xs.length=Array.ofFn (n:=xs.length) id from by
     have:(Array.ofFn (n:=xs.length) id).extract 0 (Array.ofFn (n:=xs.length) id).size=Array.ofFn (n:=xs.length) id:=by simp
     rwa [hd] at this] at h
    rw[Array.toList_ofFn] at h;exact h
   have hH2:Sort.HoldsK enc 2 w' g 0 d':=by
    rw[hw];unfold sortWorldK;exact Sort.holdsK_grow _ _ _ _ _ _ _ (by unfold Sort.putRowK;rw[Sort.size_putRow];exact hblk.lt) (Sort.holdsK_putRowK _ _ _ _ _ _ _ (Sort.holdsK_ahead _ _ _ _ _ _ _ hH) (by rw[hsz,hd]))
   have hin:jac (fun b=>b=g) w w':=by rw[hw];exact jk5 _ _ _ _ _ _ _ _
   refine⟨d'.toList.map fun i=>xs[i.val]'i.isLt,?_,?_,?_⟩
   . have h:=hperm.map (fun i:Fin xs.length=>xs[i.val]'i.isLt)
     have e:(List.finRange xs.length).map (fun i:Fin xs.length=>xs[i.val]'i.isLt)=xs:=by
      apply List.ext_getElem?
      intro i;by_cases hi:i<xs.length
      . simp[hi]
      rw[List.getElem?_eq_none (by simp;omega),List.getElem?_eq_none (by omega)]
     rwa [e] at h
   . rw [List.pairwise_map,List.pairwise_iff_getElem]
     intro i j hi hj hij;have hi':i<d'.size:=by simpa using hi
     have hj':j<d'.size:=by simpa using hj
     have h:=hs i j (Nat.zero_le _) hij (by omega);rw[getElem!_pos d' j hj',getElem!_pos d' i hi'] at h;have h:=of_decide_eq_false h;rw[hcf] at h;have n1:=jec (xs[(d'[j]).val]'(d'[j]).isLt) (xs[(d'[i]).val]'(d'[i]).isLt);simp only[Array.getElem_toList] at h n1 ⊢;omega
   have hlen:(d'.toList.map fun i=>xs[i.val]'i.isLt).length=xs.length:=by simp[hsz]
   refine⟨some ⟨g,0,none⟩,cap,by rw[hlen],by rw[hlen];exact h2,h3,fun _=>⟨g,0,rfl,Nat.lt_of_lt_of_le hblk.lt hin.size,.inr rfl,fun k x hx=>?_⟩⟩;rw[List.getElem?_map] at hx;obtain⟨i,hi,rfl⟩:=Option.map_eq_some_iff.1 hx;obtain⟨a1,a2⟩:=List.getElem?_eq_some_iff.1 hi;have hk:k<d'.size:=by simpa using a1
   simp only[Array.getElem_toList] at a2;refine⟨enc i,(henc i).1,fun j u hu=>?_,?_⟩
   . have hj:j<2:=by rw[<- (henc i).1];exact (List.getElem?_eq_some_iff.1 hu).1
     have h:=(Sort.HoldsK.cell hH2 hk hj).1;rw[getElem!_pos d' k hk,a2] at h;rw[show 0+(k*2+j)=0+k*2+j by omega];show w'.cell? ⟨g,0+k*2+j,none⟩=some u;rw[h,getElem!_pos _ _ (by rw[(henc i).1];exact hj)];rw[List.getElem?_eq_getElem (by rw[(henc i).1];exact hj)] at hu;exact hu
   exact kAtom.imp (henc i).2.2 (fun b hb _=>.inl (k3 b hb).1) (fun b hb hlt=>hin.block b hlt (fun e=>k4 g rfl (e▸hb))) hin.size
 rw[hw]
 exact (jk5 enc 2 w g 0 m d' os).sub (fun b hb _=>by
  have hb2:b=g:=hb;rw[hb2];rfl)
theorem jd2.flag {rules:List GR} {xs:List GA} {w:World} {e:Ending} {w':World} (h:jd2 rules xs w e w'):∃ p,e=.returned (.tuple #[.pointer p,.bool (fineB rules xs)]):=by
 unfold jd2 at h;unfold fineB
 cases hok:jbm rules xs with
 | false =>
   rw[hok] at h;exact⟨_,h⟩
 | true =>
   rw[hok,if_pos rfl] at h;have hs:=jmw hok;unfold jvx at hs
   cases hst:jf5 rules (jap rules) rules.length 0 ⟨xs,List.replicate xs.length 0,0⟩ with
   | none =>
     rw[hst] at h hs;have hs:(runN rules xs).2=false:=hs;rw[hs];exact⟨_,h⟩
   | some s =>
     rw[hst] at h hs;obtain⟨hs,_,_⟩:=hs;obtain⟨base,sb,mb,pb,nm,np,fv,rv,f,S,T,he,_⟩:=h;rw[hs];exact⟨_,he⟩
theorem jnc (B:GB) (xs:List GA) (v u:Value) (w:World) {S T:Nat->Prop} (hv:BaseR S w v B) (hu:jab T w u xs) (he:ErrIs w) :
  Calls Tryz.prog 62 #[v,u] w fun e w'=>e=.returned (.bool (fineB B.rules xs))/\Ext w w':=by
 obtain⟨A1,c1,A2,c2,A3,c3,rfl⟩:=hv.form;obtain⟨D,d,rfl,hd1,hd2⟩:=jaa.form hu
 have HRU:J1 (∃ Z:Nat->Prop,jam Z w (.slice A1 B.rules.length c1) B.rules):=zh (by
  obtain⟨p,q,r,h1,h2,_,_⟩:=hv;injection h1 with h1
  simp only[Array.mk.injEq,List.cons.injEq] at h1;exact⟨_,by rw[h1.1];exact h2⟩)
 have HB:=zh (Blk.new w 27 #[.slice A1 B.rules.length c1,.int .i64 B.time,.slice A2 B.given.length c2,.slice A3 B.hist.length c3]);have hx:Ext w (w.alloc (.cells #[.slice A1 B.rules.length c1,.int .i64 B.time,.slice A2 B.given.length c2,.slice A3 B.hist.length c3] 27)):=(Ext.refl _).alloc _
 have HS:=zh (by
  obtain⟨Z,hz⟩:=HRU.o;exact jk3 B.rules xs _ _ _ (hz.ext hx) (hu.ext hx) (he.ext hx))
 have HX:=zh hx;obtain⟨fb,hfb⟩:=nm (fineB B.rules xs);have HFB:=zh hfb;rw[<- hfb];clear hv hu he hx HRU hfb
 go_in
 go_wp2_with (first
  | (go_at_call 128;refine HS.o.mono ?_;rintro e w1 ⟨hs1,hx1⟩;obtain⟨p,hp⟩:=hs1.flag;rw[<- HFB.o] at hp;subst hp;clear hs1)
  | fail)
 go_ret;exact⟨rfl,HX.o.t hx1⟩
theorem js6 (rules:List GR) (xs:List GA) (v u:Value) (w:World) {S T:Nat->Prop} (hv:jam S w v rules) (hu:jab T w u xs) (he:ErrIs w) :
  Calls Tryz.prog 202 #[v,u] w fun e w'=>(∃ r,e=.returned (.tuple #[r,.bool (fineB rules xs)])/\jab Any w' r (evalL rules xs))/\Ext w w':=by
 obtain⟨A,c,rfl,hc1,hc2⟩:=jaa.form hv;obtain⟨B,d,rfl,hd1,hd2⟩:=jaa.form hu;have HS:=zh (jk3 rules xs _ _ w hv hu he);clear hv hu he
 have key:(fineB rules xs=false/\evalL rules xs=[]/\∀ e w',jd2 rules xs w e w'->e=.returned (.tuple #[.pointer none,.bool false])) ∨
   (fineB rules xs=true/\∀ e w',jd2 rules xs w e w'->∃ (s:ST) (base sb mb pb nm np:Nat) (fv rv:Value) (f:Value->Value) (S T:Nat->Prop),e=.returned (.tuple #[.pointer (some ⟨sb,0,none⟩),.bool true]) /\
    ja2 base S T w' sb mb pb fv rv f s.facts s.rounds (jal s.facts) nm (pmOf s.facts) np/\(∀ b,b<w.heap.size->T b)/\s.facts.length<=300/\∀ l:List GA,l.Perm s.facts->l.Pairwise (fun a b=>cmpA a b<=0)->l=evalL rules xs):=by
  unfold jd2 fineB evalL
  cases hok:jbm rules xs with
  | false=>exact .inl ⟨rfl,rfl,fun e w' h=>by simpa using h⟩
  | true =>
    have hs:=jmw hok;have hl:= @j1e rules xs hok;unfold jvx at hs hl;simp only[if_true,Bool.true_and]
    cases hst:jf5 rules (jap rules) rules.length 0 ⟨xs,List.replicate xs.length 0,0⟩ with
    | none =>
      rw[hst] at hs;have hs:(runN rules xs).2=false:=hs;rw[hs];exact .inl ⟨rfl,rfl,fun e w' h=>h⟩
    | some s =>
      rw[hst] at hs;obtain⟨hs,_,h3⟩:=hs;rw[hs];refine .inr ⟨rfl,fun e w' h=>?_⟩;obtain⟨base,sb,mb,pb,nm,np,fv,rv,f,S,T,he,h1,h2,_,_⟩:=h
      exact ⟨s,base,sb,mb,pb,nm,np,fv,rv,f,S,T,he,h1,h2,h3,fun l hp hq=>by
       rw[hl hst hp hq];rfl⟩
 rcases key with ⟨hf,hev,hk⟩|⟨hf,hk⟩
 . rw [hf,hev]
   have HK:=zh hk;clear hf hev hk
   go_in
   go_wp2_with (first
    | (go_at_call 128;refine HS.o.mono ?_;rintro e w1 ⟨hs1,hx1⟩;obtain rfl:=HK.o _ _ hs1;clear hs1)
    | fail)
   go_ret2;exact⟨⟨_,rfl,jaa.nil_ 0 (Nat.zero_le _) none⟩,hx1⟩
 rw[hf];have HK:=zh hk;obtain⟨ev,hev⟩:∃ ev,ev=(evalL rules xs):=⟨_,rfl⟩;rw[<- hev] at HK ⊢;clear hf hk hev
 go_in
 go_wp2_with (first
  | (go_at_call 128;refine HS.o.mono ?_;rintro e w1 ⟨hs1,hx1⟩
     obtain⟨s,base,sb,mb,pb,nm,np,fv,rv,f,S,T,rfl,hst,hT,hsl,hev⟩:=HK.o _ _ hs1;have HO:=zh hst.fa;have HSR:=zh (jql s.facts fv w1 hst.fa (by omega));have HEV:=zh hev;have HB1:=zh hst.blk;have hlo:=hst.lo.1;have HA:=zh (show ∀ g,fv.ownBlock=some g->w.heap.size<=g from fun g hg=>Nat.le_of_not_lt (fun h=>(hst.a1 g hg).2.1 (hT g h)));have HX1:=zh hx1;obtain⟨FA,fn,fc,rfl,hfn,_,_⟩:=hst.fa.form2;have p0:=HB1.o.cell 0;have pl:=HB1.o.lt;clear hs1 hx1 hst hT hev hfn)
  | (go_at_call 245;refine HSR.o.mono ?_;rintro e w2 ⟨rfl,⟨l,hl1,hl2,hl3⟩,hi2⟩
     have hb2:=hi2.blk HB1.o (fun h=>by have:=(HO.o.at_ _ h).1;omega);have q0:=hb2.cell 0;have ql:=hb2.lt;have HX2:=zh (hi2.toExt HX1.o (fun i hi=>HA.o i hi));have HL:=zh hl3;obtain rfl:=HEV.o l hl1 hl2;clear p0 pl hi2 hb2 hl1 hl2 hl3)
  | fail)
 go_ret2;exact⟨⟨_,rfl,jab.sub HL.o (fun _ _=>trivial)⟩,HX2.o⟩
open Go.Shelf
attribute [local go_sem] Oper.semAt_some
def ji1 (L:List ME):Bool:=L.all fun e=> !(e.s == 0)
theorem juu (v u:Value) (xs ys:List GA) (w:World) {S T:Nat->Prop} (hv:jab S w v xs) (hu:jab T w u ys) :
  ∃ ps qs:List P2,ps.map (·.1)=xs/\qs.map (·.1)=ys /\
  Calls Tryz.prog 65 #[v,u] w fun e w'=>e=.returned (.bool (ji1 (jah ps qs)))/\Ext w w':=by
 obtain⟨ps,hps,hp⟩:=hv.low.pairs;obtain⟨qs,hqs,hq⟩:=hu.low.pairs;refine⟨ps,qs,hps,hqs,?_⟩;clear hps hqs hv hu;obtain⟨A,c,rfl,hc1,hc2⟩:=jaa.form hp;obtain⟨B,d,rfl,hd1,hd2⟩:=jaa.form hq;have HP:=zh hp;have HQ:=zh hq;clear hp hq;refine (callsIn_wide (n:=5)).1 ?_;refine callsIn_of_wp_marks Tryz.func65 rfl trivial ?_ rfl;simp only[Tryz.ntmps65,List.size_toArray,List.length_cons,List.length_nil,Nat.reduceAdd,Nat.reduceSub,Array.replicate_succ,Array.replicate_zero,List.push_toArray,List.append_toArray,List.nil_append,List.cons_append];have tok:True:=trivial
 gi_wp2_with (first
  | (refine⟨trivial,?_⟩;gi_at_call 130;have _t:=tok;refine (callsIn_wide.2 (jc0 _ _ _ _)).mono ?_;clear tok _t;rintro e w1 ⟨rfl,hx1⟩)
  | (refine⟨trivial,?_⟩;gi_at_call 130;refine (callsIn_wide.2 (jc0 _ _ _ _)).mono ?_;rintro e w2 ⟨rfl,hx2⟩)
  | (refine⟨trivial,?_⟩;gi_at_call 131;refine (callsIn_wide.2 (jid _ _ _ _ _ _ _)).mono ?_;rintro e w3 ⟨rfl,rfl⟩))
 have hs1:=hx1.size;have hs2:=hx2.size;simp only[World.size_alloc] at hs1
 have hB0:Ext w ((w2.alloc (.cells #[.slice A ps.length c,.func (.func 194) #[] #[]] 166)).alloc (.cells #[.slice B qs.length d,.func (.func 194) #[] #[]] 166)) :=
  (((((Ext.refl w).alloc _).t hx1).t hx2).alloc _).alloc _
 have hB1:Ext (w.alloc (.cells #[.bool false] 4)) ((w2.alloc (.cells #[.slice A ps.length c,.func (.func 194) #[] #[]] 166)).alloc (.cells #[.slice B qs.length d,.func (.func 194) #[] #[]] 166)) :=
  ((hx1.t hx2).alloc _).alloc _
 have hr0:Blk (w.alloc (.cells #[.bool false] 4)) w.heap.size 4 #[.bool false]:=Blk.new _ _ _;have hr1:=hr0.ext hB1;have hb1:Blk ((w2.alloc (.cells #[.slice A ps.length c,.func (.func 194) #[] #[]] 166)).alloc (.cells #[.slice B qs.length d,.func (.func 194) #[] #[]] 166)) w2.heap.size 166 #[.slice A ps.length c,.func (.func 194) #[] #[]]:=(Blk.new _ _ _).alloc _
 have hb2:Blk ((w2.alloc (.cells #[.slice A ps.length c,.func (.func 194) #[] #[]] 166)).alloc (.cells #[.slice B qs.length d,.func (.func 194) #[] #[]] 166)) (w2.heap.size+1) 166 #[.slice B qs.length d,.func (.func 194) #[] #[]]:=by
  have:=Blk.new (w2.alloc (.cells #[.slice A ps.length c,.func (.func 194) #[] #[]] 166)) 166 #[.slice B qs.length d,.func (.func 194) #[] #[]]
  rwa [World.size_alloc] at this
 refine wpIn_rangeFunc_ownF (F:=Fence.wide) rfl (by omega) (gf:=195) (lb:= #[.pointer (some ⟨w2.heap.size,0,none⟩),.pointer (some ⟨w2.heap.size+1,0,none⟩)]) rfl trivial (enters_of Tryz.func195 (by kernel_rfl) rfl)
  (jkh 4 (by omega) w2.heap.size (w2.heap.size+1) (fun b=>b≠w.heap.size/\b<w2.heap.size+2) _ _ _ ps qs ⟨by omega,by omega⟩ ⟨by omega,by omega⟩
   (hb1.cell 0) (hb1.cell 1) (hb2.cell 0) (HP.o.imp (fun b hb=>⟨by omega,by omega⟩) (.of_ext hB0) hB0.size) (HQ.o.imp (fun b hb=>⟨by omega,by omega⟩) (.of_ext hB0) hB0.size))
  KeepR.trans (fun W l o o' hl ho _ _=>⟨by simp[World.putObj],fun b hb hlt=>(grownBy_putObj' W l o').block b hlt (fun e=>by injection e with e;simp only[World.size_alloc] at hl;omega)⟩) (Below.refl _ _) (fun _=>rfl)
  (fun pre W=>(ji1 pre=true/\W.cell? ⟨w.heap.size,0,none⟩=some (.bool false)/\W.frozen? ⟨w.heap.size,0,none⟩=false)/\Below w.heap.size w W)
  (fun c pre W=>(c=.ret/\ji1 pre=false/\W.cell? ⟨w.heap.size,0,none⟩=some (.bool false))/\Below w.heap.size w W)
  (OwnFrom.and (Own.from (fun s A B row hs hg hr=>⟨hs.1,cell_kept hs.2.1 hg hr,(frozen_kept hs.2.1 hg hr).trans hs.2.2⟩) _) (ownFrom_below (Nat.le_refl _) hB0.size))
  (fun c=>OwnFrom.and (Own.from (fun s A B row hs hg hr=>⟨hs.1,hs.2.1,cell_kept hs.2.2 hg hr⟩) _) (ownFrom_below (Nat.le_refl _) hB0.size))
  ⟨⟨rfl,hr1.cell 0,hr1.frozen 0⟩,hB0⟩
  (fun e=> { tmps:= #[.slice A ps.length c,.slice B qs.length d,undef,undef,.pointer (some ⟨w.heap.size,0,none⟩),undef,.int .i64 e.s,.slice A ps.length c,
   .agg #[.slice A ps.length c,.func (.func 194) #[] #[]],.slice B qs.length d,.agg #[.slice B qs.length d,.func (.func 194) #[] #[]],
   .func (.func 195) #[] #[.pointer (some ⟨w2.heap.size,0,none⟩),.pointer (some ⟨w2.heap.size+1,0,none⟩)],.agg #[.string e.x.n,e.v],.int .i64 e.s,undef,undef],defers:=[] }) ?assign ?body ?done ?stop
 case assign =>
  intro l x W K hK;simp only[encME]
  gi_wp2
  exact hK
 case body =>
  rintro l pre x W ⟨⟨hp,hcr,hfr⟩,hB⟩ _;have HX:=zh hp;clear hp;by_cases hs:x.s=0
  . have h1:((x.s:Int) == 0)=true:=by simp[hs]
    have HN:=zh (show ji1 (pre++[x])=false from by unfold ji1;rw[List.all_append];simp[hs]);clear hs
    gi_wp2
    exact⟨KeepsOthers.setCell _ _ _,⟨rfl,HN.o,World.cell?_setCell_same' _ _ _ (by rw[hcr];rfl)⟩,hB.setCell (p:=⟨w.heap.size,0,none⟩) (Nat.le_refl _) _⟩
  have h1:((x.s:Int) == 0)=false:=by simp[hs]
  have HN:=zh (show ji1 (pre++[x])=true from by have:=HX.o;unfold ji1 at this ⊢;rw[List.all_append,this];simp[hs]);clear hs
  gi_wp2
  exact⟨KeepsOthers.refl _,⟨Nat.le_refl _,.refl _ _⟩,⟨HN.o,hcr,hfr⟩,hB⟩
 case done =>
  rintro D L W hD rfl ⟨⟨hne,hcr,hfr⟩,hB⟩ hK;have HN:=zh hne;clear hne
  gi_wp2
  have hK':=(KeepsOthers.setCell W ⟨w.heap.size,0,none⟩ (.bool true)).same D _ hK rfl;refine⟨by simp,.inl ⟨_,_,rfl,run_takeDeferred hK',?_⟩⟩;have hc5:=cell_kept (World.cell?_setCell_same' W ⟨w.heap.size,0,none⟩ (.bool true) (by rw[hcr];rfl)) (grownBy_putObj' _ D (.deferred none)) (fun r e=>by cases e;exact⟨_,hK',rfl⟩);refine⟨.bool true,?_,by rw[HN.o],(hB.setCell (p:=⟨w.heap.size,0,none⟩) (Nat.le_refl _) _).trans (belowK_b (w:=w) (Nat.le_refl _) _ D _ _ (by simp only[World.size_alloc] at hD;omega) hK' rfl rfl)⟩;simp[results,Tryz.f65,go_sem,hc5]
 case stop =>
  rintro D c pre W hD hpre ⟨⟨rfl,hin,hcr⟩,hB⟩ hK
  have HN:=zh (show ji1 (jah ps qs)=false from by
   obtain⟨r,hr⟩:=hpre;rw[<- hr];unfold ji1 at hin ⊢;rw[List.all_append,hin];rfl)
  clear hpre hin
  gi_wp2
  refine⟨by simp,.inl ⟨_,_,rfl,run_takeDeferred hK,?_⟩⟩;have hc5:=cell_kept hcr (grownBy_putObj' _ D (.deferred none)) (fun r e=>by cases e;exact⟨_,hK,rfl⟩);refine⟨.bool false,?_,by rw[HN.o],hB.trans (belowK_b (w:=w) (Nat.le_refl _) W D _ _ (by simp only[World.size_alloc] at hD;omega) hK rfl rfl)⟩;simp[results,Tryz.f65,go_sem,hc5]
theorem js7 (v u:Value) (xs ys:List GA) (w:World) {S T:Nat->Prop} (hv:jab S w v xs) (hu:jab T w u ys) (hx:Facts xs) (ax:Asc xs) (hy:Facts ys) (ay:Asc ys) :
  Calls Tryz.prog 65 #[v,u] w fun e w'=>e=.returned (.bool (xs.all (hasA ys)))/\Ext w w':=by
 obtain⟨ps,qs,rfl,rfl,h⟩:=juu v u xs ys w hv hu;have e:=jt7 hx ax hy ay;rw[<- e];exact h
end Go.Proofs.YthiflhkcpanaaaaGreatDoor
namespace Go.Proofs.YthiflhkcpanaaaaGreatDoor
open Go.RowKit
theorem jj9 (v u:Value) (xs ys:List GA) (w:World) {S T:Nat->Prop} (hv:jab S w v xs) (hu:jab T w u ys) (hx:Asc xs) (hy:Asc ys) :
  Calls Tryz.prog 66 #[v,u] w fun e w'=>e=.returned (.bool (jcd xs ys))/\Ext w w':=by
 obtain⟨ps,qs,hp,hq,h⟩:=jqz v u xs ys w hv hu;rw[jpb (by rw[hp];exact hx) (by rw[hq];exact hy),hp,hq] at h;exact h
theorem jk6 (g:GC) (v u:Value) (w:World) {S T:Nat->Prop} (hv:jab S w v g.comes) (hu:jab T w u g.goes) :
  Calls Tryz.prog 64 #[.agg #[v,u]] w fun e w'=>e=.returned (.bool (jas g))/\Ext w w':=by
 obtain⟨A,c,rfl,hc1,hc2⟩:=jaa.form hv;obtain⟨B,d,rfl,hd1,hd2⟩:=jaa.form hu;have HV:=zh (hv.ext ((Ext.refl w).alloc (.cells #[.slice A g.comes.length c,.slice B g.goes.length d] 36)));have HU:=zh (hu.ext ((Ext.refl w).alloc (.cells #[.slice A g.comes.length c,.slice B g.goes.length d] 36)));clear hv hu;have hw1:=jai (jfp _ g.comes _ HV.o);cases h1:jbb g.comes 300
 . have HF:=zh (show jas g=false from by unfold jas;rw[h1];rfl)
   have HW:=zh (hw1.2 h1);clear hw1 h1
   go_in;go_wp2_with (go_at_call 71;refine HW.o.mono ?_;rintro e w1 ⟨rfl,hx1⟩)
   go_ret;exact⟨by rw[HF.o];rfl,((Ext.refl _).alloc _).t hx1⟩
 have HW:=zh (hw1.1 h1);have HA:=zh (jg1 h1);clear hw1;have tok:True:=trivial;cases h2:jbb g.goes 300
 . have HF:=zh (show jas g=false from by unfold jas;rw[h2];simp)
   have H2:=zh h2;clear h1 h2
   go_in
   go_wp2_with (first
    | (go_at_call 71;have _t:=tok;refine HW.o.mono ?_;clear tok _t;rintro e w1 ⟨rfl,hx1⟩;obtain⟨hcc,hcf⟩:=hx1.cells)
    | (go_at_call 71;refine ((jai (jfp _ g.goes _ (HU.o.ext hx1))).2 H2.o).mono ?_;rintro e w2 ⟨rfl,hx2⟩))
   go_ret;exact⟨by rw[HF.o];rfl,(((Ext.refl _).alloc _).t hx1).t hx2⟩
 have HF:=zh (show jas g = !jcd g.comes g.goes from by unfold jas;rw[h1,h2];rfl);have H2:=zh h2;have HG:=zh (jg1 h2);clear h1 h2
 go_in
 go_wp2_with (first
  | (go_at_call 71;have _t:=tok;refine HW.o.mono ?_;clear tok _t;rintro e w1 ⟨rfl,hx1⟩;obtain⟨hcc,hcf⟩:=hx1.cells;have hs1:=hx1.size;simp only[World.size_alloc] at hs1;have hs1':w.heap.size<w1.heap.size:=(by omega))
  | (go_at_call 71;refine ((jai (jfp _ g.goes _ (HU.o.ext hx1))).1 H2.o).mono ?_;rintro e w2 ⟨rfl,hx2⟩;obtain⟨hcc2,hcf2⟩:=hx2.cells)
  | (go_at_call 66;refine (jj9 _ _ g.comes g.goes _ (HV.o.ext (hx1.t hx2)) (HU.o.ext (hx1.t hx2)) HA.o HG.o).mono ?_;rintro e w3 ⟨rfl,hx3⟩))
 go_ret;exact⟨by rw[HF.o];rfl,((((Ext.refl _).alloc _).t hx1).t hx2).t hx3⟩
end Go.Proofs.YthiflhkcpanaaaaGreatDoor
