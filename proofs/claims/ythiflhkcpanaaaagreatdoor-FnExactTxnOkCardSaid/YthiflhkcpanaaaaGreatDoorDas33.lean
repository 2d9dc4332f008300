/- Own texts, joined. -/
import Derived.Test.YthiflhkcpanaaaaGreatDoorDas32
set_option linter.unusedSimpArgs false
set_option linter.unusedVariables false
set_option maxHeartbeats 8000000
set_option maxRecDepth 100000
namespace Go.Proofs.YthiflhkcpanaaaaGreatDoor
open Go.RowKit
def jfl (fr:List GA) (p:GP):Bool:= !p.no && fr.any fun a=>decide (a.n=p.atom.n)
theorem j2g (fr:List GA) (r:GR):jdb fr r=r.body.any (jfl fr):=rfl
theorem j0e (fr:List GA) (x:ByteArray):(0<(cameF fr x).getD 0)↔fr.any (fun a=>decide (a.n=x))=true:=by
 unfold cameF;by_cases h:fr.any (fun a=>decide (a.n=x))=true
 . rw [if_pos h]
   simp only[Option.getD_some,h,iff_true];obtain⟨a,ha,hx⟩:=List.any_eq_true.1 h;exact List.length_pos_of_mem (List.mem_filter.2 ⟨ha,hx⟩)
 rw[if_neg h];simp[h]
theorem jhh {P:Program} {ops:Array Oper} {Q:Exit->Act->World->Prop} {a:Act} {w:World} {rest:List Oper} {o:Oper}
  (hw:Region.wanted o (yielded ops a.tmps)=true) (h:wpList P ops Q ({ o with guard:=none } :: rest) a w):wpList P ops Q (o :: rest) a w:=by
 simp only[wpList] at h ⊢;rw[if_pos hw];rw[if_pos (show Region.wanted { o with guard:=none } (yielded ops a.tmps)=true from rfl)] at h;exact h
theorem jm8:∀ args w,(callFunc 237 args).run Tryz.prog w=.ok (.enter 237 args) w:=enters_of Tryz.func237 (by kernel_rfl) (by rfl)
theorem jsz (p:GP) (v:Value) (cb mc k:Nat) (fr:List GA) (w:World) {S:Nat->Prop} (hv:jad S w v p.atom.args) (hn:p.atom.n.size<=maxLen) (hc:w.cell? ⟨cb,0,none⟩=some (.map (some mc))) (hm:MapN w mc k (cameF fr)) :
  Calls Tryz.prog 237 #[.agg #[.bool p.no,.string p.atom.n,v],.pointer (some ⟨cb,0,none⟩)] w fun e w'=>e=.returned (.bool (jfl fr p))/\Ext w w':=by
 obtain⟨A,c,rfl,hc1,hc2⟩:=jaa.form hv;have hcb:=jcc hc;obtain⟨gd,hgd⟩:=nm ((cameF fr p.atom.n).getD 0);have hpos:=j0e fr p.atom.n;rw[<- hgd] at hpos;have HGD:=zh hgd;have HM:=zh hm;clear hgd hv hm
 cases hno:p.no with
 | true =>
   have HT:=zh (show jfl fr p=false from by unfold jfl;rw[hno];rfl);clear hpos
   go_in;go_wp2_with fail
   go_ret;rw[HT.o];exact⟨rfl,(Ext.refl _).alloc _⟩
 | false =>
   cases hx:fr.any (fun a=>decide (a.n=p.atom.n)) with
   | true =>
     have HT:=zh (show jfl fr p=true from by unfold jfl;rw[hno,hx];rfl);have hg:(0:Int)<(gd:Int):=by have:=hpos.2 hx;omega
     clear hpos hx
     go_in;go_wp2_with (first|(at_lookup;go_loud (refine jhh (by rfl) ?_;refine jft _ rfl _ _ rfl mc k (cameF fr) rfl (HM.o.alloc _) p.atom.n rfl hn ?_;rw[<- HGD.o]))|fail)
     go_ret;rw[HT.o];exact⟨ja6 (decide_eq_true (show (0:Nat)<gd by omega)),(Ext.refl _).alloc _⟩
   | false =>
     have HT:=zh (show jfl fr p=false from by unfold jfl;rw[hno,hx];rfl)
     have hg:¬ (0:Int)<(gd:Int):=by
      intro h;have:=hpos.1 (by omega);rw[hx] at this;cases this
     clear hpos hx
     go_in;go_wp2_with (first|(at_lookup;go_loud (refine jhh (by rfl) ?_;refine jft _ rfl _ _ rfl mc k (cameF fr) rfl (HM.o.alloc _) p.atom.n rfl hn ?_;rw[<- HGD.o]))|fail)
     go_ret;rw[HT.o];exact⟨ja6 (decide_eq_false (show ¬ (0:Nat)<gd by omega)),(Ext.refl _).alloc _⟩
theorem jno (v:Value) (xs:List GP) (cb mc n:Nat) (fr:List GA) (w:World) (ba:Bool) (hba:xs.any (jfl fr)=ba) {S:Nat->Prop} (hv:jao S w v xs) (hc:w.cell? ⟨cb,0,none⟩=some (.map (some mc))) (hm:MapN w mc n (cameF fr)) :
  Calls Tryz.prog 282 #[v,.func (.func 237) #[] #[.pointer (some ⟨cb,0,none⟩)]] w fun e w'=>(∃ z:Int,e=.returned (.int .i64 z)/\(ba=false->z<0)/\(ba=true->0<=z))/\Ext w w':=by
 obtain⟨A,c,rfl,hc1,hc2⟩:=jaa.form hv;have HV:=zh hv;have HC:=zh hc;have HM:=zh hm;have HB:=zh hba;clear hv hc hm hba;have eg:=jm8
 go_in;go_wp2;go_loopw [8] (fun i wr=>∃ k:Nat,k<=xs.length/\i=.int .i64 k/\J1 ((xs.take k).any (jfl fr)=false)/\Ext w wr) (fun i _=>xs.length-(intOf i).toNat)
 case atStart=>exact⟨0,Nat.zero_le _,rfl,zh rfl,Ext.refl _⟩
 case round =>
  obtain⟨k,hk,rfl,hp,hx⟩:=hrel;have hk0:(0:Int)<=(k:Int):=by omega
  by_cases hlt:k<xs.length
  . have hk1:(k:Int)<(xs.length:Int):=by omega
    obtain⟨b,off,x,tv,rfl,hb,hxk,hxs,ht,p0,p1,p2⟩:=jao.at_ (HV.o.ext hx) hlt;obtain⟨C,e,rfl,he1,he2⟩:=jaa.form ht;have HW:=zh (jsz x _ cb mc n fr wr ht hxs ((hx.cells.1 cb 0 (jcc HC.o)).trans HC.o) (HM.o.ext (hx.block _ HM.o.lt)));obtain⟨tb,htb⟩:=nm (jfl fr x);rw[<- htb] at HW;have HTS:=zh (show (xs.take (k+1)).any (jfl fr)=tb from by rw[List.take_add_one,hxk,List.any_append,hp.o,htb];simp);have HTA:=zh (show tb=true->ba=true from fun h=>HB.o.symm.trans (List.any_eq_true.2 ⟨x,List.mem_of_getElem? hxk,by rw[<- htb];exact h⟩));clear hxk ht htb;cases tb
    . clear HTA
      go_wp2_with (go_at_fn 237;refine HW.o.mono ?_;rintro e w1 ⟨rfl,hx1⟩)
      go_roundw
      case rel=>exact⟨k+1,by omega,by go_num,HTS,hx.t hx1⟩
      case measure=>simp[intOf];omega
    have HTZ:=HTA.o rfl;clear HTA HTS;subst HTZ;go_wp2_with (go_at_fn 237;refine HW.o.mono ?_;rintro e w1 ⟨rfl,hx1⟩)
    go_ret
    first|exact⟨⟨k,rfl,Int.natCast_nonneg _⟩,hx.t hx1⟩|exact⟨⟨k,rfl,fun h=>by first|(exact absurd h (by decide))|(cases h),fun _=>Int.natCast_nonneg _⟩,hx.t hx1⟩
  have hk1:¬ (k:Int)<(xs.length:Int):=by omega
  obtain rfl:k=xs.length:=by omega
  have HZ:=hp.o;rw[List.take_length] at HZ;have HZZ:=HB.o.symm.trans HZ;clear HZ;subst HZZ;go_wp2;go_ret
  first|exact⟨⟨-1,rfl,by decide⟩,hx⟩|exact⟨⟨-1,rfl,fun _=>by decide,fun h=>by first|(exact absurd h (by decide))|(cases h)⟩,hx⟩
theorem jj8 (v:Value) (xs:List GP) (cb mc n:Nat) (fr:List GA) (w:World) (ba:Bool) (hba:xs.any (jfl fr)=ba) {S:Nat->Prop} (hv:jao S w v xs) (hc:w.cell? ⟨cb,0,none⟩=some (.map (some mc))) (hm:MapN w mc n (cameF fr)) :
  Calls Tryz.prog 236 #[v,.func (.func 237) #[] #[.pointer (some ⟨cb,0,none⟩)]] w fun e w'=>e=.returned (.bool ba)/\Ext w w':=by
 obtain⟨A,c,rfl,hc1,hc2⟩:=jaa.form hv;have HI:=zh (jno _ xs cb mc n fr w ba hba hv hc hm);clear hv hc hm hba;cases ba
 . go_in
   go_wp2_with (go_at_call 282;refine HI.o.mono ?_;rintro e w1 ⟨⟨z,rfl,h1,h2⟩,hx1⟩;have hz:=h1 rfl;clear h1 h2)
   go_ret;exact⟨ja6 (by first|(simp;done)|(simp;omega)),hx1⟩
 go_in;go_wp2_with (go_at_call 282;refine HI.o.mono ?_;rintro e w1 ⟨⟨z,rfl,h1,h2⟩,hx1⟩;have hz:=h2 rfl;clear h1 h2)
 go_ret;exact⟨ja6 (by first|(simp;done)|(simp;omega)),hx1⟩
theorem jk2:(Tryz.prog.info? 178).map (fun i=>(i.zero,i.size,i.bytes))=some (some (.agg #[.string ByteArray.empty,.slice none 0 0,.slice none 0 0]),3,64):=by kernel_rfl
theorem jm9 (v:Value) (l:List GR) (mc n:Nat) (fr:List GA) (w:World) {S:Nat->Prop} (hv:jam S w v l) (hm:MapN w mc n (cameF fr)) (hn:l.length<=4194304) :
  Calls Tryz.prog 193 #[v,.map (some mc)] w fun e w'=>(∃ u,e=.returned u/\jam (fun b=>((S b/\b<w.heap.size)∨w.heap.size<=b)/\b<w'.heap.size) w' u (l.filter (jdb fr)))/\Ext w w':=by
 obtain⟨j0,hj0,hy0,hy1,hy2⟩:=info_parts jk2;obtain⟨A,c,rfl,hc1,hc2⟩:=jaa.form hv;have HV:=zh (show jam (fun b=>S b/\b<w.heap.size) w (.slice A l.length c) l from ListK.low (k:=kRule) hv);have HM:=zh hm;have hml:=hm.lt;clear hv hm;obtain⟨W,hW⟩:=nm (w.alloc (.cells #[.map (some mc)] 187));have HX:=zh (show Ext w W from by rw[hW];exact (Ext.refl _).alloc _);have HB:=zh (show Blk W w.heap.size 187 #[.map (some mc)] from by rw[hW];exact Blk.new _ _ _)
 go_in;go_wp2;rw[<- hW];go_loopw [5,10] (fun v i wr=>∃ k:Nat,k<=l.length/\i=.int .i64 k/\J1 (OwnK kRule W.heap.size 178 (fun b=>S b/\b<w.heap.size) wr v ((l.take k).filter (jdb fr)))/\Ext W wr) (fun _ i _=>l.length-(intOf i).toNat)
 case atStart=>exact⟨0,Nat.zero_le _,rfl,OwnK.nil,Ext.refl _⟩
 case round =>
  obtain⟨k,hk,rfl,ho,hx⟩:=hrel;obtain⟨A0,n0,c0,rfl,hn0,ha0,hb0⟩:=ho.o.form2;have hsz:=hx.size;have hszW:=HX.o.size;have hk0:(0:Int)<=(k:Int):=by omega
  by_cases hlt:k<l.length
  . obtain ⟨b,off,x,v1,u1,rfl,hb,hxk,hxs,ht,hu,p0,p1,p2⟩:=jam.at_ (HV.o.ext (HX.o.t hx)) hlt
    obtain⟨A1,c1,rfl,ha1,hb1⟩:=jaa.form ht;obtain⟨B1,d1,rfl,hd1,hd2⟩:=jaa.form hu;have hbl:((l.take k).filter (jdb fr)).length<=k:=Nat.le_trans (List.length_filter_le _ _) (by rw[List.length_take];omega);have hk1:(k:Int)<(l.length:Int):=by omega
    obtain⟨tb,htb⟩:=nm (jdb fr x)
    have HK:=zh (show (l.take (k+1)).filter (jdb fr)=(l.take k).filter (jdb fr)++(if tb then [x] else []) from by
     rw[List.take_add_one,hxk,List.filter_append,htb]
     congr 1
     simp[List.filter_cons])
    have HT:=zh ht;have HU:=zh hu;have HC:=zh (fun (W':World) (hW':Ext wr W')=>jj8 _ x.body w.heap.size mc n fr W' tb (by rw[htb];exact (j2g fr x).symm) (HU.o.ext hW') ((HB.o.ext (hx.t hW')).cell 0) (HM.o.ext ((HX.o.t (hx.t hW')).block _ HM.o.lt)));clear hxk ht hu htb;cases tb
    . go_wp2_with (go_at_call 236;refine (HC.o _ ((Ext.refl _).alloc _)).mono ?_;rintro e w1 ⟨rfl,hx1⟩)
      go_roundw
      case rel=>exact⟨k+1,by omega,by go_num,zh (by rw[HK.o];simpa using ho.o.ext (((Ext.refl _).alloc _).t hx1)),hx.t (((Ext.refl _).alloc _).t hx1)⟩
      case measure=>simp[intOf];omega
    go_wp2_with (first
      | (go_at_call 236;refine (HC.o _ ((Ext.refl _).alloc _)).mono ?_;rintro e w1 ⟨rfl,hx1⟩;have HX1:=zh (((Ext.refl wr).alloc (.cells #[.string x.head.n,.slice A1 x.head.args.length c1,.slice B1 x.body.length d1] 178)).t hx1);have HB1:=zh ((Blk.new wr 178 #[.string x.head.n,.slice A1 x.head.args.length c1,.slice B1 x.body.length d1]).ext hx1);have q0:=HB1.o.cell 0;have q1:=HB1.o.cell 1;have q2:=HB1.o.cell 2;have ql:=HB1.o.lt)
      | (at_builtin;refine jco (k:=kRule) (S:=fun b=>S b/\b<w.heap.size) (T:=fun b=>S b/\b<w.heap.size) rfl (.tmp 18) (.tmp 20) 23 (by rfl) j0 _ 64 Tryz.underlying23 hj0 hy0 hy1 hy2 (by rfl) (by rfl) (ho.o.ext (HX1.o.alloc _)) _ 1 1 (by rfl) (jar.one (k:=kRule) (x:=x) (Blk.new _ _ _) ⟨_,_,rfl,hxs,HT.o.ext (HX1.o.alloc _),HU.o.ext (HX1.o.alloc _)⟩) (fun _ hb _=>hb) (fun g hg hT=>absurd (ho.o.at_ g hg).1 (Nat.not_le.2 (Nat.lt_of_lt_of_le hT.2 hszW))) (maxOf (by omega)) (by omega) (Nat.le_trans (hx.t HX1.o).size (by go_size)) ?_;intro v3 w3 hap))
    go_roundw
    case rel=>exact⟨k+1,by omega,by go_num,zh (by rw[HK.o];exact hap.own),hap.toExt ((hx.t HX1.o).alloc _) (Nat.le_refl _)⟩
    case measure=>simp[intOf];omega
  have HK:=zh (show l.take k=l from List.take_of_length_le (by omega));go_wp2;go_ret;have h1:=ListK.low (k:=kRule) (ho.o.list (S':=fun b=>(S b/\b<w.heap.size)∨w.heap.size<=b) (fun _ h=>.inl h) (fun _ h=>.inr (Nat.le_trans hszW h)));rw[HK.o] at h1;exact⟨⟨_,rfl,h1⟩,HX.o.t hx⟩
def fitsN (f:ByteArray->Option Nat) (a:GA):Bool:=match f a.n with
 | none=>true
 | some k=>decide (k=a.args.length)
theorem js0 (a:GA) (v:Value) (mc k:Nat) (f:ByteArray->Option Nat) (w:World) {S:Nat->Prop} (hv:jad S w v a.args) (hn:a.n.size<=maxLen) (hm:MapN w mc k f) :
  Calls Tryz.prog 151 #[.map (some mc),.agg #[.string a.n,v]] w fun e w'=>e=.returned (.bool (fitsN f a))/\Ext w w':=by
 obtain⟨A,c,rfl,hc1,hc2⟩:=jaa.form hv;have HM:=zh hm;clear hv hm
 cases hx:f a.n with
 | none =>
   have HT:=zh (show fitsN f a=true from by unfold fitsN;rw[hx]);have HF:=zh hx;clear hx
   go_in;go_wp2_with (first|(at_lookup;go_loud (refine jb8 _ rfl _ _ rfl mc k f rfl (HM.o.alloc _) a.n rfl hn HF.o ?_))|fail)
   go_ret;rw[HT.o];exact⟨ja6 rfl,(Ext.refl _).alloc _⟩
 | some q =>
   have HT:=zh (show fitsN f a=decide ((q:Int)=(a.args.length:Int)) from by unfold fitsN;rw[hx];simp;omega);have HF:=zh hx;clear hx
   go_in;go_wp2_with (first|(at_lookup;go_loud (refine ja5 _ rfl _ _ rfl mc k f rfl (HM.o.alloc _) a.n rfl hn q HF.o ?_))|fail)
   go_ret;rw[HT.o];exact⟨ja6 (by first|rfl|simp),(Ext.refl _).alloc _⟩
theorem jut (v:Value) (l:List GR) (w:World) {S:Nat->Prop} (hv:jam S w v l) (he:ErrIs w) :
  Calls Tryz.prog 275 #[v] w fun e w'=>e=.returned (.bool (decide (jag l=0)))/\Ext w w':=by
 obtain⟨A,c,rfl,hc1,hc2⟩:=jaa.form hv;have HP:=zh (jp7 _ l w hv he);obtain⟨q,hq⟩:=nm (jag l);rw[<- hq] at HP ⊢;have HT:=zh (show decide (q=0)=decide ((q:Int)=0) from by simp);clear hv hq he;rw[HT.o]
 go_in;go_wp2_with (go_at_call 303;refine HP.o.mono ?_;rintro e w1 ⟨rfl,hx1⟩)
 go_ret;exact⟨ja6 (by first|rfl|simp),hx1⟩
theorem j1o {rules:List GR} {xs:List GA} (h:argsB (jaq rules)=true):fitB rules xs=xs.all (fitsN (jay (jaq rules))):=by
 unfold fitB
 congr 1
 funext a
 rw[Bool.eq_iff_iff]
 constructor
 . intro h1
   unfold fitsN
   cases hx:jay (jaq rules) a.n with
   | none=>rfl
   | some k =>
     obtain⟨b,hb,hn,hk⟩:=jfr hx;have h2:=List.all_eq_true.1 h1 b hb;simp[hn] at h2;exact decide_eq_true (by omega)
 intro h1;refine List.all_eq_true.2 fun b hb=>?_
 by_cases hn:b.n=a.n
 . have hl:=of_decide_eq_true (List.all_eq_true.1 h b hb)
   rw[hn] at hl;unfold fitsN at h1;rw[hl] at h1;have h2:=of_decide_eq_true h1;simp[h2]
 simp[hn]
theorem j1p {l:List GR} (h:jag l=0):l.all jba=true:=by
 cases ha:l.all jba with
 | true=>rfl
 | false=>unfold jag at h;rw[if_pos ha] at h;cases h
theorem js1 (v u:Value) (l:List GR) (xs:List GA) (w:World) {S T:Nat->Prop} (hv:jam S w v l) (hu:jab T w u xs) (he:ErrIs w) :
  Calls Tryz.prog 229 #[v,u] w fun e w'=>e=.returned (.bool (decide (jag l=0) && jbb xs 300 && fitB l xs))/\Ext w w':=by
 obtain⟨A,c,rfl,hc1,hc2⟩:=jaa.form hv;obtain⟨B,d,rfl,hd1,hd2⟩:=jaa.form hu;have HPF:=zh (jai (jut _ l w hv he));have HFO:=zh (fun (W:World) (hW:Ext w W)=>jai (jfp _ xs W (hu.ext hW)));have HV:=zh hv;have HU:=zh hu;clear hv hu he;cases hp:decide (jag l=0)
 . have HP:=zh (HPF.o.2 hp)
   clear hp HPF
   go_in;go_wp2_with (go_at_call 275;refine HP.o.mono ?_;rintro e w1 ⟨rfl,hx1⟩)
   go_ret;exact⟨ja6 (by first|rfl|simp),hx1⟩
 have HP:=zh (HPF.o.1 hp);have hp0:=of_decide_eq_true hp;have hc:=jhw hp0;have hok:=j1p hp0;have hbody:∀ r∈l,r.body.length<=4:=fun r hr=>jim (List.all_eq_true.1 hok r hr)
 have hargsl:∀ r∈l,∀ a∈jbd r,a.args.length<=1000:=fun r hr a ha=>Nat.le_trans (jm0 (List.all_eq_true.1 hok r hr) a ha) (by omega)
 have HA:=zh (fun (W:World) (hW:Ext w W)=>joq _ l W (HV.o.ext hW) hc.2.1 hbody hargsl);rw[j1o hc.2.2.1];have hargs:=hc.2.2.1;obtain⟨F,hF⟩:=nm (jay (jaq l));rw[<- hF];rw[<- hF,hargs] at HA;obtain⟨fb,hfb⟩:=nm (xs.all (fitsN F));rw[<- hfb];have HB:=zh hfb;clear hp HPF hp0 hc hok hbody hargsl hF hfb hargs;cases hf:jbb xs 300
 . have HFF:=zh (fun W hW=>(HFO.o W hW).2 hf)
   clear hf HFO
   go_in
   go_wp2_with (first
    | (go_at_call 275;refine HP.o.mono ?_;rintro e w1 ⟨rfl,hx1⟩)
    | (go_at_call 71;refine (HFF.o _ hx1).mono ?_;rintro e w2 ⟨rfl,hx2⟩))
   go_ret;exact⟨ja6 (by first|rfl|simp),hx1.t hx2⟩
 have HFF:=zh (fun W hW=>(HFO.o W hW).1 hf);clear hf HFO
 go_in
 go_wp2_with (first
  | (go_at_call 275;refine HP.o.mono ?_;rintro e w1 ⟨rfl,hx1⟩)
  | (go_at_call 71;refine (HFF.o _ hx1).mono ?_;rintro e w2 ⟨rfl,hx2⟩)
  | (go_at_call 150;refine (HA.o _ (hx1.t hx2)).mono ?_;rintro e w3 ⟨⟨mc,n,rfl,hmc,hn40,hm⟩,hx3⟩;have HM:=zh hm;have HX3:=zh ((hx1.t hx2).t hx3);clear hm))
 go_loopw [24] (fun i wr=>∃ k:Nat,k<=xs.length/\i=.int .i64 k/\J1 ((xs.take k).all (fitsN F)=true)/\Ext w3 wr) (fun i _=>xs.length-(intOf i).toNat)
 case atStart=>exact⟨0,Nat.zero_le _,rfl,zh rfl,Ext.refl _⟩
 case round =>
  obtain⟨k,hk,rfl,hq,hx⟩:=hrel;have hk0:(0:Int)<=(k:Int):=by omega
  by_cases hlt:k<xs.length
  . obtain ⟨b,off,x,v1,rfl,hb,hxk,hxs,ht,p0,p1⟩:=jab.at_ (HU.o.ext (HX3.o.t hx)) hlt
    obtain⟨C,e,rfl,he1,he2⟩:=jaa.form ht;have hk1:(k:Int)<(xs.length:Int):=by omega
    obtain⟨tb,htb⟩:=nm (fitsN F x);have HW:=zh (fun (W:World) (hW:Ext wr W)=>js0 x _ mc n F W (ht.ext hW) hxs (HM.o.ext ((hx.t hW).block _ HM.o.lt)));rw[<- htb] at HW;have HTS:=zh (show (xs.take (k+1)).all (fitsN F)=tb from by rw[List.take_add_one,hxk,List.all_append,hq.o,htb];simp);have HTA:=zh (show tb=false->fb=false from fun h=>HB.o.trans (jbc (fitsN F) _ k x hxk (by rw[<- htb];exact h)));clear hxk ht htb;cases tb
    . have HTZ:=HTA.o rfl
      clear HTA HTS;subst HTZ;go_wp2_with (go_at_call 151;refine (HW.o _ ((Ext.refl _).alloc _)).mono ?_;rintro e w4 ⟨rfl,hx4⟩)
      go_ret;exact⟨ja6 (by first|rfl|simp),HX3.o.t (hx.t (((Ext.refl _).alloc _).t hx4))⟩
    clear HTA;go_wp2_with (go_at_call 151;refine (HW.o _ ((Ext.refl _).alloc _)).mono ?_;rintro e w4 ⟨rfl,hx4⟩)
    go_roundw
    case rel=>exact⟨k+1,by omega,by go_num,HTS,hx.t (((Ext.refl _).alloc _).t hx4)⟩
    case measure=>simp[intOf];omega
  have HZ:=jbl (fitsN F) _ k hlt hq.o;have HZZ:=HB.o.trans HZ;clear HZ;subst HZZ;go_wp2;go_ret;exact⟨ja6 (by first|rfl|simp),HX3.o.t hx⟩
theorem jxx (l:List GR) (xs:List GA):jbm l xs=(decide (xs.length<=40) && (decide (jag l=0) && jbb xs 300 && fitB l xs)):=by
 unfold jbm jbb;by_cases h:xs.length<=40
 . have h3:xs.length<=300:=by omega
   simp[h,h3]
 simp[h]
theorem jnp (v u:Value) (l:List GR) (xs:List GA) (w:World) {S T:Nat->Prop} (hv:jam S w v l) (hu:jab T w u xs) (he:ErrIs w) :
  Calls Tryz.prog 189 #[v,u] w fun e w'=>e=.returned (.bool (jbm l xs))/\Ext w w':=by
 obtain⟨A,c,rfl,hc1,hc2⟩:=jaa.form hv;obtain⟨B,d,rfl,hd1,hd2⟩:=jaa.form hu;rw[jxx];have HFF:=zh (js1 _ _ l xs w hv hu he);obtain⟨q,hq⟩:=nm ((decide (jag l=0) && jbb xs 300 && fitB l xs));rw[<- hq] at HFF ⊢;clear hv hu he hq;by_cases h:xs.length<=40
 . have hg:decide (xs.length<=40)=true:=decide_eq_true h
   rw[hg];have hz:(xs.length:Int)<=40:=by omega
   clear h hg
   go_in;go_wp2_with (go_at_call 229;refine HFF.o.mono ?_;rintro e w1 ⟨rfl,hx1⟩)
   go_ret;exact⟨ja6 (by first|rfl|simp),hx1⟩
 have hg:decide (xs.length<=40)=false:=decide_eq_false h;rw[hg];have hz:¬ (xs.length:Int)<=40:=by omega
 clear h hg
 go_in;go_wp2;go_ret;exact⟨ja6 (by first|rfl|simp),Ext.refl _⟩
theorem js2 (xs:List GA) (v:Value) (w:World) {S:Nat->Prop} (hv:jab S w v xs) (hS:∀ b,S b->b<w.heap.size) (ha:∀ a∈xs,a.args.length<=1000/\wAtom a<=4194304) (hl:xs.length<=1000) :
  Calls Tryz.prog 190 #[v] w fun e w'=>e=.returned (.pointer (some ⟨w.heap.size+1+1,0,none⟩)) /\
   (∃ fv rv f nm np,nm<=2000*xs.length/\np<=xs.length/\ja2 (w.heap.size+1+1+1) S (fun b=>b<w.heap.size) w' (w.heap.size+1+1) w.heap.size (w.heap.size+1) fv rv f xs (List.replicate xs.length 0) (jal xs) nm (pmOf xs) np)/\Ext w w':=by
 obtain⟨A,c,rfl,hc1,hc2⟩:=jaa.form hv;have HV:=zh hv;have HA:=zh ha;obtain⟨w0,hw0⟩:∃ w0,w0=(((w.alloc (.map #[] 0)).alloc (.map #[] 0)).alloc (.cells #[.slice none 0 0,.slice none 0 0,.map (some w.heap.size),.map (some (w.heap.size+1))] 268)):=⟨_,rfl⟩;have HX0:=zh (show Ext w w0 from by rw[hw0];exact (((Ext.refl _).alloc _).alloc _).alloc _);have hz:w0.heap.size=w.heap.size+1+1+1:=by rw[hw0];simp
 have HS0:=zh (show ja2 (w.heap.size+1+1+1) S (fun b=>b<w.heap.size) w0 (w.heap.size+1+1) w.heap.size (w.heap.size+1) nilS nilS (fun _=>nilS) [] [] (jal []) 0 (pmOf []) 0 from by
  refine⟨?_,⟨by omega,by omega,by omega,by omega,by omega,by omega,by omega⟩,OwnK.nil,hS,OwnK.nil,?_,fun n s o=>OwnK.nil,?_,(fun g hg=>by cases hg),(fun g hg=>by cases hg),(fun n s o g hg=>by cases hg),fun b hb=>⟨by omega,by omega,by omega,by omega⟩⟩
  . rw[hw0];exact Blk.at_new (by simp)
  . rw[hw0];exact ((MapV.made w).ext ((Ext.refl _).alloc _)).ext ((Ext.refl _).alloc _)
  have h:=MapN.made (w.alloc (.map #[] 0));rw[World.size_alloc] at h;rw[hw0];exact (h.alloc _).same (fun _=>rfl))
 have HW0:=zh hw0;have hmm:= @run_makeMap Tryz.prog;clear hv ha hw0 hz
 go_in;go_wp2_with fail
 rw[<- HW0.o];clear hmm;go_loopw [12] (fun i wr=>∃ (k:Nat) (fv rv:Value) (f:Value->Value) (nm np:Nat),k<=xs.length/\i=.int .i64 k/\nm<=2000*k/\np<=k/\J1 (ja2 (w.heap.size+1+1+1) S (fun b=>b<w.heap.size) wr (w.heap.size+1+1) w.heap.size (w.heap.size+1) fv rv f (xs.take k) (List.replicate k 0) (jal (xs.take k)) nm (pmOf (xs.take k)) np)/\Ext w wr) (fun i _=>xs.length-(intOf i).toNat)
 case atStart=>exact⟨0,_,_,_,0,0,Nat.zero_le _,rfl,Nat.zero_le _,Nat.zero_le _,HS0,HX0.o⟩
 case round =>
  obtain⟨k,fv,rv,f,nm,np,hk,rfl,hnm,hnp,hst,hx⟩:=hrel;have hk0:(0:Int)<=(k:Int):=by omega
  by_cases hlt:k<xs.length
  . have hk1:(k:Int)<(xs.length:Int):=by omega
    obtain⟨b,off,a,va,rfl,hb,hak,han,hat,hc0,hc1'⟩:=jab.at_ HV.o hlt;obtain⟨G,cg,rfl,hcg1,hcg2⟩:=jaa.form hat;have r0:=(hx.cells.1 b (off+k*2) hb).trans hc0;have r1:=(hx.cells.1 b (off+k*2+1) hb).trans hc1';have hbw:b<wr.heap.size:=Nat.lt_of_lt_of_le hb hx.size;have HT:=zh (show xs.take (k+1)=xs.take k++[a] from by rw[List.take_add_one,hak];rfl);have HR:=zh (show List.replicate (k+1) 0=List.replicate k 0++[0] from List.replicate_succ');obtain⟨ha1,ha2⟩:=HA.o a (List.mem_of_getElem? hak);have hxa:Ext w (wr.alloc (.cells #[.string a.n,.slice G a.args.length cg] 69)):=hx.alloc _;have HP:=zh (jzc a _ 0 _ S _ _ _ _ _ fv rv f (xs.take k) (List.replicate k 0) nm (pmOf (xs.take k)) np (hst.o.ext ((Ext.refl wr).alloc (.cells #[.string a.n,.slice G a.args.length cg] 69))) (hat.ext hxa) han ha1 ha2 (by rw[List.length_take];omega) (by rw[List.length_replicate];omega) (by omega) (by omega));have HXA:=zh hxa;have hlen:(xs.take k).length=k:=by rw[List.length_take];omega
    rw[hlen] at HP;clear hc0 hc1' hat hak hxa hlen;go_wp2_with (go_at_call 230;refine HP.o.mono ?_;rintro e w1 ⟨rfl,⟨fv1,rv1,f1,nm1,np1,hst1,hnm1,hnp1⟩,hsl1⟩;have HST1:=zh hst1;have HSL1:=zh hsl1;clear hst1 hsl1)
    go_roundw
    case rel =>
     refine⟨k+1,fv1,rv1,f1,nm1,np1,by omega,by go_num,by omega,by omega,zh ?_,?_⟩
     . have h:=HST1.o
       rw[HT.o,HR.o,jru];have hlen:(xs.take k).length=k:=by rw[List.length_take];omega
       rw[hlen];exact h
     exact⟨HSL1.o.os.trans HXA.o.os,HSL1.o.tape.trans HXA.o.tape,HSL1.o.output.trans HXA.o.output,Nat.le_trans HXA.o.size HSL1.o.size,fun i hi=>(HSL1.o.block i hi (Nat.lt_of_lt_of_le hi HXA.o.size)).trans (HXA.o.block i hi)⟩
    case measure=>simp[intOf];omega
  have hke:k=xs.length:=by omega
  subst hke;have h:=hst.o;rw[List.take_length] at h;go_wp2;go_ret;exact⟨rfl,⟨_,_,_,_,_,hnm,hnp,h⟩,hx⟩
theorem ja2.news {base:Nat} {S T:Nat->Prop} {w w':World} {sb mb pb:Nat} {fv rv:Value} {f:Value->Value} {facts:List GA} {rounds:List Nat} {un:ByteArray->Nat->Option (Nat × ByteArray)->List Nat} {nm:Nat} {pm:ByteArray->Option Nat} {np:Nat} (h:ja2 base S T w sb mb pb fv rv f facts rounds un nm pm np) (hx:Ext w w'):ja2 base S (fun b=>T b∨(w.heap.size<=b/\b<w'.heap.size)) w' sb mb pb fv rv f facts rounds un nm pm np:=by
 have h':=h.ext hx;have hlo:=h.lo;refine⟨h'.blk,h'.lo,h'.fa,fun b hb=>.inl (h.sub b hb),h'.ro,h'.mp,h'.gr,h'.pl,fun g hg=>?_,fun g hg=>?_,fun n s o g hg=>?_,fun b hb=>?_⟩
 . have hl:=(h.fa.at_ g hg).2
   exact⟨(h.a1 g hg).1,fun ht=>ht.elim (h.a1 g hg).2.1 (fun hn=>by omega),(h.a1 g hg).2.2⟩
 . have hl:=(h.ro.at_ g hg).2
   exact⟨fun ht=>ht.elim (h.a2 g hg).1 (fun hn=>by omega),(h.a2 g hg).2⟩
 . have hl:=((h.gr n s o).at_ g hg).2
   exact⟨fun ht=>ht.elim (h.a3 n s o g hg).1 (fun hn=>by omega),(h.a3 n s o g hg).2⟩
 rcases hb with hb|hb
 . exact h'.tb b hb
 exact⟨hb.2,by omega,by omega,by omega⟩
end Go.Proofs.YthiflhkcpanaaaaGreatDoor
namespace Go.Proofs.YthiflhkcpanaaaaGreatDoor
def ownTo (rules:List GR) (levels:List Nat) (k q:Nat):List GR:=((rules.zipIdx.take q).filter fun x=>decide (at0 levels x.2=k)).map (·.1)
theorem jxy {rules:List GR} {levels:List Nat} {k q:Nat} {r:GR} (h:rules[q]? = some r):ownTo rules levels k (q+1)=ownTo rules levels k q++(if at0 levels q=k then [r] else []):=by
 unfold ownTo;have h1:rules.zipIdx[q]? = some (r,q):=by simp[List.getElem?_zipIdx,h]
 rw[List.take_add_one,h1,List.filter_append,List.map_append]
 congr 1
 by_cases e:at0 levels q=k
 . simp[e]
 simp[e]
theorem j0f (rules:List GR) (levels:List Nat) (k:Nat) {q:Nat} (h:rules.length<=q):ownTo rules levels k q=ownR rules levels k:=by
 unfold ownTo ownR;rw[List.take_of_length_le (by simpa using h)]
theorem js3 (rules:List GR) (levels:List Nat) (k q:Nat):(ownTo rules levels k q).length<=q:=by
 unfold ownTo;rw[List.length_map];exact Nat.le_trans (List.length_filter_le _ _) (by rw[List.length_take];omega)
open Go.RowKit
structure AllR (K:Nat->Prop) (w0:World) (base sb mb pb:Nat) (s:ST) (wr:World) (S T:Nat->Prop) (fv rv:Value) (f:Value->Value) (nm np:Nat):Prop where
 st:ja2 base S T wr sb mb pb fv rv f s.facts s.rounds (jal s.facts) nm (pmOf s.facts) np
 sub:∀ b,K b->T b
 still:Still K w0 wr
 ff:Facts s.facts
 fl:s.facts.length<=300
 rl:s.rounds.length=s.facts.length
 nl:s.num<=s.facts.length
 nm:nm<=2000*s.facts.length
 np:np<=s.facts.length
theorem Still.sub {T T':Nat->Prop} {a b:World} (h:Still T a b) (hT:∀ i,T' i->T i):Still T' a b:=⟨h.os,h.tape,h.output,h.size,fun i hi hlt=>h.block i (hT i hi) hlt⟩
theorem AllR.news {K:Nat->Prop} {w0 wr wr':World} {base sb mb pb:Nat} {s:ST} {S T:Nat->Prop} {fv rv:Value} {f:Value->Value} {nm np:Nat} (h:AllR K w0 base sb mb pb s wr S T fv rv f nm np) (hx:Ext wr wr') :
  AllR K w0 base sb mb pb s wr' S (fun b=>T b∨(wr.heap.size<=b/\b<wr'.heap.size)) fv rv f nm np :=
 ⟨h.st.news hx,fun b hb=>.inl (h.sub b hb),h.still.t (.of_ext hx),h.ff,h.fl,h.rl,h.nl,h.nm,h.np⟩
theorem AllR.fresh {K:Nat->Prop} {w0 wr:World} {base sb mb pb:Nat} {s:ST} {S T:Nat->Prop} {fv rv:Value} {f:Value->Value} {nm np:Nat} (h:AllR K w0 base sb mb pb s wr S T fv rv f nm np) :
 AllR T wr base sb mb pb s wr S T fv rv f nm np:=⟨h.st,fun _ hb=>hb,.refl _ _,h.ff,h.fl,h.rl,h.nl,h.nm,h.np⟩
theorem jqj (s:ST) (fr:List GA):(s.next fr).num=if fr.isEmpty then s.num else s.num+1:=rfl
theorem AllR.round {K:Nat->Prop} {w0 wr w':World} {base sb mb pb:Nat} {s:ST} {S T S' T':Nat->Prop} {fv rv fv' rv':Value} {f f':Value->Value} {nm np nm' np':Nat} {fr:List GA} (h:AllR K w0 base sb mb pb s wr S T fv rv f nm np)
  (hst:ja2 base S' T' w' sb mb pb fv' rv' f' (s.facts++fr) (s.rounds++List.replicate fr.length (s.num+1)) (jal (s.facts++fr)) nm' (pmOf (s.facts++fr)) np') (h1:nm'<=nm+2000*fr.length) (h2:np'<=np+fr.length)
  (hT:∀ b,T b->T' b) (hs:Still T wr w') (hf:Facts fr) (hl:s.facts.length+fr.length<=300):AllR K w0 base sb mb pb (s.next fr) w' S' T' fv' rv' f' nm' np':=by
 have e1:=h.rl;have e2:=h.nl;have e3:=h.nm;have e4:=h.np;refine⟨hst,fun b hb=>hT b (h.sub b hb),h.still.t (hs.sub h.sub),fun a ha=>?_,?_,?_,?_,?_,?_⟩
 . rcases List.mem_append.1 ha with ha|ha
   . exact h.ff a ha
   exact hf a ha
 . show (s.facts++fr).length<=300;rw[List.length_append];exact hl
 . show (s.rounds++List.replicate fr.length (s.num+1)).length=(s.facts++fr).length;simp[e1]
 . rw [jqj]
   show _<=(s.facts++fr).length;rw[List.length_append]
   cases fr with
   | nil=>simp;exact e2
   | cons a l=>simp;omega
 . show nm'<=2000*(s.facts++fr).length;rw[List.length_append];omega
 show np'<=(s.facts++fr).length;rw[List.length_append];omega
def jd2 (rules:List GR) (xs:List GA) (w:World) (e:Ending) (w':World):Prop :=
 if jbm rules xs=true then
  match jf5 rules (jap rules) rules.length 0 ⟨xs,List.replicate xs.length 0,0⟩ with
  | none=>e=.returned (.tuple #[.pointer none,.bool false])
  | some s=>∃ (base sb mb pb nm np:Nat) (fv rv:Value) (f:Value->Value) (S T:Nat->Prop),e=.returned (.tuple #[.pointer (some ⟨sb,0,none⟩),.bool true]) /\
      ja2 base S T w' sb mb pb fv rv f s.facts s.rounds (jal s.facts) nm (pmOf s.facts) np/\(∀ b,b<w.heap.size->T b)/\Facts s.facts/\s.facts.length<=300
 else e=.returned (.tuple #[.pointer none,.bool false])
theorem js4 {rules:List GR} (h:jag rules=0):(∀ r∈rules,Fine r)/\rules.length<=8/\jdp rules=false:=by
 unfold jag at h;split at h
 . cases h
 split at h
 . cases h
 split at h
 . cases h
 split at h
 . cases h
 split at h
 . cases h
 rename_i h1 h2 h3 h4 h5;refine⟨fun r hr=>jzj ?_,by omega,by simpa using h5⟩;simp only[Bool.not_eq_false,List.all_eq_true] at h1 h4;unfold fineR;rw[h1 r hr,h4 r hr];rfl
theorem jqk {rules:List GR} {given:List GA} (h:jbm rules given=true):jag rules=0/\Facts given/\given.length<=40:=by
 unfold jbm at h;simp only[Bool.and_eq_true,decide_eq_true_eq] at h;refine⟨h.1.1,?_,?_⟩
 . have:=h.1.2
   unfold jbb at this;simp only[Bool.and_eq_true,List.all_eq_true] at this;exact this.1.1
 have:=h.1.2;unfold jbb at this;simp only[Bool.and_eq_true,decide_eq_true_eq] at this;exact this.2
def lenOf:Value->Nat
 | .slice _ n _=>n
 | _=>0
theorem jk3 (rules:List GR) (xs:List GA) (v u:Value) (w:World) {S T:Nat->Prop} (hv:jam S w v rules) (hu:jab T w u xs) (he:ErrIs w) :
  Calls Tryz.prog 128 #[v,u] w fun e w'=>jd2 rules xs w e w'/\Ext w w':=by
 obtain⟨A,c,rfl,hc1,hc2⟩:=jaa.form hv;obtain⟨B,d,rfl,hd1,hd2⟩:=jaa.form hu;have HMG:=zh (jnp _ _ rules xs w hv hu he);have HV:=zh (show jam (fun b=>b<w.heap.size) w (.slice A rules.length c) rules from ListK.sub (k:=kRule) (ListK.low (k:=kRule) hv) (fun _ h=>h.2));have HU:=zh (show jab (fun b=>b<w.heap.size) w (.slice B xs.length d) xs from ListK.sub (k:=kAtom) (ListK.low (k:=kAtom) hu) (fun _ h=>h.2));obtain⟨j0,hj0,hy0,hy1,hy2⟩:=info_parts jk2;clear hv hu he
 cases hok:jbm rules xs with
 | false =>
   have HS:=zh (fun e w' (h:e=Ending.returned (.tuple #[.pointer none,.bool false]))=>show jd2 rules xs w e w' from by unfold jd2;rw[hok];exact h);rw[hok] at HMG;clear hok
   go_in;go_wp2_with (go_at_call 189;refine HMG.o.mono ?_;rintro e w1 ⟨rfl,hx1⟩)
   go_ret2;exact⟨HS.o _ _ rfl,hx1⟩
 | true =>
   rw[hok] at HMG;obtain⟨hp,hfx,hlx⟩:=jqk hok;obtain⟨hfine,hr8,hcyc⟩:=js4 hp;obtain⟨goal,hgoal⟩:∃ goal,goal=(jf5 rules (jap rules) rules.length 0 ⟨xs,List.replicate xs.length 0,0⟩):=⟨_,rfl⟩;have HNO:=zh (fun (hg:goal=none) e w' (h:e=Ending.returned (.tuple #[.pointer none,.bool false]))=>show jd2 rules xs w e w' from by unfold jd2;rw[hok,if_pos rfl,<- hgoal,hg];exact h)
   have HYES:=zh (fun (s:ST) (hg:goal=some s) e w' (h:∃ (base sb mb pb nm np:Nat) (fv rv:Value) (f:Value->Value) (S T:Nat->Prop),e=Ending.returned (.tuple #[.pointer (some ⟨sb,0,none⟩),.bool true]) /\
    ja2 base S T w' sb mb pb fv rv f s.facts s.rounds (jal s.facts) nm (pmOf s.facts) np/\(∀ b,b<w.heap.size->T b)/\Facts s.facts/\s.facts.length<=300)=>show jd2 rules xs w e w' from by unfold jd2;rw[hok,if_pos rfl,<- hgoal,hg];exact h)
   have HGO:=zh hgoal;have HSO:=zh (fun (W:World) (hW:Ext w W)=>js2 xs _ W (HU.o.ext hW) (fun b hb=>Nat.lt_of_lt_of_le hb hW.size) (fun a ha=>by have:=jm1 (hfx a ha);omega) (by omega));have HSR:=zh (fun (W:World) (hW:Ext w W)=>jkv _ rules W (HV.o.ext hW) hr8);have HFI:=zh hfine;have HRN:=zh (show ∀ r∈rules,r.head.n.size<=maxLen from fun r hr=>maxOf (by have:=(jv1 (hfine r hr).head).2.2;omega));have HFX:=zh hfx;have HCY:=zh hcyc;have HLL:=zh (jef rules);obtain⟨levels,hlv⟩:∃ levels,levels=(jap rules):=⟨_,rfl⟩;rw[<- hlv] at HGO HLL;have HLV:=zh hlv;clear hok hgoal hp hfine hfx hcyc hlv
   go_in
   go_wp2_with (first
    | (go_at_call 189;refine HMG.o.mono ?_;rintro e w1 ⟨rfl,hx1⟩;have HX1:=zh hx1;clear hx1)
    | (go_at_call 190;refine (HSO.o _ HX1.o).mono ?_;rintro e w2 ⟨rfl,⟨fv0,rv0,f0,nm0,np0,hnm0,hnp0,hst0⟩,hx2⟩;have HST0:=zh hst0;have HX2:=zh hx2;clear hst0 hx2)
    | (go_at_call 191;refine (HSR.o _ (HX1.o.t HX2.o)).mono ?_;rintro e w3 ⟨hs3,hx3⟩
       rcases hs3 with ⟨o,hlow,hmet,g,rfl,hgl,hgb⟩|⟨hc,_⟩
       rotate_left
       . rw[HCY.o] at hc;cases hc
       have HX3:=zh hx3;have hgb2:Blk w3 g 3 (ints levels):=by rw[HLV.o,<- jpz hlow hmet];exact hgb
       have HGB:=zh hgb2;have HGL:=zh hgl;clear hx3 hlow hmet hgb hgb2 hgl)
    | fail)
   obtain⟨K,hK⟩:∃ K:Nat->Prop,K=fun b=>b<w1.heap.size∨(w2.heap.size<=b/\b<w3.heap.size):=⟨_,rfl⟩
   have HKW:=zh (show ∀ b,b<w.heap.size->K b from fun b hb=>by rw[hK];exact .inl (Nat.lt_of_lt_of_le hb HX1.o.size));have HKG:=zh (show K g from by rw[hK];exact .inr ⟨Nat.le_of_lt HGL.o,HGB.o.lt⟩)
   have HA0:=zh (show AllR K w3 (w1.heap.size+1+1+1) (w1.heap.size+1+1) w1.heap.size (w1.heap.size+1) ⟨xs,List.replicate xs.length 0,0⟩ w3 (fun b=>b<w.heap.size) K fv0 rv0 f0 nm0 np0 from by
    rw[hK];exact⟨HST0.o.news HX3.o,fun _ hb=>hb,.refl _ _,HFX.o,by show xs.length<=300;omega,by simp,Nat.zero_le _,hnm0,hnp0⟩)
   have HXW:=zh (HX1.o.t (HX2.o.t HX3.o));clear hK HST0 hnm0 hnp0 HMG HSO HSR HFX;go_loopw [9,30] (fun num i wr=>∃ (k:Nat) (s:ST) (S T:Nat->Prop) (fv rv:Value) (f:Value->Value) (nm np:Nat),k<=rules.length/\num=.int .i64 s.num/\i=.int .i64 k/\J1 (jf5 rules levels (rules.length-k) k s=goal)/\J1 (AllR K w3 (w1.heap.size+1+1+1) (w1.heap.size+1+1) w1.heap.size (w1.heap.size+1) s wr S T fv rv f nm np)) (fun _ i _=>rules.length-(intOf i).toNat)
   case atStart=>exact⟨0,_,_,_,_,_,_,_,_,Nat.zero_le _,rfl,rfl,HGO.o.symm,HA0⟩
   case round =>
    rename World=>wA
    obtain⟨k,s,S1,T1,fv,rv,f,nm,np,hk,rfl,rfl,hsl,hal⟩:=hrel;have hk0:(0:Int)<=(k:Int):=by omega
    have HXR:=zh (show Ext w wA from (Still.toExt ((hal.o.still.sub HKW.o |> fun h=>(Still.of_ext HXW.o).t h))));by_cases hlt:k<rules.length
    . have hk1 : (k : Int)<(rules.length:Int):=by omega
      have HSL:=zh (show (match jfj (ownR rules levels k) 302 s (ownR rules levels k) with
        | none=>none
        | some s'=>jf5 rules levels (rules.length-(k+1)) (k+1) s')=goal from by
       have h:=hsl.o;rw[show rules.length-k=(rules.length-(k+1))+1 by omega] at h;exact h)
      have hszr:=hal.o.still.size;go_wp2;go_loopw [11,35] (fun own i wB=>∃ q:Nat,q<=rules.length/\i=.int .i64 q/\J1 (OwnK kRule wA.heap.size 178 (fun b=>b<w.heap.size) wB own (ownTo rules levels k q))/\J1 (Ext wA wB)) (fun _ i _=>rules.length-(intOf i).toNat)
      case atStart=>exact⟨0,Nat.zero_le _,rfl,zh OwnK.nil,zh (Ext.refl _)⟩
      case round =>
       rename World=>wB
       obtain⟨q,hq,rfl,ho,hx⟩:=hrel;obtain⟨A0,n0,c0,rfl,hn0,ha0,hb0⟩:=ho.o.form2;have hq0:(0:Int)<=(q:Int):=by omega
       have hszb:=hx.o.size;by_cases hqt:q<rules.length
       . have hq1:(q:Int)<(rules.length:Int):=by omega
         obtain⟨b,off,x,v1,u1,rfl,hb,hxk,hxs,ht,hu,p0,p1,p2⟩:=jam.at_ (HV.o.ext (HXR.o.t hx.o)) hqt;obtain⟨A1,c1,rfl,ha1,hb1⟩:=jaa.form ht;obtain⟨B1,d1,rfl,hd1',hd2'⟩:=jaa.form hu;have hgl1:g<wB.heap.size:=Nat.lt_of_lt_of_le (Nat.lt_of_lt_of_le HGB.o.lt hszr) hszb;have hgbb:Blk wB g 3 (ints levels):=(((hal.o.still.t (.of_ext hx.o)).block g HKG.o HGB.o.lt).trans HGB.o)
         obtain⟨lq,hlq⟩:∃ lq,lq=(at0 levels q):=⟨_,rfl⟩;have gq:=(hgbb.alloc (.cells #[.string x.head.n,.slice A1 x.head.args.length c1,.slice B1 x.body.length d1] 178)).int (i:=q) (by rw[HLL.o];exact hqt);rw[<- hlq] at gq;have HST:=zh (jxy (levels:=levels) (k:=k) hxk);have HOL:=zh (js3 rules levels k q);have HT:=zh ht;have HU2:=zh hu;have HLL2:=HLL.o;by_cases hqk:lq=k
         . have hqk1:((lq:Int) == (k:Int))=true:=by simp[hqk]
           rw[<- hlq,if_pos hqk] at HST;clear hlq hxk ht hu hgbb hqk
           go_wp2_with (first
            | (at_builtin;go_loud (refine jco (k:=kRule) (S:=fun b=>b<w.heap.size) (T:=fun b=>b<w.heap.size) rfl (.tmp 46) (.tmp 48) 23 (by rfl) j0 _ 64 Tryz.underlying23 hj0 hy0 hy1 hy2 (by rfl) (by rfl) (ho.o.ext (((Ext.refl _).alloc _).alloc _)) _ 1 1 (by rfl) (jar.one (k:=kRule) (x:=x) (Blk.at_new (g:=wB.heap.size+1) (by simp)) ⟨_,_,rfl,hxs,jad.sub (HT.o.ext (((Ext.refl _).alloc _).alloc _)) (fun _ h=>h),jao.sub (HU2.o.ext (((Ext.refl _).alloc _).alloc _)) (fun _ h=>h)⟩) (fun _ hb _=>hb) (fun g' hg' hT=>absurd (ho.o.at_ g' hg').1 (Nat.not_le.2 (Nat.lt_of_lt_of_le hT HXR.o.size))) (maxOf (by have:=HOL.o;omega)) (by have:=HOL.o;omega) (Nat.le_trans hx.o.size (by go_size)) ?_);intro v3 w5 hap)
            | fail)
           go_roundw
           case rel=>exact⟨q+1,by omega,by go_num,zh (by rw[HST.o];exact hap.own),zh (hap.toExt ((hx.o.alloc _).alloc _) (Nat.le_refl _))⟩
           case measure=>simp[intOf];omega
         have hqk1:((lq:Int) == (k:Int))=false:=by rw[beq_eq_false_iff_ne];omega
         rw[<- hlq,if_neg hqk] at HST;clear hlq hxk ht hu hgbb hqk;go_wp2_with fail
         go_roundw
         case rel=>exact⟨q+1,by omega,by go_num,zh (by rw[HST.o,List.append_nil];exact ho.o.alloc _),zh (hx.o.alloc _)⟩
         case measure=>simp[intOf];omega
       have HOW:=zh (j0f rules levels k (q:=q) (by omega));rw[HOW.o] at hn0 ho;obtain⟨own,hown⟩:∃ own,own=(ownR rules levels k):=⟨_,rfl⟩;rw[<- hown] at hn0 ho HSL;have HOM:=zh (show ∀ r∈own,r∈rules from fun r hr=>jzl (rules:=rules) (levels:=levels) (k:=k) (by rw[<- hown];exact hr));have hol:own.length<=8:=by rw[hown,<- HOW.o];exact Nat.le_trans (js3 rules levels k q) (by omega)
       have HLO:=zh hol;have HO2:=zh (show jam (fun b=>b<w.heap.size∨(wA.heap.size<=b/\b<wB.heap.size)) wB (.slice A0 n0 c0) own from ListK.sub (k:=kRule) (ListK.low (k:=kRule) (ho.o.list (S':=fun b=>b<w.heap.size∨wA.heap.size<=b) (fun _ h=>.inl h) (fun _ h=>.inr h))) (fun b hb=>hb.1.imp id (fun h=>⟨h,hb.2⟩)));have HAL:=zh (hal.o.news hx.o);have HNO0:=zh hn0.o;have hn8:n0<=8:=by rw[hn0.o];exact hol
       clear hown hn0 hol;obtain⟨T2,hT2⟩:∃ T2:Nat->Prop,T2=fun b=>T1 b∨(wA.heap.size<=b/\b<wB.heap.size):=⟨_,rfl⟩
       rw[<- hT2] at HAL
       have HOT:=zh (show ∀ b,(b<w.heap.size∨(wA.heap.size<=b/\b<wB.heap.size))->T2 b from fun b hb=>by
        rw[hT2];exact hb.imp (fun h=>hal.o.sub b (HKW.o b h)) id)
       clear hT2 ho;go_wp2_with fail
       go_loopw [9,14] (fun num next wC=>∃ (s2:ST) (nx:List GR) (fu:Nat) (S3 T3 U:Nat->Prop) (fv rv:Value) (f:Value->Value) (nm np:Nat),num=.int .i64 s2.num/\J1 (jfj own fu s2 nx=jfj own 302 s own)/\J1 (nx=[]∨302<=fu+s2.facts.length)/\J1 (jam U wC next nx)/\J1 (∀ r∈nx,r∈rules)/\J1 (nx.length<=8)/\J1 (∀ b,U b->T3 b) /\
        J1 (AllR T2 wB (w1.heap.size+1+1+1) (w1.heap.size+1+1) w1.heap.size (w1.heap.size+1) s2 wC S3 T3 fv rv f nm np)) (fun num next _=>2*(1000-(intOf num).toNat)+min 1 (lenOf next))
       case atStart=>exact⟨s,own,302,_,_,_,_,_,_,_,_,rfl,zh rfl,zh (.inr (Nat.le_add_right _ _)),HO2,HOM,HLO,HOT,zh HAL.o.fresh⟩
       case round =>
        rename World=>wC
        obtain⟨s2,nx,fu,S3,T3,U,fv2,rv2,f2,nm2,np2,rfl,hlp,hfu,hnx,hnm,hn8',hUT,ha2⟩:=hrel;obtain⟨NA,nc,rfl,_,_⟩:=jaa.form hnx.o
        cases nx with
        | nil =>
          have hz0:(0:Int)<((([]:List GR).length:Nat):Int)↔False:=by simp
          have HGOAL:=zh (show jf5 rules levels (rules.length-(k+1)) (k+1) s2=goal from by
           have h:=HSL.o;rw[<- hlp.o,jjz] at h;exact h)
          have HA3:=zh (show AllR K w3 (w1.heap.size+1+1+1) (w1.heap.size+1+1) w1.heap.size (w1.heap.size+1) s2 wC S3 T3 fv2 rv2 f2 nm2 np2 from
           ⟨ha2.o.st,fun b hb=>ha2.o.sub b (HAL.o.sub b hb),HAL.o.still.t (ha2.o.still.sub HAL.o.sub),ha2.o.ff,ha2.o.fl,ha2.o.rl,ha2.o.nl,ha2.o.nm,ha2.o.np⟩)
          clear hlp hfu;go_wp2_with fail
          go_roundw
          case rel=>exact⟨k+1,s2,_,_,_,_,_,_,_,by omega,rfl,by go_num,HGOAL,HA3⟩
          case measure=>simp[intOf];omega
        | cons r0 nx0 =>
          obtain⟨nx,hnxe⟩:∃ nx,nx=(r0 :: nx0):=⟨_,rfl⟩;rw[<- hnxe] at hlp hnx hnm hn8' hfu ⊢;have hne:nx≠ []:=by rw[hnxe];simp
          have hpos:0<nx.length:=List.length_pos_iff.2 hne;have hpos':(0:Int)<(nx.length:Int):=by omega
          have hfu2:302<=fu+s2.facts.length:=hfu.o.resolve_left hne;have hfl:=ha2.o.fl;obtain⟨fu',rfl⟩:∃ fu',fu=fu'+1:=⟨fu-1,by omega⟩
          have HLP:=zh (show (match jcl s2.facts s2.rounds nx [] with
            | none=>none
            | some fr=>jfj own fu' (s2.next fr) (own.filter (jdb fr)))=jfj own 302 s own from by
           have h:=hlp.o
           rw [show jfj own (fu'+1) s2 nx=if nx.isEmpty then some s2 else match jcl s2.facts s2.rounds nx [] with
            | none=>none
            | some fr=>jfj own fu' (s2.next fr) (own.filter (jdb fr)) from rfl,if_neg (by rw[hnxe];simp)] at h
           exact h)
          have hnum:s2.num<=300:=Nat.le_trans ha2.o.nl hfl;have HRD:=zh (j0d nx _ (s2.num+1) (w1.heap.size+1+1+1) S3 T3 U wC (w1.heap.size+1+1) w1.heap.size (w1.heap.size+1) fv2 rv2 f2 s2.facts s2.rounds nm2 np2 ha2.o.st hnx.o hUT.o (fun r hr=>HFI.o r (hnm.o r hr)) (fun r hr=>HRN.o r (hnm.o r hr)) hn8'.o ha2.o.ff hfl ha2.o.rl (by omega) (by have:=ha2.o.nm;omega) (by have:=ha2.o.np;omega));have HRF:=zh (fun (fr:List GA) (h:jcl s2.facts s2.rounds nx []=some fr)=>jgw ha2.o.ff hfl (fun r hr=>HFI.o r (hnm.o r hr)) h);have HXC:=zh (show Ext w wC from Still.toExt ((Still.of_ext HXR.o).t ((Still.of_ext hx.o).t (ha2.o.still.sub (fun b hb=>HAL.o.sub b (HKW.o b hb))))));clear hlp hfu hnxe hne;unfold ji0 at HRD
          cases hro:jcl s2.facts s2.rounds nx [] with
          | none =>
            rw[hro] at HRD HLP
            have HGN:=zh (show goal=none from by
             have h:=HSL.o;rw[<- HLP.o] at h;exact h.symm)
            clear hro HRF
            go_wp2_with (first
             | (go_at_call 192;refine HRD.o.mono ?_;rintro e w5 ⟨rfl,hx5⟩)
             | fail)
            go_ret2;exact⟨HNO.o HGN.o _ _ rfl,HXC.o.t hx5⟩
          | some fr =>
            rw[hro] at HRD HLP;obtain⟨hfrf,hfrl⟩:=HRF.o _ hro;have HFR:=zh hfrf;clear hro HRF hfrf
            cases hfr:fr with
            | nil =>
              have HFN:=zh hfr
              go_wp2_with (first
               | (go_at_call 192;refine HRD.o.mono ?_;rintro e w5 ⟨mc,kk,nm',np',fv',rv',f',S',T',rfl,hst,hnm',hnp',hmp,hkk,hmcl,hT1,hT2',hsti⟩
                  obtain rfl:kk=0:=hkk.2 HFN.o;have HA5:=zh (ha2.o.round hst hnm' hnp' hT1 hsti HFR.o hfrl);have HMP:=zh hmp;have HTC:=zh (jm9 _ own mc 0 fr w5 (jam.imp HO2.o (fun _ h=>h) (fun b hb hlt=>HA5.o.still.block b (HOT.o b hb) hlt) HA5.o.still.size) hmp (by have:=HLO.o;omega));clear hst hnm' hnp' hmp hkk hT2' hsti)
               | (at_len;refine jbr _ rfl _ rfl mc 0 (cameF fr) rfl HMP.o ?_)
               | (go_at_call 193;refine HTC.o.mono ?_;rintro e w6 ⟨⟨u6,rfl,hu6⟩,hx6⟩;have HU6:=zh hu6;have HX6:=zh hx6;clear hu6 hx6)
               | fail)
              go_roundw
              case rel =>
               refine⟨s2.next fr,own.filter (jdb fr),fu',_,_,_,_,_,_,_,_,?_,HLP,zh (.inl (by rw[HFN.o];exact jmu own)),HU6,zh (fun r hr=>HOM.o r (List.mem_filter.1 hr).1),zh (Nat.le_trans (List.length_filter_le _ _) HLO.o),zh (fun b hb=>?_),zh (HA5.o.news HX6.o)⟩
               . rw[jqj,HFN.o];rfl
               rcases hb.1 with h|h
               . exact .inl (HA5.o.sub b (HOT.o b h.1))
               exact .inr ⟨h,hb.2⟩
              case measure =>
               obtain⟨A6,c6,rfl,_,_⟩:=jaa.form HU6.o;have e0:(own.filter (jdb fr)).length=0:=by rw[HFN.o,jmu];rfl
               simp only[lenOf,intOf];omega
            | cons a0 fr0 =>
              have HFN:=zh hfr;have hfp:0<fr.length:=by rw[hfr];simp
              have HNE:=zh (show (s2.next fr).num=s2.num+1 from by rw[jqj,hfr];rfl);clear hfr
              go_wp2_with (first
               | (go_at_call 192;refine HRD.o.mono ?_;rintro e w5 ⟨mc,kk,nm',np',fv',rv',f',S',T',rfl,hst,hnm',hnp',hmp,hkk,hmcl,hT1,hT2',hsti⟩
                  have hkp:0<kk:=Nat.pos_of_ne_zero (fun h=>by have h2:=hkk.1 h;rw[h2] at hfp;simp at hfp);have hkp':(0:Int)<(kk:Int):=(by omega)
                  have HA5:=zh (ha2.o.round hst hnm' hnp' hT1 hsti HFR.o hfrl);have HMP:=zh hmp;have HTC:=zh (jm9 _ own mc kk fr w5 (jam.imp HO2.o (fun _ h=>h) (fun b hb hlt=>HA5.o.still.block b (HOT.o b hb) hlt) HA5.o.still.size) hmp (by have:=HLO.o;omega));clear hst hnm' hnp' hmp hkk hT2' hsti)
               | (at_len;refine jbr _ rfl _ rfl mc kk (cameF fr) rfl HMP.o ?_)
               | (go_at_call 193;refine HTC.o.mono ?_;rintro e w6 ⟨⟨u6,rfl,hu6⟩,hx6⟩;have HU6:=zh hu6;have HX6:=zh hx6;clear hu6 hx6)
               | fail)
              go_roundw
              case rel =>
               refine⟨s2.next fr,own.filter (jdb fr),fu',_,_,_,_,_,_,_,_,?_,HLP,zh (.inr ?_),HU6,zh (fun r hr=>HOM.o r (List.mem_filter.1 hr).1),zh (Nat.le_trans (List.length_filter_le _ _) HLO.o),zh (fun b hb=>?_),zh (HA5.o.news HX6.o)⟩
               . rw[HNE.o];go_num
               . show 302<=fu'+(s2.facts++fr).length
                 rw[List.length_append];omega
               rcases hb.1 with h|h
               . exact .inl (HA5.o.sub b (HOT.o b h.1))
               exact .inr ⟨h,hb.2⟩
              case measure =>
               simp only[lenOf,intOf];omega
    obtain rfl:k=rules.length:=by omega
    have HGS:=zh (show goal=some s from by
     have h:=hsl.o;rw[Nat.sub_self] at h;exact h.symm)
    go_wp2_with fail
    go_ret2;exact⟨HYES.o s HGS.o _ _ ⟨_,_,_,_,_,_,_,_,_,_,_,rfl,hal.o.st,fun b hb=>hal.o.sub b (HKW.o b hb),hal.o.ff,hal.o.fl⟩,HXR.o⟩
end Go.Proofs.YthiflhkcpanaaaaGreatDoor
