/- Own texts, joined. -/
import Derived.Test.YthiflhkcpanaaaaGreatDoorDas22
set_option linter.unusedSimpArgs false
set_option linter.unusedVariables false
set_option maxHeartbeats 4000000
set_option maxRecDepth 100000
namespace Go.Proofs.YthiflhkcpanaaaaGreatDoor
open Go.RowKit
theorem jxd (p:GP) (v:Value) (l:Int) (w:World) (hl:0<=l/\l<=1048576) (hs:p.atom.n.size<=maxLen) {S:Nat->Prop} (hv:jad S w v p.atom.args) :
  Calls Tryz.prog 102 #[.agg #[.bool p.no,.string p.atom.n,v],.int .i64 l] w fun e w'=>e=.returned (.int .i64 (purse l (wPart p)))/\Ext w w':=by
 obtain⟨A,c,rfl,hc1,hc2⟩:=jaa.form hv;have hw:=jbj (jj4 p.atom _ l _ hl hs (hv.ext ((Ext.refl w).alloc (.cells #[.bool p.no,.string p.atom.n,.slice A p.atom.args.length c] 132))));obtain⟨h0,h1⟩:=hl;by_cases hq:l<wAtom p.atom
 . have HP:=zh (jbf (l:=l) (n:=wPart p) hq)
   have hw1:=zh (hw.1 hq);clear hw
   go_in;go_wp2_with (go_at_call 32;go_fit hw1.o;rintro e w1 ⟨rfl,hx1⟩)
   go_ret;exact⟨by rw[HP.o];rfl,((Ext.refl _).alloc _).t hx1⟩
 have HP:=zh (jcm (l:=l) (n:=wPart p) (by unfold wPart;omega));have hw1:=zh (hw.2 (by omega));have hle:(wAtom p.atom:Int)<=l:=by omega
 clear hw
 go_in;go_wp2_with (go_at_call 32;go_fit hw1.o;rintro e w1 ⟨rfl,hx1⟩)
 go_ret;exact⟨by rw[HP.o];rfl,((Ext.refl _).alloc _).t hx1⟩
theorem jue (v:Value) (xs:List GP) (l:Int) (w:World) (hl:0<=l/\l<=1048576) {S:Nat->Prop} (hv:jao S w v xs) :
  Calls Tryz.prog 41 #[v,.int .i64 l] w fun e w'=>e=.returned (.int .i64 (purse l (jdl xs)))/\Ext w w':=by
 obtain⟨h0,h1⟩:=hl;obtain⟨A,c,rfl,hc1,hc2⟩:=jaa.form hv;by_cases hc:l<xs.length
 . have HP:=zh (jbf (l:=l) (n:=jdl xs) (by unfold jdl;omega))
   go_in;go_wp2;go_ret;exact⟨by rw[HP.o];rfl,Ext.refl _⟩
 go_in;go_wp2;go_loopw [1,5] (fun lf i wr=>∃ k:Nat,∃ q:Int,k<=xs.length/\i=.int .i64 k/\lf=.int .i64 q/\0<=q/\q<=l/\q=l-xs.length-((xs.take k).map wPart).sum/\Ext w wr) (fun _ i _=>xs.length-(intOf i).toNat)
 case atStart=>exact⟨0,_,Nat.zero_le _,rfl,rfl,by omega,by omega,by simp,Ext.refl _⟩
 case round =>
  obtain⟨k,q,hk,rfl,rfl,hq0,hq1,hq,hx⟩:=hrel;have HQ:=zh hq;clear hq;by_cases hlt:k<xs.length
  . obtain ⟨b,off,x,v,rfl,hb,hxk,hxs,ht,hc0,hc1,hc2⟩:=jao.at_ (hv.ext hx) hlt
    have HS:=zh (jis wPart xs k x hxk);have HL:=zh (jet wPart xs (k+1));clear hxk hv;have hw:=jbj (jxd x v q wr ⟨by omega,by omega⟩ hxs ht);by_cases hs:q<wPart x
    . have HP:=zh (jbf (l:=l) (n:=jdl xs) (by have:=HS.o;have:=HL.o;have:=HQ.o;unfold jdl;omega))
      have hw1:=zh (hw.1 hs);clear hw;go_wp2_with (go_at_call 102;refine hw1.o.mono ?_;rintro e w1 ⟨rfl,hx1⟩)
      go_ret;exact⟨by rw[HP.o];rfl,hx.t hx1⟩
    have hw1:=zh (hw.2 (by omega));have hle:(wPart x:Int)<=q:=by omega
    clear hw;go_wp2_with (go_at_call 102;refine hw1.o.mono ?_;rintro e w1 ⟨rfl,hx1⟩)
    go_roundw
    case rel=>exact⟨k+1,_,by omega,by go_num,rfl,by omega,by omega,by have:=HS.o;have:=HQ.o;omega,hx.t hx1⟩
    case measure=>simp[intOf];omega
  have HP:=zh (jcm (l:=l) (n:=jdl xs) (by
    have:=HQ.o;rw[List.take_of_length_le (by omega)] at this;unfold jdl;omega))
  go_wp2;go_ret;exact⟨by rw[HP.o];have:=HQ.o;rw[List.take_of_length_le (by omega)] at this;rw[this];unfold jdl;exact congrArg (fun z=>Ending.returned (.int .i64 z)) (by push_cast;omega),hx⟩
theorem jxe (r:GR) (v u:Value) (l:Int) (w:World) (hl:0<=l/\l<=1048576) (hs:r.head.n.size<=maxLen) {S:Nat->Prop} (hv:jad S w v r.head.args) (hu:jao S w u r.body) :
  Calls Tryz.prog 139 #[.agg #[.string r.head.n,v,u],.int .i64 l] w fun e w'=>e=.returned (.int .i64 (purse l (wRule r)))/\Ext w w':=by
 obtain⟨A,c,rfl,hc1,hc2⟩:=jaa.form hv;obtain⟨B,d,rfl,hd1,hd2⟩:=jaa.form hu;have hw:=jbj (jj4 r.head _ l _ hl hs (hv.ext ((Ext.refl w).alloc (.cells #[.string r.head.n,.slice A r.head.args.length c,.slice B r.body.length d] 176))));obtain⟨h0,h1⟩:=hl;have HU:=zh (hu.ext ((Ext.refl w).alloc (.cells #[.string r.head.n,.slice A r.head.args.length c,.slice B r.body.length d] 176)));have HB:=zh (Blk.new w 176 #[.string r.head.n,.slice A r.head.args.length c,.slice B r.body.length d]);clear hv hu;by_cases hq:l<wAtom r.head
 . have HP:=zh (jbf (l:=l) (n:=wRule r) (by unfold wRule;omega))
   have hw1:=zh (hw.1 hq);clear hw
   go_in;go_wp2_with (go_at_call 32;go_fit hw1.o;rintro e w1 ⟨rfl,hx1⟩)
   go_ret;exact⟨by rw[HP.o];rfl,((Ext.refl _).alloc _).t hx1⟩
 have hle:(wAtom r.head:Int)<=l:=by omega
 have hw1:=zh (hw.2 hle);have hP2:=fun W hW=>jbj (jue _ r.body (l-wAtom r.head) W ⟨by omega,by omega⟩ (HU.o.ext hW))
 clear hw;by_cases hq2:l-wAtom r.head<jdl r.body
 . have HP:=zh (jbf (l:=l) (n:=wRule r) (by unfold wRule;omega))
   have hw2:=zh (fun W hW=>(hP2 W hW).1 hq2);clear hP2
   go_in
   go_wp2_with (first
    | (go_at_call 32;go_fit hw1.o;rintro e w1 ⟨rfl,hx1⟩;have HX1:=zh hx1;have hb1:=HB.o.ext hx1;have q2:=hb1.cell 2;have hl1:=hb1.lt;clear hx1 hb1)
    | (go_at_call 41;refine (hw2.o _ HX1.o).mono ?_;rintro e w2 ⟨rfl,hx2⟩))
   go_ret;exact⟨by rw[HP.o];rfl,((Ext.refl _).alloc _).t (HX1.o.t hx2)⟩
 have HP:=zh (jcm (l:=l) (n:=wRule r) (by unfold wRule;omega));have hw2:=zh (fun W hW=>(hP2 W hW).2 (by omega));have hle2:(jdl r.body:Int)<=l-wAtom r.head:=by omega
 clear hP2
 go_in
 go_wp2_with (first
  | (go_at_call 32;go_fit hw1.o;rintro e w1 ⟨rfl,hx1⟩;have HX1:=zh hx1;have hb1:=HB.o.ext hx1;have q2:=hb1.cell 2;have hl1:=hb1.lt;clear hx1 hb1)
  | (go_at_call 41;refine (hw2.o _ HX1.o).mono ?_;rintro e w2 ⟨rfl,hx2⟩))
 go_ret;exact⟨by rw[HP.o];unfold wRule;exact congrArg (fun z=>Ending.returned (.int .i64 z)) (by push_cast;omega),((Ext.refl _).alloc _).t (HX1.o.t hx2)⟩
theorem juf (v:Value) (xs:List GR) (l:Int) (w:World) (hl:0<=l/\l<=1048576) {S:Nat->Prop} (hv:jam S w v xs) :
  Calls Tryz.prog 73 #[v,.int .i64 l] w fun e w'=>e=.returned (.int .i64 (purse l (jdm xs)))/\Ext w w':=by
 obtain⟨h0,h1⟩:=hl;obtain⟨A,c,rfl,hc1,hc2⟩:=jaa.form hv;by_cases hc:l<xs.length
 . have HP:=zh (jbf (l:=l) (n:=jdm xs) (by unfold jdm;omega))
   go_in;go_wp2;go_ret;exact⟨by rw[HP.o];rfl,Ext.refl _⟩
 go_in;go_wp2;go_loopw [1,5] (fun lf i wr=>∃ k:Nat,∃ q:Int,k<=xs.length/\i=.int .i64 k/\lf=.int .i64 q/\0<=q/\q<=l/\q=l-xs.length-((xs.take k).map wRule).sum/\Ext w wr) (fun _ i _=>xs.length-(intOf i).toNat)
 case atStart=>exact⟨0,_,Nat.zero_le _,rfl,rfl,by omega,by omega,by simp,Ext.refl _⟩
 case round =>
  obtain⟨k,q,hk,rfl,rfl,hq0,hq1,hq,hx⟩:=hrel;have HQ:=zh hq;clear hq;by_cases hlt:k<xs.length
  . obtain ⟨b,off,x,v,u,rfl,hb,hxk,hxs,ht,hu,hc0,hc1,hc2⟩:=jam.at_ (hv.ext hx) hlt
    have HS:=zh (jis wRule xs k x hxk);have HL:=zh (jet wRule xs (k+1));clear hxk hv;have hw:=jbj (jxe x v u q wr ⟨by omega,by omega⟩ hxs ht hu);by_cases hs:q<wRule x
    . have HP:=zh (jbf (l:=l) (n:=jdm xs) (by have:=HS.o;have:=HL.o;have:=HQ.o;unfold jdm;omega))
      have hw1:=zh (hw.1 hs);clear hw;go_wp2_with (go_at_call 139;refine hw1.o.mono ?_;rintro e w1 ⟨rfl,hx1⟩)
      go_ret;exact⟨by rw[HP.o];rfl,hx.t hx1⟩
    have hw1:=zh (hw.2 (by omega));have hle:(wRule x:Int)<=q:=by omega
    clear hw;go_wp2_with (go_at_call 139;refine hw1.o.mono ?_;rintro e w1 ⟨rfl,hx1⟩)
    go_roundw
    case rel=>exact⟨k+1,_,by omega,by go_num,rfl,by omega,by omega,by have:=HS.o;have:=HQ.o;omega,hx.t hx1⟩
    case measure=>simp[intOf];omega
  have HP:=zh (jcm (l:=l) (n:=jdm xs) (by
    have:=HQ.o;rw[List.take_of_length_le (by omega)] at this;unfold jdm;omega))
  go_wp2;go_ret;exact⟨by rw[HP.o];have:=HQ.o;rw[List.take_of_length_le (by omega)] at this;rw[this];unfold jdm;exact congrArg (fun z=>Ending.returned (.int .i64 z)) (by push_cast;omega),hx⟩
theorem jug (p:GP) (v u:Value) (w:World) {S T:Nat->Prop} (hv:jad S w v p.atom.args) (hu:jad T w u p.atom.args) :
  Calls Tryz.prog 110 #[.agg #[.bool p.no,.string p.atom.n,v],.agg #[.bool p.no,.string p.atom.n,u]] w fun e w'=>e=.returned (.bool true)/\Ext w w':=by
 obtain⟨A,c,rfl,hc1,hc2⟩:=jaa.form hv;obtain⟨B,d,rfl,hd1,hd2⟩:=jaa.form hu;have HV:=zh hv;have HU:=zh hu;have hbb:(p.no == p.no)=true:=beq_self_eq_true _;clear hv hu
 go_in;go_wp2_with (go_at_call 36;refine (jhx p.atom _ _ _ (HV.o.ext (((Ext.refl _).alloc _).alloc _)) (HU.o.ext (((Ext.refl _).alloc _).alloc _))).mono ?_;rintro e w1 ⟨rfl,hx1⟩)
 go_ret;exact⟨rfl,(((Ext.refl _).alloc _).alloc _).t hx1⟩
theorem jsi (v u:Value) (xs:List GP) (w:World) {S T:Nat->Prop} (hv:jao S w v xs) (hu:jao T w u xs) :
  Calls Tryz.prog 46 #[v,u] w fun e w'=>e=.returned (.bool true)/\Ext w w':=by
 obtain⟨A,c,rfl,hc1,hc2⟩:=jaa.form hv;obtain⟨B,d,rfl,hd1,hd2⟩:=jaa.form hu;have HV:=zh hv;have HU:=zh hu;clear hv hu
 go_in;go_wp2;go_loopw [5] (fun i wr=>∃ k:Nat,k<=xs.length/\i=.int .i64 k/\Ext w wr) (fun i _=>xs.length-(intOf i).toNat)
 case atStart=>exact⟨0,Nat.zero_le _,rfl,Ext.refl _⟩
 case round =>
  obtain⟨k,hk,rfl,hx⟩:=hrel;by_cases hlt:k<xs.length
  . obtain ⟨b,off,x,v1,rfl,hb,hxk,hxs,ht1,hc0,hc1,hc2⟩:=jao.at_ (HV.o.ext hx) hlt
    obtain⟨b',off',x',v2,rfl,hb',hxk',hxs',ht2,hc0',hc1',hc2'⟩:=jao.at_ (HU.o.ext hx) hlt;obtain rfl:x=x':=Option.some.inj (hxk.symm.trans hxk');clear hxk hxk';have hk0:(0:Int)<=(k:Int):=Int.natCast_nonneg _;have hk1:(k:Int)<(xs.length:Int):=by omega
    go_wp2_with fail
    go_still_tail 8,(by kernel_rfl)
    change wpList _ _ _ _ _ wr.drew;clear hb hb' hc0 hc1 hc2 hc0' hc1' hc2';go_wp2_with (go_at_call 110;refine (jug x _ _ _ ht1.drew_ ht2.drew_).mono ?_;rintro e w1 ⟨rfl,hx1⟩)
    go_roundw
    case rel=>exact⟨k+1,by omega,by go_num,hx.drew.t hx1⟩
    case measure=>simp[intOf];omega
  go_wp2;go_ret;exact⟨rfl,hx⟩
theorem juh (r:GR) (v1 u1 v2 u2:Value) (w:World) {S T S' T':Nat->Prop} (hv1:jad S w v1 r.head.args) (hu1:jao T w u1 r.body) (hv2:jad S' w v2 r.head.args) (hu2:jao T' w u2 r.body) :
  Calls Tryz.prog 142 #[.agg #[.string r.head.n,v1,u1],.agg #[.string r.head.n,v2,u2]] w fun e w'=>e=.returned (.bool true)/\Ext w w':=by
 obtain⟨A1,c1,rfl,hc1,hc1'⟩:=jaa.form hv1;obtain⟨B1,d1,rfl,hd1,hd1'⟩:=jaa.form hu1;obtain⟨A2,c2,rfl,hc2,hc2'⟩:=jaa.form hv2;obtain⟨B2,d2,rfl,hd2,hd2'⟩:=jaa.form hu2;have HV1:=zh hv1;have HU1:=zh hu1;have HV2:=zh hv2;have HU2:=zh hu2;clear hv1 hu1 hv2 hu2
 go_in
 go_wp2_with (first
  | (go_at_call 36;refine (jhx r.head _ _ _ (HV1.o.ext (((Ext.refl _).alloc _).alloc _)) (HV2.o.ext (((Ext.refl _).alloc _).alloc _))).mono ?_;rintro e w1 ⟨rfl,hx1⟩;obtain⟨hcc,hcf⟩:=hx1.cells)
  | (go_at_call 46;refine (jsi _ _ r.body _ (HU1.o.ext ((((Ext.refl _).alloc _).alloc _).t hx1)) (HU2.o.ext ((((Ext.refl _).alloc _).alloc _).t hx1))).mono ?_;rintro e w2 ⟨rfl,hx2⟩))
 go_ret;exact⟨rfl,((((Ext.refl _).alloc _).alloc _).t hx1).t hx2⟩
theorem jsj (v u:Value) (xs:List GR) (w:World) {S T:Nat->Prop} (hv:jam S w v xs) (hu:jam T w u xs) :
  Calls Tryz.prog 83 #[v,u] w fun e w'=>e=.returned (.bool true)/\Ext w w':=by
 obtain⟨A,c,rfl,hc1,hc2⟩:=jaa.form hv;obtain⟨B,d,rfl,hd1,hd2⟩:=jaa.form hu;have HV:=zh hv;have HU:=zh hu;clear hv hu
 go_in;go_wp2;go_loopw [5] (fun i wr=>∃ k:Nat,k<=xs.length/\i=.int .i64 k/\Ext w wr) (fun i _=>xs.length-(intOf i).toNat)
 case atStart=>exact⟨0,Nat.zero_le _,rfl,Ext.refl _⟩
 case round =>
  obtain⟨k,hk,rfl,hx⟩:=hrel;by_cases hlt:k<xs.length
  . obtain ⟨b,off,x,v1,u1,rfl,hb,hxk,hxs,ht1,hp1,hc0,hc1,hc2⟩:=jam.at_ (HV.o.ext hx) hlt
    obtain⟨b',off',x',v2,u2,rfl,hb',hxk',hxs',ht2,hp2,hc0',hc1',hc2'⟩:=jam.at_ (HU.o.ext hx) hlt;obtain rfl:x=x':=Option.some.inj (hxk.symm.trans hxk');clear hxk hxk';have hk0:(0:Int)<=(k:Int):=Int.natCast_nonneg _;have hk1:(k:Int)<(xs.length:Int):=by omega
    go_wp2_with fail
    go_still_tail 8,(by kernel_rfl)
    change wpList _ _ _ _ _ wr.drew;clear hb hb' hc0 hc1 hc2 hc0' hc1' hc2';go_wp2_with (go_at_call 142;refine (juh x _ _ _ _ _ ht1.drew_ hp1.drew_ ht2.drew_ hp2.drew_).mono ?_;rintro e w1 ⟨rfl,hx1⟩)
    go_roundw
    case rel=>exact⟨k+1,by omega,by go_num,hx.drew.t hx1⟩
    case measure=>simp[intOf];omega
  go_wp2;go_ret;exact⟨rfl,hx⟩
def BaseO (S:Nat->Prop) (w:World) (v:Value) (B:GB):Prop :=
 ∃ (a b c:Value) (S1 S2 S3:Nat->Prop),v=.agg #[a,.int .i64 B.time,b,c]/\je7 S1 w a B.rules/\jbn S2 w b B.given/\jc6 S3 w c B.hist/\(∀ i,S1 i∨S2 i∨S3 i->S i)/\(∀ i,S1 i->¬ S2 i)/\(∀ i,S1 i->¬ S3 i)/\∀ i,S2 i->¬ S3 i
theorem BaseO.read {S:Nat->Prop} {w:World} {v:Value} {B:GB} (h:BaseO S w v B):BaseR S w v B:=by
 obtain⟨a,b,c,S1,S2,S3,h1,h2,h3,h4,h5,_⟩:=h;exact⟨a,b,c,h1,h2.read.sub (fun i h=>h5 i (.inl h)),h3.read.sub (fun i h=>h5 i (.inr (.inl h))),h4.read.sub (fun i h=>h5 i (.inr (.inr h)))⟩
theorem jmx (B:GB) (v u:Value) (w:World) {S T:Nat->Prop} (hv:BaseR S w v B) (hu:BaseR T w u B) :
  Calls Tryz.prog 23 #[v,u] w fun e w'=>e=.returned (.bool true)/\Ext w w':=by
 obtain⟨a1,b1,c1,rfl,ha1,hb1,hc1⟩:=hv;obtain⟨a2,b2,c2,rfl,ha2,hb2,hc2⟩:=hu;obtain⟨A1,p1,rfl,hp1,hp1'⟩:=jaa.form ha1;obtain⟨B1,q1,rfl,hq1,hq1'⟩:=jaa.form hb1;obtain⟨C1,r1,rfl,hr1,hr1'⟩:=jaa.form hc1;obtain⟨A2,p2,rfl,hp2,hp2'⟩:=jaa.form ha2;obtain⟨B2,q2,rfl,hq2,hq2'⟩:=jaa.form hb2;obtain⟨C2,r2,rfl,hr2,hr2'⟩:=jaa.form hc2;have HA1:=zh ha1;have HB1:=zh hb1;have HC1:=zh hc1;have HA2:=zh ha2;have HB2:=zh hb2;have HC2:=zh hc2;clear ha1 hb1 hc1 ha2 hb2 hc2
 go_in
 go_wp2_with (first
  | (go_at_call 83;refine (jsj _ _ B.rules _ (HA1.o.ext (((Ext.refl _).alloc _).alloc _)) (HA2.o.ext (((Ext.refl _).alloc _).alloc _))).mono ?_;rintro e w1 ⟨rfl,hx1⟩;obtain⟨hcc,hcf⟩:=hx1.cells)
  | (go_at_call 27;refine (jdc _ _ B.given _ (HB1.o.ext ((((Ext.refl _).alloc _).alloc _).t hx1)) (HB2.o.ext ((((Ext.refl _).alloc _).alloc _).t hx1))).mono ?_;rintro e w2 ⟨rfl,hx2⟩;have hx12:=hx1.t hx2;obtain⟨hcc2,hcf2⟩:=hx12.cells)
  | (go_at_call 84;refine (jnj _ _ B.hist _ (HC1.o.ext ((((Ext.refl _).alloc _).alloc _).t hx12)) (HC2.o.ext ((((Ext.refl _).alloc _).alloc _).t hx12))).mono ?_;rintro e w3 ⟨rfl,hx3⟩))
 go_ret;exact⟨rfl,((((Ext.refl _).alloc _).alloc _).t hx12).t hx3⟩
end Go.Proofs.YthiflhkcpanaaaaGreatDoor
namespace Go.Proofs.YthiflhkcpanaaaaGreatDoor
open Go.RowKit
section
variable (w:World) {ops:Array Oper} {rest:List Oper} {o:Oper} {a:Act} {Q:Exit->Act->World->Prop}
theorem ja5 (hg:o.guard=none) (m x:Operand) (hop:o.op=Op.lookup 187 m x true) (B n:Nat) (f:ByteArray->Option Nat) (hm:a.eval m=.map (some B)) (hown:MapN w B n f) (s:ByteArray) (hx:a.eval x=.string s) (hs:s.size<=maxLen) (k:Nat) (hk:f s=some k)
  (hK:wpList Tryz.prog ops Q rest (a.put o.dst (.tuple #[.int .i64 (k:Int),.bool true])) w):wpList Tryz.prog ops Q (o :: rest) a w :=
 jhe w hg m x hop B n f hm hown s hx hs (by rw[hk];exact hK)
theorem jb8 (hg:o.guard=none) (m x:Operand) (hop:o.op=Op.lookup 187 m x true) (B n:Nat) (f:ByteArray->Option Nat) (hm:a.eval m=.map (some B)) (hown:MapN w B n f) (s:ByteArray) (hx:a.eval x=.string s) (hs:s.size<=maxLen) (hk:f s=none)
  (hK:wpList Tryz.prog ops Q rest (a.put o.dst (.tuple #[.int .i64 0,.bool false])) w):wpList Tryz.prog ops Q (o :: rest) a w :=
 jhe w hg m x hop B n f hm hown s hx hs (by rw[hk];exact hK)
theorem jhf (hg:o.guard=none) (m x:Operand) (hop:o.op=Op.lookup 187 m x false) (B n:Nat) (f:ByteArray->Option Nat) (hm:a.eval m=.map (some B)) (hown:MapN w B n f) (s:ByteArray) (hx:a.eval x=.string s) (hs:s.size<=maxLen) (k:Nat) (hk:f s=some k)
  (hK:wpList Tryz.prog ops Q rest (a.put o.dst (.int .i64 (k:Int))) w):wpList Tryz.prog ops Q (o :: rest) a w :=
 jft w hg m x hop B n f hm hown s hx hs (by rw[hk];exact hK)
end
theorem jac.grown {S:Nat->Prop} {w0 w w':World} {B:Nat} (h:jac S w0 w) (hg:w.grownBy w' (some B)) (hB:S B):jac S w0 w' :=
 ⟨hg.os.trans h.os,hg.tape.trans h.tape,hg.output.trans h.output,Nat.le_trans h.size hg.size,fun k hk hn=>(hg.block k (Nat.lt_of_lt_of_le hk h.size) (fun e=>hn (by injection e with e;rw[e];exact hB))).trans (h.block k hk hn)⟩
theorem Blk.grown {w w':World} {g B:Nat} {t:TypeId} {cs:Array Value} (h:Blk w g t cs) (hg:w.grownBy w' (some B)) (hne:g≠B):Blk w' g t cs :=
 (hg.block g h.lt (fun e=>hne (by injection e))).trans h
/-! ### How many terms a name has -/
structure Noted (w:World) (B gm gb:Nat) (zs:List GA):Prop where
 map:∃ n,n<=zs.length/\MapN w B n (jay zs)
 cm:Blk w gm 187 #[.map (some B)]
 cb:Blk w gb 4 #[.bool (argsB zs)]
theorem Noted.alloc {w:World} {B gm gb:Nat} {zs:List GA} (h:Noted w B gm gb zs) (o:Obj):Noted (w.alloc o) B gm gb zs:=by
 obtain⟨⟨n,h1,h2⟩,h3,h4⟩:=h;exact⟨⟨n,h1,h2.alloc o⟩,h3.alloc o,h4.alloc o⟩
theorem jvz (a:GA) (v:Value) (zs:List GA) (B gm gb:Nat) (w:World) {S:Nat->Prop} (hv:jad S w v a.args) (hs:a.n.size<=maxLen) (hl:a.args.length<=1000) (has:zs.length<=1000) (hn:Noted w B gm gb zs) (hd:B≠gb/\gm≠gb/\gm≠B) :
  Calls Tryz.prog 205 #[.agg #[.string a.n,v],.pointer (some ⟨gm,0,none⟩),.pointer (some ⟨gb,0,none⟩)] w fun e w'=>e=.returned (.tuple #[])/\Noted w' B gm gb (zs++[a])/\jac (fun i=>i=B∨i=gb) w w':=by
 obtain⟨A,c,rfl,hc1,hc2⟩:=jaa.form hv;obtain⟨⟨n,hn1,hmn⟩,hcm,hcb⟩:=hn;obtain⟨hd1,hd2,hd3⟩:=hd;have hlm:=hcm.lt;have hlb:=hcb.lt;have q0:=(hcm.alloc (.cells #[.string a.n,.slice A a.args.length c] 69)).cell 0;have q1:=(hcb.alloc (.cells #[.string a.n,.slice A a.args.length c] 69)).cell 0;have q2:=(hcb.alloc (.cells #[.string a.n,.slice A a.args.length c] 69)).frozen 0;have hbs:=jwk zs a;have HM:=zh hmn;have HCM:=zh hcm;have HCB:=zh hcb;clear hv hmn hcm hcb
 cases hf:jay zs a.n with
 | none =>
   rw[hf] at hbs;have HB:=zh (show argsB (zs++[a])=argsB zs from by rw[hbs,Bool.and_true])
   have HFN:=zh (show ∀ x,(if x=a.n then some a.args.length else jay zs x)=jay (zs++[a]) x from fun x=>by
    rw[jc2];by_cases e:x=a.n
    . rw[if_pos e,e,hf,if_pos rfl]
    rw[if_neg e,if_neg (fun h=>e h.symm)];cases jay zs x<;>rfl)
   have HF:=zh hf;clear hbs hf
   go_in
   go_wp2_with (first
    | (at_lookup;refine jb8 _ rfl _ _ rfl B n (jay zs) rfl (HM.o.alloc _) a.n rfl hs HF.o ?_)
    | (at_mapUpdate;refine jen _ rfl _ _ _ rfl B n (jay zs) rfl (HM.o.alloc _) (by omega) a.n rfl hs a.args.length rfl (by omega) ?_;intro w1 hm1 hg1;have HM1:=zh hm1;have HG1:=zh hg1;clear hm1 hg1))
   go_end0
   have hm1:=HM1.o;rw[HF.o] at hm1;exact⟨rfl,⟨⟨n+1,by simp;omega,hm1.same HFN.o⟩,(HCM.o.alloc _).grown HG1.o hd3,by rw[HB.o];exact (HCB.o.alloc _).grown HG1.o (fun e=>hd1 e.symm)⟩,(jac.of_ext ((Ext.refl _).alloc _)).grown HG1.o (.inl rfl)⟩
 | some m =>
   rw[hf] at hbs;have hk0:(0:Int)<=(m:Int):=Int.natCast_nonneg _;by_cases he:m=a.args.length
   . have HB:=zh (show argsB (zs++[a])=argsB zs from by rw[hbs];simp[he])
     have hg0:(!((m:Int) == (a.args.length:Int)))=false:=by rw[he];simp
     have HFN:=zh (show ∀ x,(if x=a.n then some a.args.length else jay zs x)=jay (zs++[a]) x from fun x=>by
      rw[jc2];by_cases e:x=a.n
      . rw[if_pos e,e,hf,he]
      rw[if_neg e,if_neg (fun h=>e h.symm)];cases jay zs x<;>rfl)
     have HF:=zh hf;clear hbs hf
     go_in
     go_wp2_with (first
      | (at_lookup;refine ja5 _ rfl _ _ rfl B n (jay zs) rfl (HM.o.alloc _) a.n rfl hs m HF.o ?_)
      | (at_mapUpdate;refine jen _ rfl _ _ _ rfl B n (jay zs) rfl (HM.o.alloc _) (by omega) a.n rfl hs a.args.length rfl (by omega) ?_;intro w1 hm1 hg1;have HM1:=zh hm1;have HG1:=zh hg1;clear hm1 hg1))
     go_end0
     have hm1:=HM1.o;rw[HF.o] at hm1;exact⟨rfl,⟨⟨n,by simp;omega,hm1.same HFN.o⟩,(HCM.o.alloc _).grown HG1.o hd3,by rw[HB.o];exact (HCB.o.alloc _).grown HG1.o (fun e=>hd1 e.symm)⟩,(jac.of_ext ((Ext.refl _).alloc _)).grown HG1.o (.inl rfl)⟩
   have HB:=zh (show argsB (zs++[a])=false from by rw[hbs];simp[he])
   have hg0:(!((m:Int) == (a.args.length:Int)))=true:=by
    rw[Bool.not_eq_true',beq_eq_false_iff_ne];omega
   have HFN:=zh (show ∀ x,jay zs x=jay (zs++[a]) x from fun x=>by
    rw[jc2];by_cases e:a.n=x
    . subst e;rw[hf]
    rw[if_neg e];cases jay zs x<;>rfl)
   have HF:=zh hf;clear hbs hf
   go_in;go_wp2_with (at_lookup;refine ja5 _ rfl _ _ rfl B n (jay zs) rfl (HM.o.alloc _) a.n rfl hs m HF.o ?_)
   (try simp only[Exit.inBlock,Exit.then]);refine bodyPost_ret (results_none rfl _ _ _) rfl ?_
   exact⟨rfl,⟨⟨n,by simp;omega,((HM.o.setCell (a:=⟨gb,0,none⟩) hd1 _).alloc _).same HFN.o⟩,(HCM.o.far (p:=⟨gb,0,none⟩) hd2 _).alloc _,by rw[HB.o];exact (HCB.o.set_ 0 _).alloc _⟩,(jac.set _ ⟨gb,0,none⟩ _ (.inr rfl)).t (jac.of_ext ((Ext.refl _).alloc _))⟩
theorem jzt {l:List GR} (h:∀ r∈l,r.body.length<=4):(jaq l).length<=5*l.length:=by
 induction l with
 | nil=>exact Nat.le_refl _
 | cons r l ih =>
   have h1:=ih (fun r hr=>h r (List.mem_cons_of_mem _ hr));have h2:=h r (by simp);unfold jaq jbd at h1 ⊢;rw[List.map_cons,List.flatten_cons,List.length_append];simp only[List.length_cons,List.length_map] at h1 ⊢;omega
theorem jui {l:List GR} {k:Nat} {r:GR} (h:l[k]? = some r):jaq (l.take (k+1))=(jaq (l.take k)++[r.head])++r.body.map (·.atom):=by
 obtain⟨hk,rfl⟩:=List.getElem?_eq_some_iff.1 h;unfold jaq;rw[List.take_succ_eq_append_getElem hk,List.map_append,List.flatten_append];simp[jbd]
theorem j1f {r:GR} {j:Nat} {p:GP} (h:r.body[j]? = some p):(r.body.take (j+1)).map (·.atom)=(r.body.take j).map (·.atom)++[p.atom]:=by
 obtain⟨hj,rfl⟩:=List.getElem?_eq_some_iff.1 h;rw[List.take_succ_eq_append_getElem hj,List.map_append];rfl
theorem joq (v:Value) (l:List GR) (w:World) {S:Nat->Prop} (hv:jam S w v l) (hl:l.length<=8) (hb:∀ r∈l,r.body.length<=4) (ha:∀ r∈l,∀ a∈jbd r,a.args.length<=1000) :
  Calls Tryz.prog 150 #[v] w fun e w'=>(∃ B n,e=.returned (.tuple #[.map (some B),.bool (argsB (jaq l))])/\w.heap.size<=B/\n<=40/\MapN w' B n (jay (jaq l)))/\Ext w w':=by
 obtain⟨A,c,rfl,hc1,hc2⟩:=jaa.form hv;have HV:=zh (show jam (fun b=>b<w.heap.size) w (.slice A l.length c) l from ListK.sub (k:=kRule) (ListK.low (k:=kRule) hv) (fun b hb=>hb.2));have HBD:=zh hb;have HAL:=zh ha
 have HLT:=zh (fun k=>show (jaq (l.take k)).length<=40 from by
  have h1:=jzt (l:=l.take k) (fun r hr=>hb r (List.mem_of_mem_take hr));have h2:(l.take k).length<=l.length:=List.length_take_le' _ _;omega)
 have hmm:= @run_makeMap Tryz.prog;have HD:=zh (show w.heap.size≠w.heap.size+1+1/\w.heap.size+1≠w.heap.size+1+1/\w.heap.size+1≠w.heap.size from⟨by omega,by omega,by omega⟩);have HS:=zh (show ∀ i,i=w.heap.size∨i=w.heap.size+1+1->w.heap.size<=i from fun i h=>by omega);clear hv hb ha
 go_in;go_wp2;clear hmm;go_loopw [15] (fun i wr=>∃ k:Nat,k<=l.length/\i=.int .i64 k/\J1 (Noted wr w.heap.size (w.heap.size+1) (w.heap.size+1+1) (jaq (l.take k)))/\Ext w wr) (fun i _=>l.length-(intOf i).toNat)
 case atStart =>
  refine⟨0,Nat.zero_le _,rfl,zh ⟨⟨0,Nat.le_refl _,?_⟩,?_,?_⟩,?_⟩
  . exact (((MapN.made w).alloc _).alloc _).same (fun _=>rfl)
  . have h:=Blk.new (w.alloc (.map #[] 0)) 187 #[.map (some w.heap.size)]
    rw[World.size_alloc] at h;exact h.alloc _
  . have h:=Blk.new ((w.alloc (.map #[] 0)).alloc (.cells #[.map (some w.heap.size)] 187)) 4 #[.bool true]
    rw[World.size_alloc,World.size_alloc] at h;exact h
  exact (((Ext.refl _).alloc _).alloc _).alloc _
 case round =>
  obtain⟨k,hk,rfl,hno,hx⟩:=hrel;have hk0:(0:Int)<=(k:Int):=by omega
  by_cases hlt:k<l.length
  . have hk1:(k:Int)<(l.length:Int):=by omega
    obtain⟨b,off,r,v1,u1,rfl,hb,hrk,hrs,ht,hu,p0,p1,p2⟩:=jam.at_ HV.o hlt;obtain⟨C,e,rfl,he1,he2⟩:=jaa.form ht;obtain⟨D,f,rfl,hf1,hf2⟩:=jaa.form hu;have r0:=(hx.cells.1 b (off+k*3) hb).trans p0;have r1:=(hx.cells.1 b (off+k*3+1) hb).trans p1;have r2:=(hx.cells.1 b (off+k*3+2) hb).trans p2;clear p0 p1 p2;have HRK:=zh hrk;have HU:=zh hu;have HN:=zh (jvz r.head _ (jaq (l.take k)) _ _ _ (wr.alloc (.cells #[.string r.head.n,.slice C r.head.args.length e,.slice D r.body.length f] 178)) (ht.ext (hx.alloc _)) hrs (HAL.o r (List.mem_of_getElem? hrk) _ (by simp[jbd])) (by have:=HLT.o k;omega) (hno.o.alloc _) HD.o);have HR:=zh (Blk.new wr 178 #[.string r.head.n,.slice C r.head.args.length e,.slice D r.body.length f]);have HNR:=zh (show ¬ (wr.heap.size=w.heap.size∨wr.heap.size=w.heap.size+1+1) from by have:=hno.o.cb.lt;omega);have HB4:=zh (HBD.o r (List.mem_of_getElem? hrk));have hl0:=hno.o.cb.lt;clear hrk ht hu;go_wp2_with (go_at_call 205;refine HN.o.mono ?_;rintro e w1 ⟨rfl,hn1,hi1⟩;have HN1:=zh hn1;have hr1:=hi1.blk HR.o HNR.o;have q2:=hr1.cell 2;have hl1:=hr1.lt;have HX1:=zh (hi1.toExt (hx.alloc _) HS.o);clear hn1 hi1 hr1)
    go_loopw [26] (fun i wr=>∃ j:Nat,j<=r.body.length/\i=.int .i64 j/\J1 (Noted wr w.heap.size (w.heap.size+1) (w.heap.size+1+1) (jaq (l.take k)++[r.head]++(r.body.take j).map (·.atom)))/\Ext w wr) (fun i _=>r.body.length-(intOf i).toNat)
    case atStart=>exact⟨0,Nat.zero_le _,rfl,zh (by simpa using HN1.o),HX1.o⟩
    case round =>
     obtain⟨j,hj,rfl,hno2,hx⟩:=hrel;have hj0:(0:Int)<=(j:Int):=by omega
     by_cases hjt:j<r.body.length
     . have hj1:(j:Int)<(r.body.length:Int):=by omega
       obtain⟨b2,off2,p,v2,rfl,hb2,hpk,hps,htp,z0,z1,z2⟩:=jao.at_ HU.o hjt;obtain⟨E2,g2,rfl,_,_⟩:=jaa.form htp;have s0:=(hx.cells.1 b2 (off2+j*3) hb2).trans z0;have s1:=(hx.cells.1 b2 (off2+j*3+1) hb2).trans z1;have s2:=(hx.cells.1 b2 (off2+j*3+2) hb2).trans z2;clear z0 z1 z2;have HE:=zh (show (jaq (l.take k)++[r.head]++(r.body.take j).map (·.atom))++[p.atom]=jaq (l.take k)++[r.head]++(r.body.take (j+1)).map (·.atom) from by rw[j1f hpk,List.append_assoc _ _ [p.atom]])
       have HN2:=zh (jvz p.atom _ (jaq (l.take k)++[r.head]++(r.body.take j).map (·.atom)) _ _ _ (wr.alloc (.cells #[.bool p.no,.string p.atom.n,.slice E2 p.atom.args.length g2] 137)) (htp.ext (hx.alloc _)) hps (HAL.o r (List.mem_of_getElem? HRK.o) _ (by simp[jbd];exact .inr ⟨p,List.mem_of_getElem? hpk,rfl⟩)) (by
        have h1:=HLT.o k;have h2:=HB4.o;simp only[List.length_append,List.length_cons,List.length_nil,List.length_map,List.length_take];omega) (hno2.o.alloc _) HD.o)
       clear hpk htp;go_wp2_with (go_at_call 205;refine HN2.o.mono ?_;rintro e w2 ⟨rfl,hn2,hi2⟩;have HN3:=zh hn2;have HX2:=zh (hi2.toExt (hx.alloc _) HS.o);clear hn2 hi2)
       go_roundw
       case rel=>exact⟨j+1,by omega,by go_num,zh (by rw[<- HE.o];exact HN3.o),HX2.o⟩
       case measure=>simp[intOf];omega
     have HE:=zh (show jaq (l.take k)++[r.head]++(r.body.take j).map (·.atom)=jaq (l.take (k+1)) from by rw[jui HRK.o,List.take_of_length_le (show r.body.length<=j by omega)]);go_wp2;go_roundw
     case rel=>exact⟨k+1,by omega,by go_num,zh (by rw[<- HE.o];exact hno2.o),hx⟩
     case measure=>simp[intOf];omega
  have hke:k=l.length:=by omega
  subst hke;have HN:=zh (show Noted wr w.heap.size (w.heap.size+1) (w.heap.size+1+1) (jaq l) from by have:=hno.o;rwa [List.take_length] at this);have q0:=HN.o.cm.cell 0;have q1:=HN.o.cb.cell 0;have hl1:=HN.o.cm.lt;have hl2:=HN.o.cb.lt;have HL:=zh (HLT.o l.length);go_wp2_with fail
  go_quiet (fail)
  go_wp2;go_ret2;obtain⟨⟨n,hn,hm⟩,_,_⟩:=HN.o;refine⟨⟨_,n,rfl,Nat.le_refl _,?_,hm⟩,hx.drewN _⟩;have:=HL.o;rw[List.take_length] at this;omega
end Go.Proofs.YthiflhkcpanaaaaGreatDoor
