/- Own texts, joined. -/
import Derived.Test.YthdojieomhighaaGreatDoorCas33
import Derived.Test.YthdojieomhighaaGreatDoorCas06
import Derived.Test.YthdojieomhighaaGreatDoorCas22
set_option linter.unusedSimpArgs false
set_option linter.unusedVariables false
set_option maxHeartbeats 4000000
set_option maxRecDepth 100000
namespace Go.Proofs.YthdojieomhighaaGreatDoor
open Go.RowKit
theorem jwx (p:GP) (v:Value) (l:Int) (w:World) (hl:0≤l∧l≤1048576) (hs:p.atom.n.size≤maxLen) {S:Nat→Prop} (hv:jae S w v p.atom.args) :
  Calls Tryz.prog 196 #[.agg #[.bool p.no,.string p.atom.n,v],.int .i64 l] w fun e w'=>e=.returned (.int .i64 (purse l (wPart p)))∧Ext w w':=by
 obtain⟨A,c,rfl,hc1,hc2⟩:=jaa.form hv;have hw:=jbw (jjz p.atom _ l _ hl hs (hv.ext ((Ext.refl w).alloc (.cells #[.bool p.no,.string p.atom.n,.slice A p.atom.args.length c] 245))));obtain⟨h0,h1⟩:=hl;by_cases hq:l<wAtom p.atom
 · have HP:=zh (jbl (l:=l) (n:=wPart p) hq)
   have hw1:=zh (hw.1 hq);clear hw
   go_enter Tryz.func196,Tryz.ntmps196;go_wp2_with (go_at_call 97;go_fit hw1.out;rintro e w1 ⟨rfl,hx1⟩)
   go_ret;exact⟨by rw[HP.out];rfl,((Ext.refl _).alloc _).trans' hx1⟩
 have HP:=zh (jcs (l:=l) (n:=wPart p) (by unfold wPart;omega));have hw1:=zh (hw.2 (by omega));have hle:(wAtom p.atom:Int)≤l:=by omega
 clear hw
 go_enter Tryz.func196,Tryz.ntmps196;go_wp2_with (go_at_call 97;go_fit hw1.out;rintro e w1 ⟨rfl,hx1⟩)
 go_ret;exact⟨by rw[HP.out];rfl,((Ext.refl _).alloc _).trans' hx1⟩
theorem jtt (v:Value) (xs:List GP) (l:Int) (w:World) (hl:0≤l∧l≤1048576) {S:Nat→Prop} (hv:jao S w v xs) :
  Calls Tryz.prog 149 #[v,.int .i64 l] w fun e w'=>e=.returned (.int .i64 (purse l (jdb xs)))∧Ext w w':=by
 obtain⟨h0,h1⟩:=hl;obtain⟨A,c,rfl,hc1,hc2⟩:=jaa.form hv;by_cases hc:l<xs.length
 · have HP:=zh (jbl (l:=l) (n:=jdb xs) (by unfold jdb;omega))
   go_enter Tryz.func149,Tryz.ntmps149;go_wp2;go_ret;exact⟨by rw[HP.out];rfl,Ext.refl _⟩
 go_enter Tryz.func149,Tryz.ntmps149;go_wp2;go_loopw [1,5] (fun lf i wr=>∃ k:Nat,∃ q:Int,k≤xs.length∧i=.int .i64 k∧lf=.int .i64 q∧0≤q∧q≤l∧q=l-xs.length-((xs.take k).map wPart).sum∧Ext w wr) (fun _ i _=>xs.length-(intOf i).toNat)
 case atStart=>exact⟨0,_,Nat.zero_le _,rfl,rfl,by omega,by omega,by simp,Ext.refl _⟩
 case round =>
  obtain⟨k,q,hk,rfl,rfl,hq0,hq1,hq,hx⟩:=hrel;have HQ:=zh hq;clear hq;by_cases hlt:k<xs.length
  · obtain ⟨b,off,x,v,rfl,hb,hxk,hxs,ht,hc0,hc1,hc2⟩:=jao.at_ (hv.ext hx) hlt
    have HS:=zh (jiv wPart xs k x hxk);have HL:=zh (jen wPart xs (k+1));clear hxk hv;have hw:=jbw (jwx x v q wr ⟨by omega,by omega⟩ hxs ht);by_cases hs:q<wPart x
    · have HP:=zh (jbl (l:=l) (n:=jdb xs) (by have:=HS.out;have:=HL.out;have:=HQ.out;unfold jdb;omega))
      have hw1:=zh (hw.1 hs);clear hw;go_wp2_with (go_at_call 196;refine hw1.out.mono ?_;rintro e w1 ⟨rfl,hx1⟩)
      go_ret;exact⟨by rw[HP.out];rfl,hx.trans' hx1⟩
    have hw1:=zh (hw.2 (by omega));have hle:(wPart x:Int)≤q:=by omega
    clear hw;go_wp2_with (go_at_call 196;refine hw1.out.mono ?_;rintro e w1 ⟨rfl,hx1⟩)
    go_roundw
    case rel=>exact⟨k+1,_,by omega,by go_num,rfl,by omega,by omega,by have:=HS.out;have:=HQ.out;omega,hx.trans' hx1⟩
    case measure=>simp[intOf];omega
  have HP:=zh (jcs (l:=l) (n:=jdb xs) (by
    have:=HQ.out;rw[List.take_of_length_le (by omega)] at this;unfold jdb;omega))
  go_wp2;go_ret;exact⟨by rw[HP.out];have:=HQ.out;rw[List.take_of_length_le (by omega)] at this;rw[this];unfold jdb;exact congrArg (fun z=>Ending.returned (.int .i64 z)) (by push_cast;omega),hx⟩
theorem jwy (r:GR) (v u:Value) (l:Int) (w:World) (hl:0≤l∧l≤1048576) (hs:r.head.n.size≤maxLen) {S:Nat→Prop} (hv:jae S w v r.head.args) (hu:jao S w u r.body) :
  Calls Tryz.prog 96 #[.agg #[.string r.head.n,v,u],.int .i64 l] w fun e w'=>e=.returned (.int .i64 (purse l (wRule r)))∧Ext w w':=by
 obtain⟨A,c,rfl,hc1,hc2⟩:=jaa.form hv;obtain⟨B,d,rfl,hd1,hd2⟩:=jaa.form hu;have hw:=jbw (jjz r.head _ l _ hl hs (hv.ext ((Ext.refl w).alloc (.cells #[.string r.head.n,.slice A r.head.args.length c,.slice B r.body.length d] 135))));obtain⟨h0,h1⟩:=hl;have HU:=zh (hu.ext ((Ext.refl w).alloc (.cells #[.string r.head.n,.slice A r.head.args.length c,.slice B r.body.length d] 135)));have HB:=zh (Blk.new w 135 #[.string r.head.n,.slice A r.head.args.length c,.slice B r.body.length d]);clear hv hu;by_cases hq:l<wAtom r.head
 · have HP:=zh (jbl (l:=l) (n:=wRule r) (by unfold wRule;omega))
   have hw1:=zh (hw.1 hq);clear hw
   go_enter Tryz.func96,Tryz.ntmps96;go_wp2_with (go_at_call 97;go_fit hw1.out;rintro e w1 ⟨rfl,hx1⟩)
   go_ret;exact⟨by rw[HP.out];rfl,((Ext.refl _).alloc _).trans' hx1⟩
 have hle:(wAtom r.head:Int)≤l:=by omega
 have hw1:=zh (hw.2 hle);have hP2:=fun W hW=>jbw (jtt _ r.body (l-wAtom r.head) W ⟨by omega,by omega⟩ (HU.out.ext hW))
 clear hw;by_cases hq2:l-wAtom r.head<jdb r.body
 · have HP:=zh (jbl (l:=l) (n:=wRule r) (by unfold wRule;omega))
   have hw2:=zh (fun W hW=>(hP2 W hW).1 hq2);clear hP2
   go_enter Tryz.func96,Tryz.ntmps96
   go_wp2_with (first
    | (go_at_call 97;go_fit hw1.out;rintro e w1 ⟨rfl,hx1⟩;have HX1:=zh hx1;have hb1:=HB.out.ext hx1;have q2:=hb1.cell 2;have hl1:=hb1.lt;clear hx1 hb1)
    | (go_at_call 149;refine (hw2.out _ HX1.out).mono ?_;rintro e w2 ⟨rfl,hx2⟩))
   go_ret;exact⟨by rw[HP.out];rfl,((Ext.refl _).alloc _).trans' (HX1.out.trans' hx2)⟩
 have HP:=zh (jcs (l:=l) (n:=wRule r) (by unfold wRule;omega));have hw2:=zh (fun W hW=>(hP2 W hW).2 (by omega));have hle2:(jdb r.body:Int)≤l-wAtom r.head:=by omega
 clear hP2
 go_enter Tryz.func96,Tryz.ntmps96
 go_wp2_with (first
  | (go_at_call 97;go_fit hw1.out;rintro e w1 ⟨rfl,hx1⟩;have HX1:=zh hx1;have hb1:=HB.out.ext hx1;have q2:=hb1.cell 2;have hl1:=hb1.lt;clear hx1 hb1)
  | (go_at_call 149;refine (hw2.out _ HX1.out).mono ?_;rintro e w2 ⟨rfl,hx2⟩))
 go_ret;exact⟨by rw[HP.out];unfold wRule;exact congrArg (fun z=>Ending.returned (.int .i64 z)) (by push_cast;omega),((Ext.refl _).alloc _).trans' (HX1.out.trans' hx2)⟩
theorem jtu (v:Value) (xs:List GR) (l:Int) (w:World) (hl:0≤l∧l≤1048576) {S:Nat→Prop} (hv:jal S w v xs) :
  Calls Tryz.prog 37 #[v,.int .i64 l] w fun e w'=>e=.returned (.int .i64 (purse l (jdc xs)))∧Ext w w':=by
 obtain⟨h0,h1⟩:=hl;obtain⟨A,c,rfl,hc1,hc2⟩:=jaa.form hv;by_cases hc:l<xs.length
 · have HP:=zh (jbl (l:=l) (n:=jdc xs) (by unfold jdc;omega))
   go_enter Tryz.func37,Tryz.ntmps37;go_wp2;go_ret;exact⟨by rw[HP.out];rfl,Ext.refl _⟩
 go_enter Tryz.func37,Tryz.ntmps37;go_wp2;go_loopw [1,5] (fun lf i wr=>∃ k:Nat,∃ q:Int,k≤xs.length∧i=.int .i64 k∧lf=.int .i64 q∧0≤q∧q≤l∧q=l-xs.length-((xs.take k).map wRule).sum∧Ext w wr) (fun _ i _=>xs.length-(intOf i).toNat)
 case atStart=>exact⟨0,_,Nat.zero_le _,rfl,rfl,by omega,by omega,by simp,Ext.refl _⟩
 case round =>
  obtain⟨k,q,hk,rfl,rfl,hq0,hq1,hq,hx⟩:=hrel;have HQ:=zh hq;clear hq;by_cases hlt:k<xs.length
  · obtain ⟨b,off,x,v,u,rfl,hb,hxk,hxs,ht,hu,hc0,hc1,hc2⟩:=jal.at_ (hv.ext hx) hlt
    have HS:=zh (jiv wRule xs k x hxk);have HL:=zh (jen wRule xs (k+1));clear hxk hv;have hw:=jbw (jwy x v u q wr ⟨by omega,by omega⟩ hxs ht hu);by_cases hs:q<wRule x
    · have HP:=zh (jbl (l:=l) (n:=jdc xs) (by have:=HS.out;have:=HL.out;have:=HQ.out;unfold jdc;omega))
      have hw1:=zh (hw.1 hs);clear hw;go_wp2_with (go_at_call 96;refine hw1.out.mono ?_;rintro e w1 ⟨rfl,hx1⟩)
      go_ret;exact⟨by rw[HP.out];rfl,hx.trans' hx1⟩
    have hw1:=zh (hw.2 (by omega));have hle:(wRule x:Int)≤q:=by omega
    clear hw;go_wp2_with (go_at_call 96;refine hw1.out.mono ?_;rintro e w1 ⟨rfl,hx1⟩)
    go_roundw
    case rel=>exact⟨k+1,_,by omega,by go_num,rfl,by omega,by omega,by have:=HS.out;have:=HQ.out;omega,hx.trans' hx1⟩
    case measure=>simp[intOf];omega
  have HP:=zh (jcs (l:=l) (n:=jdc xs) (by
    have:=HQ.out;rw[List.take_of_length_le (by omega)] at this;unfold jdc;omega))
  go_wp2;go_ret;exact⟨by rw[HP.out];have:=HQ.out;rw[List.take_of_length_le (by omega)] at this;rw[this];unfold jdc;exact congrArg (fun z=>Ending.returned (.int .i64 z)) (by push_cast;omega),hx⟩
theorem jtv (p:GP) (v u:Value) (w:World) {S T:Nat→Prop} (hv:jae S w v p.atom.args) (hu:jae T w u p.atom.args) :
  Calls Tryz.prog 214 #[.agg #[.bool p.no,.string p.atom.n,v],.agg #[.bool p.no,.string p.atom.n,u]] w fun e w'=>e=.returned (.bool true)∧Ext w w':=by
 obtain⟨A,c,rfl,hc1,hc2⟩:=jaa.form hv;obtain⟨B,d,rfl,hd1,hd2⟩:=jaa.form hu;have HV:=zh hv;have HU:=zh hu;have hbb:(p.no == p.no)=true:=beq_self_eq_true _;clear hv hu
 go_enter Tryz.func214,Tryz.ntmps214;go_wp2_with (go_at_call 92;refine (jhv p.atom _ _ _ (HV.out.ext (((Ext.refl _).alloc _).alloc _)) (HU.out.ext (((Ext.refl _).alloc _).alloc _))).mono ?_;rintro e w1 ⟨rfl,hx1⟩)
 go_ret;exact⟨rfl,(((Ext.refl _).alloc _).alloc _).trans' hx1⟩
theorem jr7 (v u:Value) (xs:List GP) (w:World) {S T:Nat→Prop} (hv:jao S w v xs) (hu:jao T w u xs) :
  Calls Tryz.prog 163 #[v,u] w fun e w'=>e=.returned (.bool true)∧Ext w w':=by
 obtain⟨A,c,rfl,hc1,hc2⟩:=jaa.form hv;obtain⟨B,d,rfl,hd1,hd2⟩:=jaa.form hu;have HV:=zh hv;have HU:=zh hu;clear hv hu
 go_enter Tryz.func163,Tryz.ntmps163;go_wp2;go_loopw [5] (fun i wr=>∃ k:Nat,k≤xs.length∧i=.int .i64 k∧Ext w wr) (fun i _=>xs.length-(intOf i).toNat)
 case atStart=>exact⟨0,Nat.zero_le _,rfl,Ext.refl _⟩
 case round =>
  obtain⟨k,hk,rfl,hx⟩:=hrel;by_cases hlt:k<xs.length
  · obtain ⟨b,off,x,v1,rfl,hb,hxk,hxs,ht1,hc0,hc1,hc2⟩:=jao.at_ (HV.out.ext hx) hlt
    obtain⟨b',off',x',v2,rfl,hb',hxk',hxs',ht2,hc0',hc1',hc2'⟩:=jao.at_ (HU.out.ext hx) hlt;obtain rfl:x=x':=Option.some.inj (hxk.symm.trans hxk');clear hxk hxk';have hk0:(0:Int)≤(k:Int):=Int.natCast_nonneg _;have hk1:(k:Int)<(xs.length:Int):=by omega
    go_wp2_with fail
    go_still_tail 8,(by kernel_rfl)
    change wpList _ _ _ _ _ wr.drew;clear hb hb' hc0 hc1 hc2 hc0' hc1' hc2';go_wp2_with (go_at_call 214;refine (jtv x _ _ _ ht1.drew_ ht2.drew_).mono ?_;rintro e w1 ⟨rfl,hx1⟩)
    go_roundw
    case rel=>exact⟨k+1,by omega,by go_num,hx.drew.trans' hx1⟩
    case measure=>simp[intOf];omega
  go_wp2;go_ret;exact⟨rfl,hx⟩
theorem jtw (r:GR) (v1 u1 v2 u2:Value) (w:World) {S T S' T':Nat→Prop} (hv1:jae S w v1 r.head.args) (hu1:jao T w u1 r.body) (hv2:jae S' w v2 r.head.args) (hu2:jao T' w u2 r.body) :
  Calls Tryz.prog 112 #[.agg #[.string r.head.n,v1,u1],.agg #[.string r.head.n,v2,u2]] w fun e w'=>e=.returned (.bool true)∧Ext w w':=by
 obtain⟨A1,c1,rfl,hc1,hc1'⟩:=jaa.form hv1;obtain⟨B1,d1,rfl,hd1,hd1'⟩:=jaa.form hu1;obtain⟨A2,c2,rfl,hc2,hc2'⟩:=jaa.form hv2;obtain⟨B2,d2,rfl,hd2,hd2'⟩:=jaa.form hu2;have HV1:=zh hv1;have HU1:=zh hu1;have HV2:=zh hv2;have HU2:=zh hu2;clear hv1 hu1 hv2 hu2
 go_enter Tryz.func112,Tryz.ntmps112
 go_wp2_with (first
  | (go_at_call 92;refine (jhv r.head _ _ _ (HV1.out.ext (((Ext.refl _).alloc _).alloc _)) (HV2.out.ext (((Ext.refl _).alloc _).alloc _))).mono ?_;rintro e w1 ⟨rfl,hx1⟩;obtain⟨hcc,hcf⟩:=hx1.cells)
  | (go_at_call 163;refine (jr7 _ _ r.body _ (HU1.out.ext ((((Ext.refl _).alloc _).alloc _).trans' hx1)) (HU2.out.ext ((((Ext.refl _).alloc _).alloc _).trans' hx1))).mono ?_;rintro e w2 ⟨rfl,hx2⟩))
 go_ret;exact⟨rfl,((((Ext.refl _).alloc _).alloc _).trans' hx1).trans' hx2⟩
theorem jr8 (v u:Value) (xs:List GR) (w:World) {S T:Nat→Prop} (hv:jal S w v xs) (hu:jal T w u xs) :
  Calls Tryz.prog 52 #[v,u] w fun e w'=>e=.returned (.bool true)∧Ext w w':=by
 obtain⟨A,c,rfl,hc1,hc2⟩:=jaa.form hv;obtain⟨B,d,rfl,hd1,hd2⟩:=jaa.form hu;have HV:=zh hv;have HU:=zh hu;clear hv hu
 go_enter Tryz.func52,Tryz.ntmps52;go_wp2;go_loopw [5] (fun i wr=>∃ k:Nat,k≤xs.length∧i=.int .i64 k∧Ext w wr) (fun i _=>xs.length-(intOf i).toNat)
 case atStart=>exact⟨0,Nat.zero_le _,rfl,Ext.refl _⟩
 case round =>
  obtain⟨k,hk,rfl,hx⟩:=hrel;by_cases hlt:k<xs.length
  · obtain ⟨b,off,x,v1,u1,rfl,hb,hxk,hxs,ht1,hp1,hc0,hc1,hc2⟩:=jal.at_ (HV.out.ext hx) hlt
    obtain⟨b',off',x',v2,u2,rfl,hb',hxk',hxs',ht2,hp2,hc0',hc1',hc2'⟩:=jal.at_ (HU.out.ext hx) hlt;obtain rfl:x=x':=Option.some.inj (hxk.symm.trans hxk');clear hxk hxk';have hk0:(0:Int)≤(k:Int):=Int.natCast_nonneg _;have hk1:(k:Int)<(xs.length:Int):=by omega
    go_wp2_with fail
    go_still_tail 8,(by kernel_rfl)
    change wpList _ _ _ _ _ wr.drew;clear hb hb' hc0 hc1 hc2 hc0' hc1' hc2';go_wp2_with (go_at_call 112;refine (jtw x _ _ _ _ _ ht1.drew_ hp1.drew_ ht2.drew_ hp2.drew_).mono ?_;rintro e w1 ⟨rfl,hx1⟩)
    go_roundw
    case rel=>exact⟨k+1,by omega,by go_num,hx.drew.trans' hx1⟩
    case measure=>simp[intOf];omega
  go_wp2;go_ret;exact⟨rfl,hx⟩
def BaseO (S:Nat→Prop) (w:World) (v:Value) (B:GB):Prop :=
 ∃ (a b c:Value) (S1 S2 S3:Nat→Prop),v=.agg #[a,.int .i64 B.time,b,c]∧jc7 S1 w a B.rules∧jba S2 w b B.given∧jby S3 w c B.hist∧(∀ i,S1 i∨S2 i∨S3 i→S i)∧(∀ i,S1 i→¬ S2 i)∧(∀ i,S1 i→¬ S3 i)∧∀ i,S2 i→¬ S3 i
theorem BaseO.read {S:Nat→Prop} {w:World} {v:Value} {B:GB} (h:BaseO S w v B):BaseR S w v B:=by
 obtain⟨a,b,c,S1,S2,S3,h1,h2,h3,h4,h5,_⟩:=h;exact⟨a,b,c,h1,h2.read.sub (fun i h=>h5 i (.inl h)),h3.read.sub (fun i h=>h5 i (.inr (.inl h))),h4.read.sub (fun i h=>h5 i (.inr (.inr h)))⟩
theorem jhw (B:GB) (v u:Value) (w:World) {S T:Nat→Prop} (hv:BaseR S w v B) (hu:BaseR T w u B) :
  Calls Tryz.prog 12 #[v,u] w fun e w'=>e=.returned (.bool true)∧Ext w w':=by
 obtain⟨a1,b1,c1,rfl,ha1,hb1,hc1⟩:=hv;obtain⟨a2,b2,c2,rfl,ha2,hb2,hc2⟩:=hu;obtain⟨A1,p1,rfl,hp1,hp1'⟩:=jaa.form ha1;obtain⟨B1,q1,rfl,hq1,hq1'⟩:=jaa.form hb1;obtain⟨C1,r1,rfl,hr1,hr1'⟩:=jaa.form hc1;obtain⟨A2,p2,rfl,hp2,hp2'⟩:=jaa.form ha2;obtain⟨B2,q2,rfl,hq2,hq2'⟩:=jaa.form hb2;obtain⟨C2,r2,rfl,hr2,hr2'⟩:=jaa.form hc2;have HA1:=zh ha1;have HB1:=zh hb1;have HC1:=zh hc1;have HA2:=zh ha2;have HB2:=zh hb2;have HC2:=zh hc2;clear ha1 hb1 hc1 ha2 hb2 hc2
 go_enter Tryz.func12,Tryz.ntmps12
 go_wp2_with (first
  | (go_at_call 52;refine (jr8 _ _ B.rules _ (HA1.out.ext (((Ext.refl _).alloc _).alloc _)) (HA2.out.ext (((Ext.refl _).alloc _).alloc _))).mono ?_;rintro e w1 ⟨rfl,hx1⟩;obtain⟨hcc,hcf⟩:=hx1.cells)
  | (go_at_call 34;refine (jet _ _ B.given _ (HB1.out.ext ((((Ext.refl _).alloc _).alloc _).trans' hx1)) (HB2.out.ext ((((Ext.refl _).alloc _).alloc _).trans' hx1))).mono ?_;rintro e w2 ⟨rfl,hx2⟩;have hx12:=hx1.trans' hx2;obtain⟨hcc2,hcf2⟩:=hx12.cells)
  | (go_at_call 53;refine (jm4 _ _ B.hist _ (HC1.out.ext ((((Ext.refl _).alloc _).alloc _).trans' hx12)) (HC2.out.ext ((((Ext.refl _).alloc _).alloc _).trans' hx12))).mono ?_;rintro e w3 ⟨rfl,hx3⟩))
 go_ret;exact⟨rfl,((((Ext.refl _).alloc _).alloc _).trans' hx12).trans' hx3⟩
def jb7 (l:List GC):Nat:=l.length+(l.map jbp).sum
def wBase (B:GB):Nat:=jdc B.rules+jb1 B.given+jb7 B.hist
theorem jr9 {l:List GC} {x:GC} (h:x∈l):jbp x≤jb7 l:=Nat.le_trans (jps jbp h) (Nat.le_add_left _ _)
theorem jiw (v:Value) (xs:List GC) (l:Int) (w:World) (hl:0≤l∧l≤1048576) {S:Nat→Prop} (hv:jan S w v xs) :
  Calls Tryz.prog 39 #[v,.int .i64 l] w fun e w'=>e=.returned (.int .i64 (purse l (jb7 xs)))∧Ext w w':=by
 obtain⟨h0,h1⟩:=hl;obtain⟨A,c,rfl,hc1,hc2⟩:=jaa.form hv;by_cases hc:l<xs.length
 · have HP:=zh (jbl (l:=l) (n:=jb7 xs) (by unfold jb7;omega))
   go_enter Tryz.func39,Tryz.ntmps39;go_wp2;go_ret;exact⟨by rw[HP.out];rfl,Ext.refl _⟩
 go_enter Tryz.func39,Tryz.ntmps39;go_wp2;go_loopw [1,5] (fun lf i wr=>∃ k:Nat,∃ q:Int,k≤xs.length∧i=.int .i64 k∧lf=.int .i64 q∧0≤q∧q≤l∧q=l-xs.length-((xs.take k).map jbp).sum∧Ext w wr) (fun _ i _=>xs.length-(intOf i).toNat)
 case atStart=>exact⟨0,_,Nat.zero_le _,rfl,rfl,by omega,by omega,by simp,Ext.refl _⟩
 case round =>
  obtain⟨k,q,hk,rfl,rfl,hq0,hq1,hq,hx⟩:=hrel;have HQ:=zh hq;clear hq;by_cases hlt:k<xs.length
  · obtain ⟨b,off,x,v,u,rfl,hb,hxk,ht,hu,hc0,hc1⟩:=jan.at_ (hv.ext hx) hlt
    have HS:=zh (jiv jbp xs k x hxk);have HL:=zh (jen jbp xs (k+1));clear hxk hv;obtain⟨A1,c1,rfl,hd1,hd2⟩:=jaa.form ht;obtain⟨A2,c2,rfl,hd3,hd4⟩:=jaa.form hu;have hw:=jbw (jr6 x _ _ q wr ⟨by omega,by omega⟩ ht hu);clear ht hu;by_cases hs:q<jbp x
    · have HP:=zh (jbl (l:=l) (n:=jb7 xs) (by have:=HS.out;have:=HL.out;have:=HQ.out;unfold jb7;omega))
      have hw1:=zh (hw.1 hs);clear hw;go_wp2_with (go_at_call 98;refine hw1.out.mono ?_;rintro e w1 ⟨rfl,hx1⟩)
      go_ret;exact⟨by rw[HP.out];rfl,hx.trans' hx1⟩
    have hw1:=zh (hw.2 (by omega));have hle:(jbp x:Int)≤q:=by omega
    clear hw;go_wp2_with (go_at_call 98;refine hw1.out.mono ?_;rintro e w1 ⟨rfl,hx1⟩)
    go_roundw
    case rel=>exact⟨k+1,_,by omega,by go_num,rfl,by omega,by omega,by have:=HS.out;have:=HQ.out;omega,hx.trans' hx1⟩
    case measure=>simp[intOf];omega
  have HP:=zh (jcs (l:=l) (n:=jb7 xs) (by
    have:=HQ.out;rw[List.take_of_length_le (by omega)] at this;unfold jb7;omega))
  go_wp2;go_ret;exact⟨by rw[HP.out];have:=HQ.out;rw[List.take_of_length_le (by omega)] at this;rw[this];unfold jb7;exact congrArg (fun z=>Ending.returned (.int .i64 z)) (by push_cast;omega),hx⟩
theorem jj0 (B:GB) (v:Value) (l:Int) (w:World) (hl:0≤l∧l≤1048576) {S:Nat→Prop} (hv:BaseR S w v B) :
  Calls Tryz.prog 8 #[v,.int .i64 l] w fun e w'=>e=.returned (.int .i64 (purse l (wBase B)))∧Ext w w':=by
 obtain⟨h0,h1⟩:=hl;obtain⟨a,b,c,rfl,ha,hb,hc⟩:=hv;obtain⟨A1,c1,rfl,hd1,hd2⟩:=jaa.form ha;obtain⟨A2,c2,rfl,hd3,hd4⟩:=jaa.form hb;obtain⟨A3,c3,rfl,hd5,hd6⟩:=jaa.form hc;have hx0:=(Ext.refl w).alloc (.cells #[.slice A1 B.rules.length c1,.int .i64 B.time,.slice A2 B.given.length c2,.slice A3 B.hist.length c3] 26);have HB0:=zh (Blk.new w 26 #[.slice A1 B.rules.length c1,.int .i64 B.time,.slice A2 B.given.length c2,.slice A3 B.hist.length c3]);have hR:=jbw (jtu _ B.rules l _ ⟨h0,h1⟩ (ha.ext hx0));have HG:=zh (hb.ext hx0);have HH:=zh (jan.ext hc hx0);have HX0:=zh hx0;clear ha hb hc hx0;by_cases hq1:l<jdc B.rules
 · have HP:=zh (jbl (l:=l) (n:=wBase B) (by unfold wBase;omega))
   have hw1:=zh (hR.1 hq1);clear hR
   go_enter Tryz.func8,Tryz.ntmps8;go_wp2_with (go_at_call 37;go_fit hw1.out;rintro e w1 ⟨rfl,hx1⟩)
   go_ret;exact⟨by rw[HP.out];rfl,HX0.out.trans' hx1⟩
 have hw1:=zh (hR.2 (by omega));have hle1:(jdc B.rules:Int)≤l:=by omega
 obtain⟨l1,hl1⟩:∃ q:Int,q=l-jdc B.rules:=⟨_,rfl⟩
 rw[← hl1] at hw1;have hl10:0≤l1:=by omega
 have hl11:l1≤1048576:=by omega
 have HL1:=zh hl1;clear hR hl1;by_cases hq2:l1<jb1 B.given
 · have HP:=zh (jbl (l:=l) (n:=wBase B) (by have:=HL1.out;unfold wBase;omega))
   have HW2:=zh (fun (W:World) (hW:Ext (w.alloc (.cells #[.slice A1 B.rules.length c1,.int .i64 B.time,.slice A2 B.given.length c2,.slice A3 B.hist.length c3] 26)) W)=>(jbw (jeo _ B.given l1 W ⟨hl10,hl11⟩ (HG.out.ext hW))).1 hq2)
   go_enter Tryz.func8,Tryz.ntmps8
   go_wp2_with (first
    | (go_at_call 37;go_fit hw1.out;rintro e w1 ⟨rfl,hx1⟩;have HX1:=zh hx1;have hb1:=HB0.out.ext hx1;have q2:=hb1.cell 2;have hl1:=hb1.lt;clear hx1 hb1)
    | (go_at_call 38;refine (HW2.out _ HX1.out).mono ?_;rintro e w2 ⟨rfl,hx2⟩))
   go_ret;exact⟨by rw[HP.out];rfl,HX0.out.trans' (HX1.out.trans' hx2)⟩
 have HW2:=zh (fun (W:World) (hW:Ext (w.alloc (.cells #[.slice A1 B.rules.length c1,.int .i64 B.time,.slice A2 B.given.length c2,.slice A3 B.hist.length c3] 26)) W)=>(jbw (jeo _ B.given l1 W ⟨hl10,hl11⟩ (HG.out.ext hW))).2 (by omega));have hle2:(jb1 B.given:Int)≤l1:=by omega
 obtain⟨l2,hl2⟩:∃ q:Int,q=l1-jb1 B.given:=⟨_,rfl⟩
 rw[← hl2] at HW2;have hl20:0≤l2:=by omega
 have hl21:l2≤1048576:=by omega
 have HL2:=zh hl2;clear hl2;by_cases hq3:l2<jb7 B.hist
 · have HP:=zh (jbl (l:=l) (n:=wBase B) (by have:=HL1.out;have:=HL2.out;unfold wBase;omega))
   have HW3:=zh (fun (W:World) (hW:Ext (w.alloc (.cells #[.slice A1 B.rules.length c1,.int .i64 B.time,.slice A2 B.given.length c2,.slice A3 B.hist.length c3] 26)) W)=>(jbw (jiw _ B.hist l2 W ⟨hl20,hl21⟩ (jan.ext HH.out hW))).1 hq3)
   go_enter Tryz.func8,Tryz.ntmps8
   go_wp2_with (first
    | (go_at_call 37;go_fit hw1.out;rintro e w1 ⟨rfl,hx1⟩;have HX1:=zh hx1;have hb1:=HB0.out.ext hx1;have q2:=hb1.cell 2;have hl1:=hb1.lt;clear hx1 hb1)
    | (go_at_call 38;refine (HW2.out _ HX1.out).mono ?_;rintro e w2 ⟨rfl,hx2⟩;have HX2:=zh (HX1.out.trans' hx2);have hb2:=HB0.out.ext HX2.out;have q3:=hb2.cell 3;have hl2:=hb2.lt;clear hx2 hb2)
    | (go_at_call 39;refine (HW3.out _ HX2.out).mono ?_;rintro e w3 ⟨rfl,hx3⟩))
   go_ret;exact⟨by rw[HP.out];rfl,HX0.out.trans' (HX2.out.trans' hx3)⟩
 have HW3:=zh (fun (W:World) (hW:Ext (w.alloc (.cells #[.slice A1 B.rules.length c1,.int .i64 B.time,.slice A2 B.given.length c2,.slice A3 B.hist.length c3] 26)) W)=>(jbw (jiw _ B.hist l2 W ⟨hl20,hl21⟩ (jan.ext HH.out hW))).2 (by omega));have hle3:(jb7 B.hist:Int)≤l2:=by omega
 have HP:=zh (jcs (l:=l) (n:=wBase B) (by have:=HL1.out;have:=HL2.out;unfold wBase;omega))
 go_enter Tryz.func8,Tryz.ntmps8
 go_wp2_with (first
  | (go_at_call 37;go_fit hw1.out;rintro e w1 ⟨rfl,hx1⟩;have HX1:=zh hx1;have hb1:=HB0.out.ext hx1;have q2:=hb1.cell 2;have hl1:=hb1.lt;clear hx1 hb1)
  | (go_at_call 38;refine (HW2.out _ HX1.out).mono ?_;rintro e w2 ⟨rfl,hx2⟩;have HX2:=zh (HX1.out.trans' hx2);have hb2:=HB0.out.ext HX2.out;have q3:=hb2.cell 3;have hl2:=hb2.lt;clear hx2 hb2)
  | (go_at_call 39;refine (HW3.out _ HX2.out).mono ?_;rintro e w3 ⟨rfl,hx3⟩))
 go_ret;exact⟨by rw[HP.out];have:=HL1.out;have:=HL2.out;unfold wBase;exact congrArg (fun z=>Ending.returned (.int .i64 z)) (by push_cast;omega),HX0.out.trans' (HX2.out.trans' hx3)⟩
theorem jbv.made {a b:Nat} {w1 w1' w2 w3:World} {v u:Value} {r:GC} (hv:jba (From a) w1 v r.comes) (h1:Agree (From a) w1 w1') (hs1:w1.heap.size≤w1'.heap.size)
  (hx:Ext w1' w2) (hu:jba (From w1'.heap.size) w2 u r.goes) (h2:Agree (From a) w2 w3) (hs2:w2.heap.size≤w3.heap.size) (ha:a≤w1.heap.size) (hb:b≤a):jbv (From b) w3 [v,u] r :=
 ⟨v,u,Mid a w1.heap.size,From w1'.heap.size,rfl,jad.imp (jad.ext (jad.imp (jad.imp (S':=Mid a w1.heap.size) hv (fun b hb hlt=>⟨hb,hlt⟩) (.refl _ _) (Nat.le_refl _)) (fun _ h _=>h) (Agree.mid h1) hs1) hx) (fun _ h _=>h) (Agree.mid h2) hs2,
  jad.imp hu (fun _ h _=>h) (fun i hi hlt=>h2 i (Nat.le_trans (Nat.le_trans ha hs1) hi) hlt) hs2,fun i hi=>Nat.le_trans hb hi.1,fun i hi=>Nat.le_trans hb (Nat.le_trans (Nat.le_trans ha hs1) hi),fun i hi hi2=>Nat.lt_irrefl _ (Nat.lt_of_lt_of_le (Nat.lt_of_lt_of_le hi.2 hs1) hi2)⟩
theorem jbv.forms {S:Nat→Prop} {w:World} {v u:Value} {r:GC} (h:jbv S w [v,u] r) :
  (∃ A c,v=.slice A r.comes.length c∧r.comes.length≤c∧c≤9223372036854775807)∧(∃ A c,u=.slice A r.goes.length c∧r.goes.length≤c∧c≤9223372036854775807):=by
 obtain⟨v3,u3,S1,S2,heq,hv2,hu2,_⟩:=h;injection heq with heq1 heq
 injection heq with heq2 _
 subst heq1 heq2;exact⟨jad.form hv2,jad.form hu2⟩
theorem jtx:(Tryz.prog.info? 68).map (fun i=>(i.zero,i.size,i.bytes))=some (some (.agg #[.slice none 0 0,.slice none 0 0]),2,48):=by kernel_rfl
theorem jsa (a:GC) (v u:Value) (w:World) {S T:Nat→Prop} (hv:jac S w v a.comes) (hu:jac T w u a.goes) (hw:jbp a≤1048576) :
  Calls Tryz.prog 105 #[.agg #[v,u]] w fun e w'=>(∃ v' u',e=.returned (.agg #[v',u'])∧jbv (From w.heap.size) w' [v',u'] a)∧Ext w w':=by
 obtain⟨A,c,rfl,hc1,hc2⟩:=jaa.form hv;obtain⟨B,d,rfl,hd1,hd2⟩:=jaa.form hu;have HV:=zh hv;have HU:=zh hu;have HN:=zh hw;clear hv hu hw
 go_enter Tryz.func105,Tryz.ntmps105;have tok:True:=trivial
 go_wp2_with (first
  | (go_at_call 44;have _t:=tok;refine (jhu _ a.comes _ (HV.out.ext ((((Ext.refl _).alloc _).alloc _).alloc _)) (by have:=HN.out;unfold jbp at this;omega)).mono ?_;clear tok _t;rintro e w1 ⟨⟨u,rfl,hu⟩,hx1⟩;obtain⟨hcc,hcf⟩:=hx1.cells;obtain⟨A1,c1,rfl,hq1,hq2⟩:=jad.form hu;have HU1:=zh hu;clear hu;have hz1:=hx1.size;simp only[World.size_alloc] at hz1;have hz1a:w.heap.size+1+1<w1.heap.size:=(by omega);have hz1b:w.heap.size+1<w1.heap.size:=(by omega);have hz1c:w.heap.size<w1.heap.size:=(by omega);clear hz1)
  | (go_at_call 44;refine (jhu _ a.goes _ (HU.out.ext (((((((Ext.refl _).alloc _).alloc _).alloc _).trans' hx1).setNew (by go_size) _))) (by have:=HN.out;unfold jbp at this;omega)).mono ?_;rintro e w2 ⟨⟨u',rfl,hu'⟩,hx2⟩;obtain⟨hcc2,hcf2⟩:=hx2.cells;obtain⟨A2,c2,rfl,hq3,hq4⟩:=jad.form hu';have HU2:=zh hu';clear hu';have HX2:=zh hx2;have hz2:=hx2.size;simp only[World.size_setCell] at hz2))
 refine bodyPost_ret (v:=.agg #[.slice A1 a.comes.length c1,.slice A2 a.goes.length c2]) (by simp[results,Tryz.results105,go_sem,hcc,hcc2,hz1b]) rfl ⟨⟨_,_,rfl,?_⟩,?_⟩
 · refine jbv.made (a:=w.heap.size+3) (HU1.out.sub (jdi (by go_size))) ?_ ?_ HX2.out HU2.out ?_ ?_ ?_ ?_
   · exact (Agree.refl _ _).set (by go_size) _
   · go_size
   · exact (((Agree.refl _ _).set (by go_size) _).set (by go_size) _).set (by go_size) _
   · go_size
   · omega
   omega
 exact (((((((((Ext.refl _).alloc _).alloc _).alloc _).trans' hx1).setNew (by go_size) _).trans' HX2.out).setNew (by go_size) _).setNew (by go_size) _).setNew (by go_size) _
theorem jpq (v:Value) (xs:List GC) (w:World) {S:Nat→Prop} (hv:jan S w v xs) (hw:jb7 xs≤1048576) :
  Calls Tryz.prog 45 #[v] w fun e w'=>(∃ u,e=.returned u∧jby (From w.heap.size) w' u xs)∧Ext w w':=by
 obtain⟨A,c,rfl,hc1,hc2⟩:=jaa.form hv;have hn:xs.length≤1048576:=by unfold jb7 at hw;omega
 obtain⟨i0,hi0,hz0,hz1,hz2⟩:=info_parts jtx;obtain⟨cs0,hcs0,hmk⟩:=made 31 68 i0 _ Tryz.underlying31 hi0 hz0 xs.length (by rw[hz2];omega) (by omega);rw[hz1] at hcs0;have HC:=zh hcs0;have HV:=zh hv;have HN:=zh hw;clear hcs0 hi0 hz0 hz1 hz2 hv hn hw
 go_enter Tryz.func45,Tryz.ntmps45;go_wp2;go_loopw [4] (fun i wr=>∃ (k:Nat) (cs:Array Value),k≤xs.length∧i=.int .i64 k∧cs.size=xs.length*2∧Blk wr w.heap.size 68 cs∧jb4 joh w.heap.size (From (w.heap.size+1)) wr cs xs k∧Ext w wr) (fun i _=>xs.length-(intOf i).toNat)
 case atStart=>exact⟨0,cs0,Nat.zero_le _,rfl,HC.out,Blk.new _ _ _,jb4.zero,(Ext.refl _).alloc _⟩
 case round =>
  obtain⟨k,cs,hk,rfl,hcs,hb,hf,hx⟩:=hrel;by_cases hlt:k<xs.length
  · obtain ⟨b,off,x,v1,u1,rfl,hb0,hxk,ht,hp,hc0,hc1⟩:=jan.at_ (HV.out.ext hx) hlt
    obtain⟨A1,c1,rfl,hq1,hq2⟩:=jaa.form ht;obtain⟨B1,d1,rfl,hq3,hq4⟩:=jaa.form hp
    have HW:=zh (show jbp x≤1048576 from by
     have h1:=jr9 (List.mem_of_getElem? hxk);have h2:=HN.out;omega)
    have HK:=zh hxk;have HS:=zh hcs;have HF:=zh hf;have HB:=zh hb;have HT:=zh ht;have HP:=zh hp;have hg:=hb.lt;clear hxk hcs hf hb hmk ht hp
    go_wp2_with (first
     | (go_at_call 105;refine (jsa x _ _ _ HT.out HP.out HW.out).mono ?_;rintro e w1 ⟨⟨v2,u2,rfl,hE⟩,hx1⟩
        obtain⟨⟨A2,c2,rfl,hd1,hd2⟩,⟨B2,d2,rfl,hd3,hd4⟩⟩:=jbv.forms hE;have HE:=zh hE;clear hE;obtain⟨⟨u0,hr0⟩,hf0⟩:=(HB.out.ext hx1).ready (i:=k*2) (by have:=HS.out;omega);obtain⟨⟨u1',hr1⟩,hf1⟩:=(HB.out.ext hx1).ready (i:=k*2+1) (by have:=HS.out;omega)))
    go_roundw
    case rel =>
     have hb1:=HB.out.ext hx1
     have ha:Agree (From (w.heap.size+1)) w1 ((w1.setCell ⟨w.heap.size,k*2,none⟩ (.slice A2 x.comes.length c2)).setCell ⟨w.heap.size,k*2+1,none⟩ (.slice B2 x.goes.length d2)) :=
      ((Agree.refl _ _).set (by simp) _).set (by simp) _
     have hsz:w1.heap.size≤((w1.setCell ⟨w.heap.size,k*2,none⟩ (.slice A2 x.comes.length c2)).setCell ⟨w.heap.size,k*2+1,none⟩ (.slice B2 x.goes.length d2)).heap.size:=by go_size
     refine⟨k+1,_,by omega,by go_num,?_,((hb1.set_ _ _).set_ _ _),HF.out.step (fun m hm hlt=>(jc5 hm).trans ((jc5 hm).trans (hx1.block m hlt))) (Nat.le_trans hx1.size hsz) hg (fun m hm=>by show w.heap.size+1≤m;omega) HK.out (l:=[.slice A2 x.comes.length c2,.slice B2 x.goes.length d2]) (jbv.imp HE.out (fun b hb _=>hb) (fun b hb hlt=>ha b (by show w.heap.size+1≤b;have:wr.heap.size≤b:=hb;omega) hlt) hsz) (jtn (by have:=HS.out;omega)) (fun o ho=>jpp o ho),(Below.setCell (Below.setCell (hx.trans' hx1) (Nat.le_refl _) _) (Nat.le_refl _) _)⟩;simp[HS.out]
    case measure=>simp[intOf];omega
  have hkk:k=xs.length:=by omega
  go_wp2;go_ret;refine⟨⟨_,rfl,?_⟩,hx⟩;exact jb4.slice (c:=xs.length) (hkk▸hf) hb rfl (Nat.le_refl _) (by unfold maxLen;have:=HN.out;unfold jb7 at this;omega) (Nat.le_refl _) (jdi (by omega))
theorem BaseO.made {a b:Nat} {w1 W1 w2 W2 w3 w4:World} {v u x:Value} {B:GB}
  (hv:jc7 (From a) w1 v B.rules) (h1:Agree (From a) w1 W1) (s1:w1.heap.size≤W1.heap.size) (x1:Ext W1 w2)
  (hu:jba (From W1.heap.size) w2 u B.given) (h2:Agree (From a) w2 W2) (s2:w2.heap.size≤W2.heap.size) (x2:Ext W2 w3)
  (hx:jby (From W2.heap.size) w3 x B.hist) (h3:Agree (From a) w3 w4) (s3:w3.heap.size≤w4.heap.size) (ha:a≤w1.heap.size) (hb:b≤a) :
  BaseO (From b) w4 (.agg #[v,.int .i64 B.time,u,x]) B:=by
 have y1:=x1.size;have y2:=x2.size;have e1:∀ i,Mid W1.heap.size w2.heap.size i→From a i:=fun i hi=>Nat.le_trans (Nat.le_trans ha s1) hi.1
 have e2:∀ i,From W2.heap.size i→From a i:=fun i hi=>Nat.le_trans (Nat.le_trans ha s1) (Nat.le_trans (Nat.le_trans y1 s2) hi)
 refine⟨v,u,x,Mid a w1.heap.size,Mid W1.heap.size w2.heap.size,From W2.heap.size,rfl,?_,?_,?_,?_,?_,?_,?_⟩
 · have z1:jc7 (Mid a w1.heap.size) w1 v B.rules:=jad.imp hv (fun b hb hlt=>⟨hb,hlt⟩) (.refl _ _) (Nat.le_refl _)
   have z2:=jad.ext (jad.imp z1 (fun _ h _=>h) (Agree.mid h1) s1) x1;have z3:=jad.ext (jad.imp z2 (fun _ h _=>h) (Agree.mid h2) s2) x2;exact jad.imp z3 (fun _ h _=>h) (Agree.mid h3) s3
 · have z1:jba (Mid W1.heap.size w2.heap.size) w2 u B.given:=jad.imp hu (fun b hb hlt=>⟨hb,hlt⟩) (.refl _ _) (Nat.le_refl _)
   have z2:=jad.ext (jad.imp z1 (fun _ h _=>h) (fun i hi hlt=>h2 i (e1 i hi) hlt) s2) x2;exact jad.imp z2 (fun _ h _=>h) (fun i hi hlt=>h3 i (e1 i hi) hlt) s3
 · exact jad.imp hx (fun _ h _=>h) (fun i hi hlt=>h3 i (e2 i hi) hlt) s3
 · rintro i (h|h|h)
   · exact Nat.le_trans hb h.1
   · exact Nat.le_trans hb (e1 i h)
   exact Nat.le_trans hb (e2 i h)
 · intro i h k;have k1:=h.2;have k2:=k.1;omega
 · intro i h k;have k1:=h.2;have k2:W2.heap.size≤i:=k;omega
 intro i h k;have k1:=h.2;have k2:W2.heap.size≤i:=k;omega
theorem jj1 (B:GB) (v:Value) (w:World) {S:Nat→Prop} (hv:BaseR S w v B) (hw:wBase B≤1048576) :
  Calls Tryz.prog 10 #[v] w fun e w'=>(∃ u,e=.returned u∧BaseO (From w.heap.size) w' u B)∧Ext w w':=by
 obtain⟨a,b,c,rfl,ha,hb,hc⟩:=hv;obtain⟨A1,c1,rfl,hd1,hd2⟩:=jaa.form ha;obtain⟨A2,c2,rfl,hd3,hd4⟩:=jaa.form hb;obtain⟨A3,c3,rfl,hd5,hd6⟩:=jaa.form hc;obtain⟨W0,hW0⟩:∃ W0,W0=((w.alloc (.cells #[.slice A1 B.rules.length c1,.int .i64 B.time,.slice A2 B.given.length c2,.slice A3 B.hist.length c3] 26)).alloc (.cells #[.slice none 0 0,.int .i64 0,.slice none 0 0,.slice none 0 0] 33)).alloc (.cells #[.slice none 0 0,.int .i64 0,.slice none 0 0,.slice none 0 0] 33):=⟨_,rfl⟩
 have hx0:Ext w W0:=by rw[hW0];exact (((Ext.refl _).alloc _).alloc _).alloc _
 have hA0:Blk W0 w.heap.size 26 #[.slice A1 B.rules.length c1,.int .i64 B.time,.slice A2 B.given.length c2,.slice A3 B.hist.length c3]:=by rw[hW0];exact ((Blk.new _ _ _).alloc _).alloc _
 have hR0:Blk W0 (w.heap.size+1) 33 #[.slice none 0 0,.int .i64 0,.slice none 0 0,.slice none 0 0]:=by rw[hW0];exact (Blk.at_new (by simp)).alloc _
 have hO0:Blk W0 (w.heap.size+1+1) 33 #[.slice none 0 0,.int .i64 0,.slice none 0 0,.slice none 0 0]:=by rw[hW0];exact Blk.at_new (by simp)
 have hs0:W0.heap.size=w.heap.size+3:=by rw[hW0];simp
 have HN:=zh (show jdc B.rules≤1048576∧jb1 B.given≤1048576∧jb7 B.hist≤1048576 from by unfold wBase at hw;omega);have HA:=zh (ha.ext hx0);have HB:=zh hb;have HC:=zh hc;have HX0:=zh hx0;have HA0:=zh hA0;have HR0:=zh hR0;have HO0:=zh hO0;have HS0:=zh hs0;have HW0:=zh hW0;clear ha hb hc hx0 hA0 hR0 hO0 hs0 hw hW0
 go_enter Tryz.func10,Tryz.ntmps10;go_wp2_with (fail)
 rw[← HW0.out];refine (jtq _ B.rules _ HA.out HN.out.1).mono ?_;rintro e w1 ⟨⟨v1,rfl,hv1⟩,hx1⟩;obtain⟨B1,d1,rfl,he1,he2⟩:=jad.form hv1;have HV1:=zh hv1;have HX1:=zh hx1;have hA1:=HA0.out.ext hx1;have hR1:=HR0.out.ext hx1;have hO1:=HO0.out.ext hx1;have a1:=hA1.cell 1;have a2:=hA1.cell 2;have o0:=hO1.cell 0;have o1:=hO1.cell 1;have f0:=hO1.frozen 0;have f1:=hO1.frozen 1;have lO:=hO1.lt;have HA1:=zh ((hA1.far (p:=⟨w.heap.size+1+1,0,none⟩) (by show w.heap.size≠w.heap.size+1+1;omega) (.slice B1 B.rules.length d1)).far (p:=⟨w.heap.size+1+1,1,none⟩) (by show w.heap.size≠w.heap.size+1+1;omega) (.int .i64 B.time));have HR1:=zh ((hR1.far (p:=⟨w.heap.size+1+1,0,none⟩) (by simp) (.slice B1 B.rules.length d1)).far (p:=⟨w.heap.size+1+1,1,none⟩) (by simp) (.int .i64 B.time));have HO1:Hid (Blk ((w1.setCell ⟨w.heap.size+1+1,0,none⟩ (.slice B1 B.rules.length d1)).setCell ⟨w.heap.size+1+1,1,none⟩ (.int .i64 B.time)) (w.heap.size+1+1) 33 #[.slice B1 B.rules.length d1,.int .i64 B.time,.slice none 0 0,.slice none 0 0]):=zh (by simpa using (hO1.set_ 0 (.slice B1 B.rules.length d1)).set_ 1 (.int .i64 B.time));have E1:=zh (((HX0.out.trans' hx1).setNew (p:=⟨w.heap.size+1+1,0,none⟩) (by simp;omega) (.slice B1 B.rules.length d1)).setNew (p:=⟨w.heap.size+1+1,1,none⟩) (by simp;omega) (.int .i64 B.time));have HL1:=zh (show w.heap.size+3≤w1.heap.size from by have:=hx1.size;rw[HS0.out] at this;exact this);clear hv1 hx1 hA1 hR1 hO1;go_wp2_with (fail)
 refine (jhu _ B.given _ (HB.out.ext E1.out) HN.out.2.1).mono ?_;rintro e w2 ⟨⟨v2,rfl,hv2⟩,hx2⟩;obtain⟨B2,d2,rfl,he3,he4⟩:=jad.form hv2;have HV2:=zh hv2;have HX2:=zh hx2;clear a1 a2 o0 o1 f0 f1 lO;have hA2:=HA1.out.ext hx2;have hR2:=HR1.out.ext hx2;have hO2:=HO1.out.ext hx2;have a3:=hA2.cell 3;have o2:=hO2.cell 2;have f2:=hO2.frozen 2;have lO:=hO2.lt;have HA2:=zh (hA2.far (p:=⟨w.heap.size+1+1,2,none⟩) (by show w.heap.size≠w.heap.size+1+1;omega) (.slice B2 B.given.length d2));have HR2:=zh (hR2.far (p:=⟨w.heap.size+1+1,2,none⟩) (by simp) (.slice B2 B.given.length d2));have HO2:Hid (Blk (w2.setCell ⟨w.heap.size+1+1,2,none⟩ (.slice B2 B.given.length d2)) (w.heap.size+1+1) 33 #[.slice B1 B.rules.length d1,.int .i64 B.time,.slice B2 B.given.length d2,.slice none 0 0]):=zh (by simpa using (hO2.set_ 2 (.slice B2 B.given.length d2)));have E2:=zh ((E1.out.trans' hx2).setNew (p:=⟨w.heap.size+1+1,2,none⟩) (by simp;omega) (.slice B2 B.given.length d2));have HL2:=zh (show w.heap.size+3≤w2.heap.size from by have h:=hx2.size;simp only[jfw] at h;have:=HL1.out;omega);clear hv2 hx2 hA2 hR2 hO2;go_wp2_with (fail)
 refine (jpq _ B.hist _ (jan.ext HC.out E2.out) HN.out.2.2).mono ?_;rintro e w3 ⟨⟨v3,rfl,hv3⟩,hx3⟩;obtain⟨B3,d3,rfl,he5,he6⟩:=jad.form hv3;have HV3:=zh hv3;have HX3:=zh hx3;clear a3 o2 f2 lO;have hR3:=HR2.out.ext hx3;have hO3:=HO2.out.ext hx3;have o0:=hO3.cell 0;have o1:=hO3.cell 1;have o2:=hO3.cell 2;have o3:=hO3.cell 3;have f3:=hO3.frozen 3;have r0:=hR3.cell 0;have r1:=hR3.cell 1;have r2:=hR3.cell 2;have r3:=hR3.cell 3;have g0:=hR3.frozen 0;have g1:=hR3.frozen 1;have g2:=hR3.frozen 2;have g3:=hR3.frozen 3;have lO:=hO3.lt;have HL3:=zh (show w.heap.size+3≤w3.heap.size from by have h:=hx3.size;simp only[jfw] at h;have:=HL2.out;omega);clear hv3 hx3 hR3 hO3;go_wp2;refine bodyPost_ret (v:=.agg #[.slice B1 B.rules.length d1,.int .i64 B.time,.slice B2 B.given.length d2,.slice B3 B.hist.length d3]) (by simp[results,Tryz.results10,go_sem,o0,o1,o2,o3,r0,r1,r2,r3]) rfl ⟨⟨_,rfl,?_⟩,?_⟩
 · have l1:=HL1.out
   have l2:=HL2.out;have l3:=HL3.out;refine BaseO.made (a:=w.heap.size+3) (HV1.out.sub (jdi (by rw[HS0.out];exact Nat.le_refl _))) ?_ ?_ HX2.out HV2.out ?_ ?_ HX3.out HV3.out ?_ ?_ l1 (by omega)
   · exact ((Agree.refl _ _).set (by simp) _).set (by simp) _
   · go_size
   · exact (Agree.refl _ _).set (by simp) _
   · go_size
   · exact (((((Agree.refl _ _).set (by simp) _).set (by simp) _).set (by simp) _).set (by simp) _).set (by simp) _
   go_size
 exact ((((((E2.out.trans' HX3.out).setNew (by simp;omega) _).setNew (by simp) _).setNew (by simp) _).setNew (by simp) _).setNew (by simp) _)
end Go.Proofs.YthdojieomhighaaGreatDoor
