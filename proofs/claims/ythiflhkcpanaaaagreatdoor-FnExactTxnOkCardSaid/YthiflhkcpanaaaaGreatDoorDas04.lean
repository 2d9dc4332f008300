/- Own texts, joined. -/
import Derived.Test.YthiflhkcpanaaaaGreatDoorDas02
import Derived.Shelf.Strings.Builder1
import Derived.Shelf.Small.Bits
import Derived.Shelf.Small.Strs
import Derived.Shelf.Strings.BuilderF
import Derived.Shelf.Strings.BuilderK
import Derived.Shelf.Strconv.Itoa0
import Derived.Shelf.Strings.BuilderCap
import Derived.Ground.SlsfProg
import Derived.Shelf.SlSortCmp.Insertion
import Derived.Test.YthiflhkcpanaaaaGreatDoorProg
import Derived.Laws.EntriesVeiled
import Derived.RangeFuncNested
import Derived.RangeFuncBound
import Derived.RangeFuncCalls
import Derived.RangeFuncLeaves
import Derived.RangeFuncWrites
import Derived.Shelf.Abstract
import Derived.Shelf.RegionOpen
import Derived.OwnWalkIn
import Derived.TacticsInMore
import Derived.LoopNIn
import Derived.LoopIn
set_option linter.unusedSimpArgs false
set_option linter.unusedVariables false
set_option maxHeartbeats 4000000
set_option maxRecDepth 100000
namespace Go.Proofs.YthiflhkcpanaaaaGreatDoor
open Go.RowKit
theorem jqy (s:ByteArray) (w:World) (hs:s.size<=maxLen) :
  Calls Tryz.prog 284 #[.string s] w fun e w'=>e=.returned (.bool (jc5 s.data.toList))/\w'=w:=by
 unfold maxLen at hs
 go_in;go_wp2
 go_loop [3] (fun i=>∃ k:Nat,k<=s.size/\i=.int .i64 k/\J1 (jc5 (s.data.toList.take k)=true)) (fun i=>s.size-(intOf i).toNat)
 case atStart=>exact⟨0,Nat.zero_le _,rfl,rfl⟩
 case round =>
  obtain⟨k,hk,rfl,hp⟩:=hrel;by_cases hlt:k<s.size
  . have HT:=zh (jnt s k hlt)
    have hc:s[k].toNat<256:=s[k].toNat_lt;cases hd:jka s[k]
    . have HF:=zh (show jc5 s.data.toList=false from by
        have:jc5 (s.data.toList.take (k+1))=false:=by rw[HT.o,jfn,hd,Bool.and_false]
        exact jkb this)
      rcases jqp hd with h|h|h
      all_goals
       clear hd;go_wp2;go_ret;exact⟨by rw[HF.o];rfl,rfl⟩
    have HP:=zh (show jc5 (s.data.toList.take (k+1))=true from by rw[HT.o,jfn,hd,hp.o];rfl);rcases ji4 hd with h|h
    all_goals
     clear hd;go_wp2
     go_round
     case rel=>exact⟨k+1,by omega,by go_num,HP⟩
     case measure=>simp[intOf];omega
  have HF:=zh (show jc5 s.data.toList=true from by
    have hkk:k=s.size:=by omega
    have hp1:=hp.o;rw[hkk,ju2] at hp1;exact hp1)
  go_wp2;go_ret;exact⟨by rw[HF.o];rfl,rfl⟩
theorem ju8 {s:ByteArray} (h:s.size=0):capB s=false:=by
 have:s.data.toList=[]:=by apply List.eq_nil_of_length_eq_zero;simpa using h
 unfold capB;rw[this]
theorem ju9 {s:ByteArray} (h:s.size=0):s.toList=[]:=by
 rw[ByteArray.toList_eq];apply List.eq_nil_of_length_eq_zero;simpa using h
theorem jyb {s:ByteArray} (h:¬ s.size=0):s.toList.isEmpty=false:=by
 rw[ByteArray.toList_eq]
 cases h2:s.data.toList with
 | nil=>exact absurd (by have:=congrArg List.length h2;simpa using this) h
 | cons=>rfl
theorem jtc (s:ByteArray) (w:World) (hs:s.size<=maxLen) :
  Calls Tryz.prog 307 #[.string s] w fun e w'=>e=.returned (.bool (capB s))/\w'=w:=by
 unfold maxLen at hs;by_cases h0:s.size=0
 . have HF:=zh (ju8 h0)
   have h1:s.toList=[]:=ju9 h0;have h2:(!s.toList.isEmpty)=false:=by rw[h1];rfl
   have H0:=zh h0;clear h0
   go_in;go_wp2;go_ret;exact⟨by rw[HF.o];rfl,rfl⟩
 have hp:0<s.size:=Nat.pos_of_ne_zero h0;have h1:s.toList.isEmpty=false:=jyb h0;have hc:s[0].toNat<256:=s[0].toNat_lt;cases hu:upper s[0]
 . have HF:=zh ((jga hp).trans hu)
   have hr:s[0].toNat<65∨90<s[0].toNat:=by have h9:=of_decide_eq_false hu;clear h1;omega
   clear hu h0;rcases hr with hr|hr
   all_goals
    go_in;go_wp2;go_ret;exact⟨by rw[HF.o];exact ja6 (by first|(simp;done)|(simp;omega)),rfl⟩
 have HF:=zh ((jga hp).trans hu);obtain⟨hr1,hr2⟩:=of_decide_eq_true hu;clear hu h0
 go_in;go_wp2;go_ret;exact⟨by rw[HF.o];exact ja6 (by first|(simp;done)|(simp;omega)),rfl⟩
def tailB (s:ByteArray):Bool:=jc5 (s.data.toList.drop 1)
theorem jlt (s:ByteArray):jcj s=(decide (s.size<=8) && capB s && jc5 (s.data.toList.drop 1)):=by
 unfold jcj;rw[Bool.and_comm (capB s)]
theorem j0l {s:ByteArray} (h:capB s=true):0<s.size:=by
 rcases Nat.eq_zero_or_pos s.size with h0|h0
 . rw[ju8 h0] at h;cases h
 exact h0
theorem jnf (s:ByteArray) (w:World) (hs:s.size<=maxLen) :
  Calls Tryz.prog 286 #[.string s] w fun e w'=>e=.returned (.bool (jcj s))/\w'=w:=by
 have hm:s.size<=9223372036854775807:=hs;by_cases h8:s.size<=8
 . have hw:=jai (jtc s w hs)
   have hd8:decide ((s.size:Int)<=8)=true:=by simp;omega
   cases hc:capB s
   . have HF:=zh (show jcj s=false from by rw[jlt,hc];simp)
     have HW:=zh (hw.2 hc);clear hw hc
     go_in;go_wp2_with (go_at_call 307;refine HW.o.mono ?_;rintro e w1 ⟨rfl,rfl⟩)
     go_ret;exact⟨by rw[HF.o];rfl,rfl⟩
   have hp:=j0l hc;have HW:=zh (hw.1 hc);have hq:=jqy (s.extract 1 s.size) w (by rw[jlo _ _ hp];exact Nat.le_trans (Nat.sub_le _ _) hs);have hq2:Calls Tryz.prog 284 #[.string (s.extract 1 s.size)] w fun e w'=>e=.returned (.bool (tailB s))/\w'=w:=by rw[jqq] at hq;exact hq
   have HQ:=zh hq2;have HF:=zh (show jcj s=tailB s from by rw[jlt,hc];unfold tailB;simp[h8]);clear hw hc hq hq2
   go_in;go_wp2_with (first|(go_at_call 307;refine HW.o.mono ?_;rintro e w1 ⟨rfl,rfl⟩)|(go_at_call 284;refine HQ.o.mono ?_;rintro e w1 ⟨rfl,rfl⟩))
   go_ret;exact⟨by rw[HF.o];rfl,rfl⟩
 have HF:=zh (show jcj s=false from by rw[jlt];simp[h8]);have hd8:decide ((s.size:Int)<=8)=false:=by simp;omega
 go_in;go_wp2;go_ret;exact⟨by rw[HF.o];exact ja6 (by first|(simp;done)|(simp;omega)),rfl⟩
theorem jn0 (s:ByteArray) (w:World) (hs:s.size<=maxLen) :
  Calls Tryz.prog 242 #[.string s] w fun e w'=>e=.returned (.bool (jaz s))/\w'=w:=by
 have hm:s.size<=9223372036854775807:=hs;by_cases h1:1<=s.size
 . by_cases h8:s.size<=8
   . have hw:=jai (jqy s w hs)
     cases hc:jc5 s.data.toList
     . have HF:=zh (show jaz s=false from by unfold jaz jbu;rw[hc];rfl)
       have HW:=zh (hw.2 hc);clear hw hc
       go_in;go_wp2_with (go_at_call 284;refine HW.o.mono ?_;rintro e w1 ⟨rfl,rfl⟩)
       go_ret;exact⟨by rw[HF.o];rfl,rfl⟩
     have HF:=zh (show jaz s = !(isNot s) from by unfold jaz jbu;rw[hc,jta (by omega) (by omega)];rfl);have HW:=zh (hw.1 hc);clear hw hc
     go_in;go_wp2_with (go_at_call 284;refine HW.o.mono ?_;rintro e w1 ⟨rfl,rfl⟩)
     go_ret;exact⟨by rw[HF.o];rfl,rfl⟩
   have HF:=zh (show jaz s=false from by unfold jaz jbu;rw[ju1 (by omega)];simp)
   go_in;go_wp2;go_ret;exact⟨by rw[HF.o];first|rfl|exact ja6 (by first|(simp;done)|(simp;omega)),rfl⟩
 have HF:=zh (show jaz s=false from by unfold jaz jbu;rw[jx8 (by omega)];simp)
 go_in;go_wp2;go_ret;exact⟨by rw[HF.o];first|rfl|exact ja6 (by first|(simp;done)|(simp;omega)),rfl⟩
@[go_sem] theorem as_ww (v:Value) (w:World):(Instr.typeAssert (.iface 325 v) 291 325 true).run Tryz.prog w=.ok (.tuple #[v,.bool true]) w:=by kernel_rfl
@[go_sem] theorem as_vw (v:Value) (w:World):(Instr.typeAssert (.iface 288 v) 291 325 true).run Tryz.prog w=.ok (.tuple #[.string ⟨#[]⟩,.bool false]) w:=by kernel_rfl
@[go_sem] theorem as_vv (v:Value) (w:World):(Instr.typeAssert (.iface 288 v) 291 288 true).run Tryz.prog w=.ok (.tuple #[v,.bool true]) w:=by kernel_rfl
theorem ji7 (t:GT) (w:World) :
  Calls Tryz.prog 255 #[.agg #[.bool t.v,.string t.n]] w fun e w'=>e=.returned (.iface (if t.v=true then 288 else 325) (.string t.n))/\Ext w w':=by
 obtain⟨v,s⟩:=t;cases v
 . go_in
   go_wp2;go_ret;exact⟨rfl,(Ext.refl _).alloc _⟩
 go_in;go_wp2;go_ret;exact⟨rfl,(Ext.refl _).alloc _⟩
theorem jgi (s:ByteArray) (w:World):Calls Tryz.prog 285 #[.string s] w fun e w'=>e=.returned (.string s)/\w'=w:=by
 go_in;go_wp2;go_ret;exact⟨rfl,rfl⟩
theorem jc7 (s:ByteArray) (w:World):Calls Tryz.prog 257 #[.string s] w fun e w'=>e=.returned (.string s)/\w'=w:=by
 go_in;go_wp2;go_ret;exact⟨rfl,rfl⟩
theorem jwi (t:GT) (w:World) (hs:t.n.size<=maxLen) :
  Calls Tryz.prog 243 #[.agg #[.bool t.v,.string t.n]] w fun e w'=>e=.returned (.bool (ja3 t))/\Ext w w':=by
 have hk:=ji7 t;obtain⟨v,s⟩:=t;cases v
 . have HF:=zh (show ja3 ⟨false,s⟩=jaz s from rfl)
   have HK:∀ w:World,Calls Tryz.prog 255 #[.agg #[.bool false,.string s]] w fun e w'=>e=.returned (.iface 325 (.string s))/\Ext w w':=hk
   have HK:=zh HK;clear hk
   go_in
   go_wp2_with (first
    | (go_at_call 255;refine (HK.o _).mono ?_;rintro e w1 ⟨rfl,hx1⟩)
    | (go_at_call 285;refine (jgi s _).mono ?_;rintro e w2 ⟨rfl,rfl⟩)
    | (go_at_call 242;refine (jn0 s _ hs).mono ?_;rintro e w2 ⟨rfl,rfl⟩))
   go_ret;exact⟨by rw[HF.o];rfl,((Ext.refl _).alloc _).t hx1⟩
 have HF:=zh (show ja3 ⟨true,s⟩=jcj s from rfl);have HK:∀ w:World,Calls Tryz.prog 255 #[.agg #[.bool true,.string s]] w fun e w'=>e=.returned (.iface 288 (.string s))/\Ext w w':=hk
 have HK:=zh HK;clear hk
 go_in
 go_wp2_with (first
  | (go_at_call 255;refine (HK.o _).mono ?_;rintro e w1 ⟨rfl,hx1⟩)
  | (go_at_call 257;refine (jc7 s _).mono ?_;rintro e w2 ⟨rfl,rfl⟩)
  | (go_at_call 286;refine (jnf s _ hs).mono ?_;rintro e w2 ⟨rfl,rfl⟩))
 go_ret;exact⟨by rw[HF.o];rfl,((Ext.refl _).alloc _).t hx1⟩
theorem ji8 (a:GA) (v:Value) (w:World) {S:Nat->Prop} (hs:a.n.size<=maxLen) (hv:jad S w v a.args) :
  Calls Tryz.prog 199 #[.agg #[.string a.n,v]] w fun e w'=>e=.returned (.bool (jat a))/\Ext w w':=by
 obtain⟨A,c,rfl,hc1,hc2⟩:=jaa.form hv;have HV:=zh (hv.ext ((Ext.refl w).alloc (.cells #[.string a.n,.slice A a.args.length c] 69)));clear hv;have hw:=jai (jn0 a.n (w.alloc (.cells #[.string a.n,.slice A a.args.length c] 69)) hs);cases hn:jaz a.n
 . have HF:=zh (show jat a=false from by unfold jat;rw[hn];rfl)
   have HW:=zh (hw.2 hn);clear hw hn
   go_in;go_wp2_with (go_at_call 242;refine HW.o.mono ?_;rintro e w1 ⟨rfl,rfl⟩)
   go_ret;exact⟨by rw[HF.o];rfl,(Ext.refl _).alloc _⟩
 have HW:=zh (hw.1 hn);by_cases h3:a.args.length<=3
 . have HF:=zh (show jat a=a.args.all ja3 from by unfold jat;rw[hn];simp[h3])
   clear hw hn
   go_in;go_wp2_with (go_at_call 242;refine HW.o.mono ?_;rintro e w1 ⟨rfl,rfl⟩)
   go_loopw [18] (fun i wr=>∃ k:Nat,k<=a.args.length/\i=.int .i64 k/\J1 ((a.args.take k).all ja3=true)/\Ext (w.alloc (.cells #[.string a.n,.slice A a.args.length c] 69)) wr) (fun i _=>a.args.length-(intOf i).toNat)
   case atStart=>exact⟨0,Nat.zero_le _,rfl,rfl,Ext.refl _⟩
   case round =>
    obtain⟨k,hk,rfl,hp,hx⟩:=hrel;by_cases hlt:k<a.args.length
    . obtain ⟨b,off,x,rfl,hb,hxk,hxs,hc0,hc1⟩:=jad.at_ (HV.o.ext hx) hlt
      have HK:=zh hxk;have hw:=jai (jwi x (wr.alloc (.cells #[.bool x.v,.string x.n] 157)) hxs);clear hxk;cases ht:ja3 x
      . have HZ:=zh (jbc ja3 _ k x HK.o ht)
        have HW:=zh (hw.2 ht);clear hw ht;go_wp2_with (go_at_call 243;refine HW.o.mono ?_;rintro e w1 ⟨rfl,hx1⟩)
        go_ret;exact⟨by rw[HF.o,HZ.o];rfl,((Ext.refl _).alloc _).t ((hx.alloc _).t hx1)⟩
      have HP:=zh (show (a.args.take (k+1)).all ja3=true from by rw[jbo _ _ k x HK.o,hp.o,ht];rfl);have HW:=zh (hw.1 ht);clear hw ht;go_wp2_with (go_at_call 243;refine HW.o.mono ?_;rintro e w1 ⟨rfl,hx1⟩)
      go_roundw
      case rel=>exact⟨k+1,by omega,by go_num,HP,(hx.alloc _).t hx1⟩
      case measure=>simp[intOf];omega
    have HZ:=zh (jbl _ _ k hlt hp.o);go_wp2;go_ret;exact⟨by rw[HF.o,HZ.o];rfl,((Ext.refl _).alloc _).t hx⟩
 have HF:=zh (show jat a=false from by unfold jat;simp[h3]);clear hw hn
 go_in;go_wp2_with (go_at_call 242;refine HW.o.mono ?_;rintro e w1 ⟨rfl,rfl⟩)
 go_ret;exact⟨by rw[HF.o];rfl,(Ext.refl _).alloc _⟩
theorem jtd (t:GT) (w:World) :
  Calls Tryz.prog 201 #[.agg #[.bool t.v,.string t.n]] w fun e w'=>e=.returned (.bool t.v)/\Ext w w':=by
 go_in;go_wp2;go_ret;exact⟨rfl,(Ext.refl _).alloc _⟩
theorem jkf (v:Value) (xs:List GT) (w:World) {S:Nat->Prop} (hv:jad S w v xs) :
  Calls Tryz.prog 244 #[v,.func (.func 201) #[] #[]] w fun e w'=>(∃ z:Int,e=.returned (.int .i64 z)/\(xs.all noVar=true->z<0)/\(xs.all noVar=false->0<=z))/\Ext w w':=by
 obtain⟨A,c,rfl,hc1,hc2⟩:=jaa.form hv;have HV:=zh hv;clear hv
 go_in;go_wp2;go_loopw [8] (fun i wr=>∃ k:Nat,k<=xs.length/\i=.int .i64 k/\J1 ((xs.take k).all noVar=true)/\Ext w wr) (fun i _=>xs.length-(intOf i).toNat)
 case atStart=>exact⟨0,Nat.zero_le _,rfl,rfl,Ext.refl _⟩
 case round =>
  obtain⟨k,hk,rfl,hp,hx⟩:=hrel;by_cases hlt:k<xs.length
  . obtain ⟨b,off,x,rfl,hb,hxk,hxs,hc0,hc1⟩:=jad.at_ (HV.o.ext hx) hlt
    have HK:=zh hxk;have hw:=jai (jtd x wr);clear hxk;cases ht:x.v
    . have HP:=zh (show (xs.take (k+1)).all noVar=true from by rw[jbo _ _ k x HK.o,hp.o,jqv ht];rfl)
      have HW:=zh (hw.2 ht);clear hw ht;go_wp2_with (go_at_call 201;refine HW.o.mono ?_;rintro e w1 ⟨rfl,hx1⟩)
      go_roundw
      case rel=>exact⟨k+1,by omega,by go_num,HP,hx.t hx1⟩
      case measure=>simp[intOf];omega
    have HZ:=zh (jbc noVar _ k x HK.o (ju4 ht));have HW:=zh (hw.1 ht);clear hw ht;go_wp2_with (go_at_call 201;refine HW.o.mono ?_;rintro e w1 ⟨rfl,hx1⟩)
    go_ret;exact⟨⟨k,rfl,fun h=>(by rw[HZ.o] at h;cases h),fun _=>Int.natCast_nonneg _⟩,hx.t hx1⟩
  have HZ:=zh (jbl _ _ k hlt hp.o);go_wp2;go_ret;exact⟨⟨-1,rfl,fun _=>by decide,fun h=>(by rw[HZ.o] at h;cases h)⟩,hx⟩
theorem jgj (v:Value) (xs:List GT) (w:World) {S:Nat->Prop} (hv:jad S w v xs) :
  Calls Tryz.prog 200 #[v,.func (.func 201) #[] #[]] w fun e w'=>e=.returned (.bool (!xs.all noVar))/\Ext w w':=by
 obtain⟨A,c,rfl,hc1,hc2⟩:=jaa.form hv;have HV:=zh hv;clear hv;cases ha:xs.all noVar
 . have HA:=zh ha
   clear ha
   go_in;go_wp2_with (go_at_call 244;refine (jkf _ xs _ HV.o).mono ?_;rintro e w1 ⟨⟨z,rfl,h1,h2⟩,hx1⟩;have hz:=h2 HA.o;clear h1 h2)
   go_ret;exact⟨ja6 (by first|(simp;done)|(simp;omega)),hx1⟩
 have HA:=zh ha;clear ha
 go_in;go_wp2_with (go_at_call 244;refine (jkf _ xs _ HV.o).mono ?_;rintro e w1 ⟨⟨z,rfl,h1,h2⟩,hx1⟩;have hz:=h1 HA.o;clear h1 h2)
 go_ret;exact⟨ja6 (by first|(simp;done)|(simp;omega)),hx1⟩
theorem jwj (a:GA) (v:Value) (w:World) {S:Nat->Prop} (hs:a.n.size<=maxLen) (hv:jad S w v a.args) :
  Calls Tryz.prog 137 #[.agg #[.string a.n,v]] w fun e w'=>e=.returned (.bool (factB a))/\Ext w w':=by
 obtain⟨A,c,rfl,hc1,hc2⟩:=jaa.form hv;have HV:=zh (hv.ext ((Ext.refl w).alloc (.cells #[.string a.n,.slice A a.args.length c] 69)));clear hv;have hw:=jai (ji8 a _ _ hs HV.o);cases hn:jat a
 . have HF:=zh (show factB a=false from by unfold factB;rw[hn];rfl)
   have HW:=zh (hw.2 hn);clear hw hn
   go_in;go_wp2_with (go_at_call 199;refine HW.o.mono ?_;rintro e w1 ⟨rfl,hx1⟩)
   go_ret;exact⟨by rw[HF.o];rfl,((Ext.refl _).alloc _).t hx1⟩
 have HF:=zh (show factB a=a.args.all noVar from by unfold factB;rw[hn];rfl);have HW:=zh (hw.1 hn);clear hw hn;cases ha:a.args.all noVar
 . have HA:=zh ha
   clear ha
   go_in
   go_wp2_with (first
    | (go_at_call 199;refine HW.o.mono ?_;rintro e w1 ⟨rfl,hx1⟩;obtain⟨hcc,hcf⟩:=hx1.cells)
    | (go_at_call 200;refine ((jai (jgj _ a.args _ (HV.o.ext hx1))).1 (by rw[HA.o];rfl)).mono ?_;rintro e w2 ⟨rfl,hx2⟩))
   go_ret;exact⟨by rw[HF.o,HA.o];rfl,(((Ext.refl _).alloc _).t hx1).t hx2⟩
 have HA:=zh ha;clear ha
 go_in
 go_wp2_with (first
  | (go_at_call 199;refine HW.o.mono ?_;rintro e w1 ⟨rfl,hx1⟩;obtain⟨hcc,hcf⟩:=hx1.cells)
  | (go_at_call 200;refine ((jai (jgj _ a.args _ (HV.o.ext hx1))).2 (by rw[HA.o];rfl)).mono ?_;rintro e w2 ⟨rfl,hx2⟩))
 go_ret;exact⟨by rw[HF.o,HA.o];rfl,(((Ext.refl _).alloc _).t hx1).t hx2⟩
end Go.Proofs.YthiflhkcpanaaaaGreatDoor
namespace Go.Proofs
open Go.Shelf
def Tryz.lays169_ren:Go.Shelf.Ren:=⟨fun|169=>281|n=>n,fun|70=>318|9=>9|0=>0|72=>320|37=>22|127=>344|3=>3|5=>5|n=>n,fun|n=>n⟩
theorem Tryz.lays169:Go.Proofs.Lays.n169 Tryz.prog Tryz.lays169_ren:= {
 mixed:=by kernel_rfl
 f169:=Tryz.func281.trans (congrArg some (by kernel_rfl))
 t0:=Tryz.underlying0
 a0:=Tryz.isAgg0
 z0:=Tryz.sizeOf0
 v0:=Tryz.zeroValue0
 t3:=Tryz.underlying3
 a3:=Tryz.isAgg3
 z3:=Tryz.sizeOf3
 v3:=Tryz.zeroValue3
 t9:=Tryz.underlying9
 a9:=Tryz.isAgg9
 z9:=Tryz.sizeOf9
 v9:=Tryz.zeroValue9
 t37:=Tryz.underlying22
 a37:=Tryz.isAgg22
 z37:=Tryz.sizeOf22
 v37:=Tryz.zeroValue22
 t70:=Tryz.underlying318
 a70:=Tryz.isAgg318
 z70:=Tryz.sizeOf318
 v70:=Tryz.zeroValue318
 t72:=Tryz.underlying320
 a72:=Tryz.isAgg320
 z72:=Tryz.sizeOf320
 v72:=Tryz.zeroValue320
 t127:=Tryz.underlying344
 a127:=Tryz.isAgg344
 z127:=Tryz.sizeOf344
 v127:=Tryz.zeroValue344 }
theorem Tryz.Builder_Extra_169:Builder.Extra Tryz.prog Tryz.lays169_ren:= {
 sizeBuilder:=by kernel_rfl
 liesBuilder:=by kernel_rfl
 t5:=Tryz.underlying5
 a5:=Tryz.isAgg5
 z5:=Tryz.sizeOf5
 v5:=Tryz.zeroValue5
 infoByte:=by kernel_rfl
 cellsByte:=by kernel_rfl
 sizeByte:=by kernel_rfl
 neB5:=by decide }
open Go.RowKit in
theorem Tryz.Builder_String_any (B b:Nat) (l:List UInt8) (w:World) (h:Lib.IsBuilder 320 5 B b (Lib.byteCells l) w) (hBw:B<=w.heap.size) :
 Calls Tryz.prog 281 #[.pointer (some ⟨b,0,none⟩)] w fun e w'=>e=.returned (.string ⟨l.toArray⟩)/\Below B w w':=Any.Builder_String_any Tryz.lays169 Tryz.Builder_Extra_169 B b l w h hBw
def Tryz.lays106_ren:Go.Shelf.Ren:=⟨fun|106=>238|213=>283|265=>306|n=>n,fun|9=>9|3=>3|n=>n,fun|n=>n⟩
theorem Tryz.lays106:Go.Proofs.Lays.n106 Tryz.prog Tryz.lays106_ren:= {
 mixed:=by kernel_rfl
 f106:=Tryz.func238.trans (congrArg some (by kernel_rfl))
 f213:=Tryz.func283.trans (congrArg some (by kernel_rfl))
 f265:=Tryz.func306.trans (congrArg some (by kernel_rfl))
 t3:=Tryz.underlying3
 a3:=Tryz.isAgg3
 z3:=Tryz.sizeOf3
 v3:=Tryz.zeroValue3
 t9:=Tryz.underlying9
 a9:=Tryz.isAgg9
 z9:=Tryz.sizeOf9
 v9:=Tryz.zeroValue9 }
open Go.RowKit in
theorem Tryz.strings_Compare (a b:ByteArray) (w:World) :
 Calls Tryz.prog 238 #[.string a,.string b] w fun e w'=>e=.returned (.int .i64 (Lib.compareBytes a.data.toList b.data.toList))/\w'=w:=Any.strings_Compare Tryz.lays106 a b w
end Go.Proofs
namespace Go.Proofs.YthiflhkcpanaaaaGreatDoor
open Go.RowKit
theorem jdu (a b:ByteArray) (w:World) :
 Calls Tryz.prog 238 #[.string a,.string b] w fun e w'=>e=.returned (.int .i64 (cmpS a b))/\w'=w:=Tryz.strings_Compare a b w
theorem jlu (s t:GT) (w:World) :
  Calls Tryz.prog 240 #[.agg #[.bool s.v,.string s.n],.agg #[.bool t.v,.string t.n]] w fun e w'=>e=.returned (.int .i64 (cmpS s.n t.n))/\Ext w w':=by
 go_in;go_wp2_with (go_at_call 238;refine (jdu _ _ _).mono ?_;rintro e w1 ⟨rfl,rfl⟩)
 go_ret;exact⟨rfl,((Ext.refl _).alloc _).alloc _⟩
theorem jkg (x y:List GT):jdf x y=jdr x y 0 0:=by unfold jdr;rw[if_pos rfl];rfl
theorem jte (v u:Value) (xs ys:List GT) (w:World) {S T:Nat->Prop} (hv:jad S w v xs) (hu:jad T w u ys) :
  Calls Tryz.prog 239 #[v,u,.func (.func 240) #[] #[]] w fun e w'=>e=.returned (.int .i64 (jdf xs ys))/\Ext w w':=by
 obtain⟨A,c,rfl,hc1,hc2⟩:=jaa.form hv;obtain⟨B,d,rfl,hd1,hd2⟩:=jaa.form hu;have HV:=zh hv;have HU:=zh hu;clear hv hu
 go_in;go_wp2;go_loopw [13] (fun i wr=>∃ k:Nat,(k<=xs.length/\k<=ys.length)/\i=.int .i64 k/\J1 (jdf xs ys=jdr xs ys k 0)/\Ext w wr) (fun i _=>xs.length-(intOf i).toNat)
 case atStart=>exact⟨0,⟨Nat.zero_le _,Nat.zero_le _⟩,rfl,jkg _ _,Ext.refl _⟩
 case round =>
  obtain⟨k,⟨hk1,hk2⟩,rfl,hz,hx⟩:=hrel;by_cases h1:k<xs.length
  . obtain ⟨ba,offa,x,rfl,hba,hxk,hxs,hx0,hx1⟩:=jad.at_ (HV.o.ext hx) h1
    by_cases h2:k<ys.length
    . obtain ⟨bb,offb,y,rfl,hbb,hyk,hys,hy0,hy1⟩:=jad.at_ (HU.o.ext hx) h2
      have HZ:=zh (hz.o.trans (jgb hxk hyk));have hg:decide (ys.length<=k)=false:=decide_eq_false (by omega);clear hxk hyk hz;by_cases hq:cmpS x.n y.n=0
      . have HQ:=zh (show jdf xs ys=jdr xs ys (k+1) 0 from by rw[HZ.o,hq])
        have HC:∀ W:World,Calls Tryz.prog 240 #[.agg #[.bool x.v,.string x.n],.agg #[.bool y.v,.string y.n]] W fun e w'=>e=.returned (.int .i64 0)/\Ext W w':=fun W=>by
         have:=jlu x y W;rw[hq] at this;exact this
        have HC:=zh HC;clear hq;go_wp2_with (go_at_call 240;refine (HC.o _).mono ?_;rintro e w1 ⟨rfl,hw1⟩)
        go_roundw
        case rel=>exact⟨k+1,⟨by omega,by omega⟩,by go_num,HQ,((hx.alloc _).alloc _).t hw1⟩
        case measure=>simp[intOf];omega
      have HQ:=zh (HZ.o.trans (jgc hq));have hq1:((cmpS x.n y.n:Int) != 0)=true:=by simp[hq]
      have hq2:((cmpS x.n y.n:Int) == 0)=false:=by simp[hq]
      clear hq;go_wp2_with (go_at_call 240;refine (jlu x y _).mono ?_;rintro e w1 ⟨rfl,hw1⟩)
      go_ret;exact⟨by rw[HQ.o];rfl,((hx.alloc _).alloc _).t hw1⟩
    have HZ:=zh (hz.o.trans (jds (.inr (by omega)) ⟨hk1,hk2⟩));have hl:ys.length<xs.length:=by omega
    have hg:decide (ys.length<=k)=true:=decide_eq_true (by omega);clear hxk hz;go_wp2;go_ret;exact⟨by rw[HZ.o,if_neg (by omega),if_pos hl];rfl,hx.alloc _⟩
  have HZ:=zh (hz.o.trans (jds (.inl (by omega)) ⟨hk1,hk2⟩));clear hz;by_cases hl:xs.length<ys.length
  . go_wp2
    go_ret;exact⟨by rw[HZ.o,if_pos hl];rfl,hx⟩
  go_wp2;go_ret;exact⟨by rw[HZ.o,if_neg (by omega),if_neg (by omega)];rfl,hx⟩
theorem jlv (a b:GA) (v u:Value) (w:World) {S T:Nat->Prop} (hv:jad S w v a.args) (hu:jad T w u b.args) :
  Calls Tryz.prog 194 #[.agg #[.string a.n,v],.agg #[.string b.n,u]] w fun e w'=>e=.returned (.int .i64 (cmpA a b))/\Ext w w':=by
 obtain⟨A,c,rfl,hc1,hc2⟩:=jaa.form hv;obtain⟨B,d,rfl,hd1,hd2⟩:=jaa.form hu;have HV:=zh (hv.ext (((Ext.refl w).alloc (.cells #[.string a.n,.slice A a.args.length c] 69)).alloc (.cells #[.string b.n,.slice B b.args.length d] 69)));have HU:=zh (hu.ext (((Ext.refl w).alloc (.cells #[.string a.n,.slice A a.args.length c] 69)).alloc (.cells #[.string b.n,.slice B b.args.length d] 69)));clear hv hu;by_cases hq:cmpS a.n b.n=0
 . have HC:∀ W:World,Calls Tryz.prog 238 #[.string a.n,.string b.n] W fun e w'=>e=.returned (.int .i64 0)/\w'=W:=fun W=>by
     have:=jdu a.n b.n W;rw[hq] at this;exact this
   have HC:=zh HC;have HF:=zh (show cmpA a b=jdf a.args b.args from if_pos hq);clear hq
   go_in
   go_wp2_with (first
    | (go_at_call 238;refine (HC.o _).mono ?_;rintro e w1 ⟨rfl,rfl⟩)
    | (go_at_call 239;refine (jte _ _ a.args b.args _ HV.o HU.o).mono ?_;rintro e w1 ⟨rfl,hx1⟩))
   go_ret;exact⟨by rw[HF.o];rfl,(((Ext.refl _).alloc _).alloc _).t hx1⟩
 have HF:=zh (show cmpA a b=cmpS a.n b.n from if_neg hq);have hq1:((cmpS a.n b.n:Int) != 0)=true:=by simp[hq]
 have hq2:((cmpS a.n b.n:Int) == 0)=false:=by simp[hq]
 clear hq
 go_in;go_wp2_with (go_at_call 238;refine (jdu _ _ _).mono ?_;rintro e w1 ⟨rfl,rfl⟩)
 go_ret;exact⟨by rw[HF.o];rfl,((Ext.refl _).alloc _).alloc _⟩
theorem jc0 (A:Option Addr) (n c:Nat) (w:World) :
  Calls Tryz.prog 130 #[.slice A n c] w fun e w'=>e=.returned (.agg #[.slice A n c,.func (.func 194) #[] #[]])/\Ext w w':=by
 go_in;go_wp2;exact bodyPost_ret (v:=.agg #[.slice A n c,.func (.func 194) #[] #[]]) (by simp[results,Tryz.results130,go_sem]) rfl ⟨rfl,(Ext.refl _).alloc _⟩
theorem jtf (v:Value) (xs:List GA) (w:World) {S:Nat->Prop} (hv:jab S w v xs) :
  Calls Tryz.prog 138 #[.agg #[v,.func (.func 194) #[] #[]]] w fun e w'=>e=.returned (.bool (ascB xs))/\Ext w w':=by
 obtain⟨A,c,rfl,hc1,hc2⟩:=jaa.form hv;have HV:=zh (hv.ext ((Ext.refl w).alloc (.cells #[.slice A xs.length c,.func (.func 194) #[] #[]] 166)));clear hv
 go_in;go_wp2;go_loopw [3] (fun i wr=>∃ k:Nat,(1<=k/\(k<=xs.length∨k=1))/\i=.int .i64 k/\J1 (ascTo xs k=true)/\Ext (w.alloc (.cells #[.slice A xs.length c,.func (.func 194) #[] #[]] 166)) wr) (fun i _=>xs.length-(intOf i).toNat)
 case atStart=>exact⟨1,⟨Nat.le_refl _,.inr rfl⟩,rfl,(by show _=_;unfold ascTo;cases xs<;>rfl),Ext.refl _⟩
 case round =>
  obtain⟨k,⟨hk1,hk2⟩,rfl,ha,hx⟩:=hrel;obtain⟨hcc,hcf⟩:=hx.cells;have hz1:=hx.size;simp only[World.size_alloc] at hz1;have hz2:w.heap.size<wr.heap.size:=by omega
  obtain⟨j,rfl⟩:∃ j,k=j+1:=⟨k-1,by omega⟩
  clear hk1 hz1;by_cases hlt:j+1<xs.length
  . obtain ⟨b,off,y,v2,rfl,hb,hyk,hys,ht',hd0,hd1⟩:=jab.at_ (HV.o.ext hx) (k:=j) (by omega)
    obtain⟨b',off',x,v1,hbb,hb',hxk,hxs,ht,hc0,hc1⟩:=jab.at_ (HV.o.ext hx) hlt;injection hbb with hbb
    injection hbb with e1 e2
    subst e1;subst e2;have HS:=zh (jnv hyk hxk);have HC:=zh (fun (W:World) (h:Ext wr W)=>jlv y x v2 v1 W (ht'.ext h) (ht.ext h));have hj0:(0:Int)<=(j:Int):=Int.natCast_nonneg _;have hj1:(j:Int)<(xs.length:Int):=by omega
    have hj2:(j:Int)+1<(xs.length:Int):=by omega
    have hk2':=zh hk2;clear ht' ht hyk hxk hk2;by_cases hcmp:cmpA y x<0
    . have HA:=zh (show ascTo xs (j+1+1)=true from by rw[HS.o,ha.o];unfold ltA;simp[hcmp])
      go_wp2_with fail
      refine jaw (by kernel_rfl) (by kernel_rfl) ?_;repeat (go_big_quiet_step ((go_at_call 194;exact jbk (HC.o _ (Later.ext _)))))
      refine wpQuiet_nil ?_;rintro w1 ⟨⟨_,hx1⟩,rfl⟩;go_wp2;go_roundw
      case rel=>exact⟨j+1+1,⟨by omega,.inl (by omega)⟩,by go_num,HA,hx.t hx1⟩
      case measure=>simp[intOf];omega
    have HF:=zh (show ascB xs=false from jlq (k:=j+1+1) (by rw[HS.o];unfold ltA;simp[hcmp]));go_wp2_with fail
    refine jaw (by kernel_rfl) (by kernel_rfl) ?_;repeat (go_big_quiet_step ((go_at_call 194;exact jbk (HC.o _ (Later.ext _)))))
    refine wpQuiet_nil ?_;rintro w1 ⟨⟨_,hx1⟩,rfl⟩;go_wp2;go_ret;exact⟨by rw[HF.o];rfl,((Ext.refl _).alloc _).t (hx.t hx1)⟩
  have HF:=zh (show ascB xs=true from by
    have h2:=ha.o;unfold ascTo at h2
    rwa [List.take_of_length_le (by omega)] at h2)
  clear hk2;go_wp2;go_ret;exact⟨by rw[HF.o];rfl,((Ext.refl _).alloc _).t hx⟩
theorem jfp (v:Value) (xs:List GA) (w:World) {S:Nat->Prop} (hv:jab S w v xs) :
  Calls Tryz.prog 71 #[v] w fun e w'=>e=.returned (.bool (jbb xs 300))/\Ext w w':=by
 obtain⟨A,c,rfl,hc1,hc2⟩:=jaa.form hv;have HV:=zh hv;clear hv;by_cases h3:xs.length<=300
 . go_in
   go_wp2;go_loopw [10] (fun i wr=>∃ k:Nat,k<=xs.length/\i=.int .i64 k/\J1 ((xs.take k).all factB=true)/\Ext w wr) (fun i _=>xs.length-(intOf i).toNat)
   case atStart=>exact⟨0,Nat.zero_le _,rfl,rfl,Ext.refl _⟩
   case round =>
    obtain⟨k,hk,rfl,hp,hx⟩:=hrel;by_cases hlt:k<xs.length
    . obtain ⟨b,off,x,v1,rfl,hb,hxk,hxs,ht,hc0,hc1⟩:=jab.at_ (HV.o.ext hx) hlt
      obtain⟨A1,c1,rfl,hq1,hq2⟩:=jaa.form ht;have HK:=zh hxk;have hw:=jai (jwj x _ (wr.alloc (.cells #[.string x.n,.slice A1 x.args.length c1] 69)) hxs (ht.ext ((Ext.refl _).alloc _)));clear hxk ht;cases hf:factB x
      . have HF:=zh (show jbb xs 300=false from by unfold jbb;rw[jbc factB _ k x HK.o hf];rfl)
        have HW:=zh (hw.2 hf);clear hw hf;go_wp2_with (go_at_call 137;refine HW.o.mono ?_;rintro e w1 ⟨rfl,hx1⟩)
        go_ret;exact⟨by rw[HF.o];rfl,(hx.alloc _).t hx1⟩
      have HP:=zh (show (xs.take (k+1)).all factB=true from by rw[jbo _ _ k x HK.o,hp.o,hf];rfl);have HW:=zh (hw.1 hf);clear hw hf;go_wp2_with (go_at_call 137;refine HW.o.mono ?_;rintro e w1 ⟨rfl,hx1⟩)
      go_roundw
      case rel=>exact⟨k+1,by omega,by go_num,HP,(hx.alloc _).t hx1⟩
      case measure=>simp[intOf];omega
    have HF:=zh (show jbb xs 300=ascB xs from by
      unfold jbb;rw[jbl factB _ k hlt hp.o];simp[h3])
    go_wp2_with (first
     | (go_at_call 130;refine (jc0 _ _ _ _).mono ?_;rintro e w1 ⟨rfl,hx1⟩)
     | (go_at_call 138;refine (jtf _ xs _ (HV.o.ext (hx.t hx1))).mono ?_;rintro e w2 ⟨rfl,hx2⟩))
    go_ret;exact⟨by rw[HF.o];rfl,(hx.t hx1).t hx2⟩
 have HF:=zh (show jbb xs 300=false from by unfold jbb;simp[h3])
 go_in;go_wp2;go_ret;exact⟨by rw[HF.o];rfl,Ext.refl _⟩
open Go.Shelf
attribute [local go_sem] Oper.semAt_some
structure ME where
 x:GA
 v:Value
 s:Int
def encME (e:ME):Array Value:= #[.agg #[.string e.x.n,e.v],.int .i64 e.s]
abbrev P2:Type:=GA × Value
def jb0:Nat->List P2->List P2->List ME
 | 0,_,_=>[]
 | _+1,[],[]=>[]
 | n+1,x :: xs,[]=>⟨x.1,x.2,0⟩ :: jb0 n xs []
 | n+1,[],y :: ys=>⟨y.1,y.2,1⟩ :: jb0 n [] ys
 | n + 1,x :: xs,y :: ys =>
   if cmpA x.1 y.1<0 then ⟨x.1,x.2,0⟩ :: jb0 n xs (y :: ys)
   else if 0<cmpA x.1 y.1 then ⟨y.1,y.2,1⟩ :: jb0 n (x :: xs) ys
   else ⟨x.1,x.2,2⟩ :: jb0 n xs ys
def jah (xs ys:List P2):List ME:=jb0 (xs.length+ys.length) xs ys
theorem jdv:∀ (n:Nat) (xs ys:List P2),xs.length+ys.length<=n->jb0 (n+1) xs ys=jb0 n xs ys
 | 0,[],[],_=>rfl
 | 0,_ :: _,_,h=>by simp at h
 | 0,[],_ :: _,h=>by simp at h
 | n+1,[],[],_=>rfl
 | n + 1,x :: xs,[],h=>by
   have ih:=jdv n xs [] (by simp at h ⊢;omega);rw[jb0,ih,<- jb0]
 | n + 1,[],y :: ys,h=>by
   have ih:=jdv n [] ys (by simp at h ⊢;omega);rw[jb0,ih,<- jb0]
 | n + 1,x :: xs,y :: ys,h=>by
   have i1:=jdv n xs (y :: ys) (by simp at h ⊢;omega);have i2:=jdv n (x :: xs) ys (by simp at h ⊢;omega);have i3:=jdv n xs ys (by simp at h ⊢;omega);rw[jb0,i1,i2,i3,<- jb0]
theorem jc1 (n:Nat) (xs ys:List P2) (h:xs.length+ys.length<=n):jb0 n xs ys=jah xs ys:=by
 induction n with
 | zero =>
   have h1:xs=[]:=List.eq_nil_of_length_eq_zero (by omega);have h2:ys=[]:=List.eq_nil_of_length_eq_zero (by omega);subst h1;subst h2;rfl
 | succ n ih =>
   by_cases hn:xs.length+ys.length<=n
   . rw[jdv n xs ys hn,ih hn]
   have:n+1=xs.length+ys.length:=by omega
   rw[this];rfl
theorem ji9:jah [] []=[]:=rfl
theorem jhn (x:P2) (xs:List P2):jah (x :: xs) []=⟨x.1,x.2,0⟩ :: jah xs []:=by
 unfold jah;rw[show (x :: xs).length+([]:List P2).length=(xs.length+0)+1 from by simp,jb0];rfl
theorem jgk (y:P2) (ys:List P2):jah [] (y :: ys)=⟨y.1,y.2,1⟩ :: jah [] ys:=by
 unfold jah;rw[show ([]:List P2).length+(y :: ys).length=(0+ys.length)+1 from by simp,jb0];rfl
theorem jia {x y:P2} (xs ys:List P2) (h:cmpA x.1 y.1<0):jah (x :: xs) (y :: ys)=⟨x.1,x.2,0⟩ :: jah xs (y :: ys):=by
 rw[<- jc1 ((xs.length+ys.length+1)+1) (x :: xs) (y :: ys) (by simp;omega),jb0,if_pos h,jc1 _ _ _ (by simp;omega)]
theorem jib {x y:P2} (xs ys:List P2) (h:0<cmpA x.1 y.1):jah (x :: xs) (y :: ys)=⟨y.1,y.2,1⟩ :: jah (x :: xs) ys:=by
 rw[<- jc1 ((xs.length+ys.length+1)+1) (x :: xs) (y :: ys) (by simp;omega),jb0,if_neg (by omega),if_pos h,jc1 _ _ _ (by simp;omega)]
theorem jic {x y:P2} (xs ys:List P2) (h:cmpA x.1 y.1=0):jah (x :: xs) (y :: ys)=⟨x.1,x.2,2⟩ :: jah xs ys:=by
 rw[<- jc1 ((xs.length+ys.length+1)+1) (x :: xs) (y :: ys) (by simp;omega),jb0,if_neg (by omega),if_neg (by omega),jc1 _ _ _ (by omega)]
def PairE (S:Nat->Prop) (w:World) (cs:List Value) (p:P2):Prop:=cs=[.string p.1.n,p.2]/\p.1.n.size<=maxLen/\jad S w p.2 p.1.args
def jdo (S:Nat->Prop):World->Value->List P2->Prop:=jaa S 2 (PairE S)
theorem jdo.imp {S S':Nat->Prop} {w w':World} {v:Value} {xs:List P2} (h:jdo S w v xs) (hS:∀ b,S b->S' b) (he:Agree S w w') (hsz:w.heap.size<=w'.heap.size):jdo S' w' v xs :=
 jaa.imp (fun _ _ _ h=>⟨h.1,h.2.1,h.2.2.imp hS he hsz⟩) hS h he hsz
theorem jdo.at_ {S:Nat->Prop} {w:World} {A:Option Addr} {n c:Nat} {xs:List P2} (h:jdo S w (.slice A n c) xs) {k:Nat} (hk:k<n) :
  ∃ (b off:Nat) (x:P2),A=some ⟨b,off,none⟩/\b<w.heap.size/\xs[k]? = some x/\x.1.n.size<=maxLen/\jad S w x.2 x.1.args /\
    w.cell? ⟨b,off+k*2,none⟩=some (.string x.1.n)/\w.cell? ⟨b,off+k*2+1,none⟩=some x.2:=by
 obtain⟨b,off,x,cs,hA,hb,hx,_,hc,rfl,hs,ht⟩:=jaa.at_ h hk;exact⟨b,off,x,hA,hb,hx,hs,ht,hc 0 _ rfl,hc 1 _ rfl⟩
theorem jlw {α β:Type} (R:Nat->α->β->Prop):∀ (xs:List α) (k:Nat),(∀ (i:Nat) (x:α),xs[i]? = some x->∃ y,R (k+i) x y)->∃ ys:List β,ys.length=xs.length/\∀ (i:Nat) (x:α) (y:β),xs[i]? = some x->ys[i]? = some y->R (k+i) x y
 | [],_,_=>⟨[],rfl,fun i x y h=>by simp at h⟩
 | x :: xs,k,h=>by
   obtain⟨y,hy⟩:=h 0 x rfl
   obtain ⟨ys,hl,hr⟩:=jlw R xs (k+1) (fun i z hz=>by
    have:=h (i+1) z (by simpa using hz)
    rwa [show k+(i+1)=k+1+i from by omega] at this)
   refine⟨y :: ys,by simp[hl],fun i a b ha hb=>?_⟩
   cases i with
   | zero=>simp at ha hb;subst ha;subst hb;exact hy
   | succ i =>
     have:=hr i a b (by simpa using ha) (by simpa using hb)
     rwa [show k+1+i=k+(i+1) from by omega] at this
theorem jab.pairs {S:Nat->Prop} {w:World} {v:Value} {xs:List GA} (h:jab S w v xs):∃ ps:List P2,ps.map (·.1)=xs/\jdo S w v ps:=by
 obtain⟨A,c,hv,h1,h2,h3⟩:=h;by_cases h0:0<xs.length
 . obtain ⟨b,off,hA,hb,hs,hc⟩:=h3 h0
   obtain ⟨ys,hl,hr⟩:=jlw (fun i (x:GA) (u:Value)=>w.cell? ⟨b,off+(i*2+0),none⟩=some (.string x.n)/\w.cell? ⟨b,off+(i*2+1),none⟩=some u/\x.n.size<=maxLen/\jad S w u x.args) xs 0
    (fun i x hx=>by
     obtain⟨cs,hcl,hcs,u,rfl,hn,ht⟩:=hc i x hx;exact⟨u,by simpa using hcs 0 _ rfl,by simpa using hcs 1 _ rfl,hn,ht⟩)
   refine⟨xs.zip ys,by rw[List.map_fst_zip (by omega)],A,c,?_,?_,h2,fun _=>⟨b,off,hA,hb,hs,fun i p hp=>?_⟩⟩
   . rw[hv];simp[hl]
   . simp[hl];exact h1
   rw[List.getElem?_zip_eq_some] at hp;have:=hr i p.1 p.2 hp.1 hp.2;rw[Nat.zero_add] at this;refine⟨[.string p.1.n,p.2],rfl,fun j u hu=>?_,rfl,this.2.2.1,this.2.2.2⟩
   match j,hu with
   | 0,hu=>simp at hu;subst hu;exact this.1
   | 1,hu=>simp at hu;subst hu;exact this.2.1
 have:xs=[]:=List.eq_nil_of_length_eq_zero (by omega);subst this;exact⟨[],rfl,A,c,hv,h1,h2,fun h=>absurd h (by simp)⟩
def KeepR (R:Nat->Prop) (W W':World):Prop:=W.heap.size<=W'.heap.size/\Agree R W W'
theorem KeepR.trans {R:Nat->Prop} {A B C:World} (h:KeepR R A B) (k:KeepR R B C):KeepR R A C:=⟨Nat.le_trans h.1 k.1,h.2.t k.2 h.1⟩
theorem KeepR.of_ext {R:Nat->Prop} {A B:World} (h:Ext A B):KeepR R A B:=⟨h.size,.of_ext h⟩
theorem KeepR.cell {R:Nat->Prop} {A B:World} (h:KeepR R A B) {b o:Nat} {u:Value} (hb:R b) (hc:A.cell? ⟨b,o,none⟩=some u):B.cell? ⟨b,o,none⟩=some u :=
 (World.cell?_of_block (w:=A) (a:=⟨b,o,none⟩) (h.2 b hb (jcc hc))).trans hc
theorem jyc {A B:World} (h:Ext A B):A.grownBy B none:=⟨h.os,h.tape,h.output,h.size,fun k hk _=>h.block k hk⟩
theorem jkh (n:Nat) (hn:1<=n) (B1 B2:Nat) (R:Nat->Prop) (w:World) (s1 s2:Value) (ps qs:List P2)
  (hB1:R B1) (hB2:R B2) (c10:w.cell? ⟨B1,0,none⟩=some s1) (c11:w.cell? ⟨B1,1,none⟩=some (.func (.func 194) #[] #[]))
  (c20:w.cell? ⟨B2,0,none⟩=some s2) (h1:jdo R w s1 ps) (h2:jdo R w s2 qs) :
  SeqStopsK Fence.wide n Tryz.prog 195 #[.pointer (some ⟨B1,0,none⟩),.pointer (some ⟨B2,0,none⟩)] encME (KeepR R) (fun L=>L=jah ps qs) (fun pre=>pre <+: jah ps qs) (jah ps qs).length w:=by
 intro l J Jx W hW hJ hJx hY h0;obtain⟨A1,d1,rfl,hd1,hd1'⟩:=jaa.form h1;obtain⟨A2,d2,rfl,hd2,hd2'⟩:=jaa.form h2;have hw0:KeepR R w W:=.of_ext hW;have HY:=zh hY;have HJ:=zh hJ;have H1:=zh h1;have H2:=zh h2;have HB1:=zh hB1;have HB2:=zh hB2;have C10:=zh c10;have C11:=zh c11;have C20:=zh c20;clear hY hJ hJx h1 h2 c10 c11 c20 hW hB1 hB2;refine callsIn_of_wp Tryz.func195 rfl trivial ?_ rfl;simp only[Tryz.ntmps195,List.size_toArray,List.length_cons,List.length_nil,Nat.reduceAdd,Nat.reduceSub,Array.replicate_succ,Array.replicate_zero,List.push_toArray,List.append_toArray,List.nil_append,List.cons_append]
 gi_wp2
 gi_loopw [4,5] (fun i j wr=>∃ (a b:Nat) (pre:List ME),(a<=ps.length/\b<=qs.length)/\i=.int .i64 a/\j=.int .i64 b/\J1 (jah ps qs=pre++jah (ps.drop a) (qs.drop b))/\J pre wr/\KeepR R w wr) (fun i j _=>(ps.length-(intOf i).toNat)+(qs.length-(intOf j).toNat))
 case atStart=>exact⟨0,0,[],⟨Nat.zero_le _,Nat.zero_le _⟩,rfl,rfl,rfl,h0,hw0⟩
 case round =>
  obtain⟨a,b,pre,⟨ha,hb⟩,rfl,rfl,hm,hJs,hk⟩:=hrel;have e10:=hk.cell HB1.o C10.o;have e11:=hk.cell HB1.o C11.o;have e20:=hk.cell HB2.o C20.o;have hl1:=jcc e10;have hl2:=jcc e20;have hga:¬ a<ps.length->ps.drop a=[]:=fun h=>List.drop_eq_nil_of_le (by omega)
  have hgb:¬ b<qs.length->qs.drop b=[]:=fun h=>List.drop_eq_nil_of_le (by omega)
  have HGA:=zh hga;have HGB:=zh hgb;clear hga hgb;by_cases h1:a<ps.length
  . obtain ⟨ba,offa,x,rfl,hba,hxk,hxs,htx,hx0,hx1⟩:=jdo.at_ (H1.o.imp (fun _ h=>h) hk.2 hk.1) h1
    have HDX:=zh (jbq hxk);have HTX:=zh htx;have t1:decide (a<ps.length)=true:=decide_eq_true h1;have t2:(((a:Nat):Int) == ((ps.length:Nat):Int))=false:=by rw[beq_eq_false_iff_ne];omega
    have hi0:(0:Int)<=(a:Int):=Int.natCast_nonneg _;have hi1:(a:Int)<(ps.length:Int):=by omega
    clear hxk htx;by_cases h2:b<qs.length
    . obtain ⟨bb,offb,y,rfl,hbb,hyk,hys,hty,hy0,hy1⟩:=jdo.at_ (H2.o.imp (fun _ h=>h) hk.2 hk.1) h2
      have HDY:=zh (jbq hyk);have HTY:=zh hty;have t3:decide (b<qs.length)=true:=decide_eq_true h2;have t4:(((b:Nat):Int) == ((qs.length:Nat):Int))=false:=by rw[beq_eq_false_iff_ne];omega
      have hj0:(0:Int)<=(b:Int):=Int.natCast_nonneg _;have hj1:(b:Int)<(qs.length:Int):=by omega
      have HC:=zh (fun (W:World) (h:Ext wr W)=>jlv x.1 y.1 x.2 y.2 W (HTX.o.ext h) (HTY.o.ext h));clear hyk hty
      gi_wp2
      refine wpIn_wide.2 (jaw (by kernel_rfl) (by kernel_rfl) ?_);repeat (go_big_quiet_step ((go_at_call 194;exact jbk (HC.o _ (Later.ext _)))))
      refine wpQuiet_nil ?_;rintro w1 ⟨⟨_,hx⟩,rfl⟩;have hJ1:J pre w1:=HJ.o _ _ _ none hJs (jyc hx) (fun r e=>by cases e);have hk1:KeepR R w w1:=hk.trans (.of_ext hx);have hz:=hx.size;have hl1':B1<w1.heap.size:=by omega
      have hl2':B2<w1.heap.size:=by omega
      have hba':ba<w1.heap.size:=by omega
      have hbb':bb<w1.heap.size:=by omega
      have f10:=(KeepR.of_ext (R:=Any) hx).cell trivial e10;have f20:=(KeepR.of_ext (R:=Any) hx).cell trivial e20;have fx0:=(KeepR.of_ext (R:=Any) hx).cell trivial hx0;have fx1:=(KeepR.of_ext (R:=Any) hx).cell trivial hx1;have fy0:=(KeepR.of_ext (R:=Any) hx).cell trivial hy0;have fy1:=(KeepR.of_ext (R:=Any) hx).cell trivial hy1;clear hz e10 e11 e20 hx0 hx1 hy0 hy1 hl1 hl2 hba hbb hJs hx HC;rcases Int.lt_trichotomy (cmpA x.1 y.1) 0 with hc|hc|hc
      . have HM:=zh (show jah ps qs=pre++(⟨x.1,x.2,0⟩ :: jah (ps.drop (a+1)) (qs.drop b)) from by rw[hm.o,HDX.o,HDY.o,jia _ _ hc])
        have HM2:=zh (show jah ps qs=(pre++[(⟨x.1,x.2,0⟩:ME)])++jah (ps.drop (a+1)) (qs.drop b) from by rw[HM.o,List.append_assoc];rfl);obtain⟨fn,tmps,assign,body,hy,hR⟩:=HY.o pre (⟨x.1,x.2,0⟩:ME) w1 hJ1 (by rw[HM.o];simp);dsimp only[encME] at hy;have HR:=zh hR;clear hR
        gi_wp2
        refine HR.o.mono ?_;rintro e W3 (⟨rfl,hJ3,hk3⟩|⟨rfl,hJx3⟩)
        . gi_wp2
          go_roundw
          case rel=>exact⟨(a+1),b,pre++[_],⟨by omega,by omega⟩,by go_num,rfl,HM2,hJ3,hk1.trans hk3⟩
          case measure=>simp[intOf];omega
        gi_wp2
        refine bodyPost_ret (results_none rfl _ _ _) rfl ?_;exact⟨⟨_,rfl⟩,.inr ⟨pre++[_],⟨_,HM2.o.symm⟩,hJx3⟩⟩
      . have HM:=zh (show jah ps qs=pre++(⟨x.1,x.2,2⟩ :: jah (ps.drop (a+1)) (qs.drop (b+1))) from by rw[hm.o,HDX.o,HDY.o,jic _ _ hc])
        have hc1:¬ cmpA x.1 y.1<0:=by omega
        have hc2:¬ 0<cmpA x.1 y.1:=by omega
        clear hc;have HM2:=zh (show jah ps qs=(pre++[(⟨x.1,x.2,2⟩:ME)])++jah (ps.drop (a+1)) (qs.drop (b+1)) from by rw[HM.o,List.append_assoc];rfl);obtain⟨fn,tmps,assign,body,hy,hR⟩:=HY.o pre (⟨x.1,x.2,2⟩:ME) w1 hJ1 (by rw[HM.o];simp);dsimp only[encME] at hy;have HR:=zh hR;clear hR
        gi_wp2
        refine HR.o.mono ?_;rintro e W3 (⟨rfl,hJ3,hk3⟩|⟨rfl,hJx3⟩)
        . gi_wp2
          go_roundw
          case rel=>exact⟨(a+1),(b+1),pre++[_],⟨by omega,by omega⟩,by go_num,by go_num,HM2,hJ3,hk1.trans hk3⟩
          case measure=>simp[intOf];omega
        gi_wp2
        refine bodyPost_ret (results_none rfl _ _ _) rfl ?_;exact⟨⟨_,rfl⟩,.inr ⟨pre++[_],⟨_,HM2.o.symm⟩,hJx3⟩⟩
      have HM:=zh (show jah ps qs=pre++(⟨y.1,y.2,1⟩ :: jah (ps.drop a) (qs.drop (b+1))) from by rw[hm.o,HDX.o,HDY.o,jib _ _ hc]);have HM2:=zh (show jah ps qs=(pre++[(⟨y.1,y.2,1⟩:ME)])++jah (ps.drop a) (qs.drop (b+1)) from by rw[HM.o,List.append_assoc];rfl);obtain⟨fn,tmps,assign,body,hy,hR⟩:=HY.o pre (⟨y.1,y.2,1⟩:ME) w1 hJ1 (by rw[HM.o];simp);dsimp only[encME] at hy;have HR:=zh hR;clear hR
      gi_wp2
      refine HR.o.mono ?_;rintro e W3 (⟨rfl,hJ3,hk3⟩|⟨rfl,hJx3⟩)
      . gi_wp2
        go_roundw
        case rel=>exact⟨a,(b+1),pre++[_],⟨by omega,by omega⟩,rfl,by go_num,HM2,hJ3,hk1.trans hk3⟩
        case measure=>simp[intOf];omega
      gi_wp2
      refine bodyPost_ret (results_none rfl _ _ _) rfl ?_;exact⟨⟨_,rfl⟩,.inr ⟨pre++[_],⟨_,HM2.o.symm⟩,hJx3⟩⟩
    have HM:=zh (show jah ps qs=pre++(⟨x.1,x.2,0⟩ :: jah (ps.drop (a+1)) (qs.drop b)) from by rw[hm.o,HGB.o h2,HDX.o,jhn]);have t3:decide (b<qs.length)=false:=decide_eq_false h2;have t4:(((b:Nat):Int) == ((qs.length:Nat):Int))=true:=by rw[beq_iff_eq];omega
    have HM2:=zh (show jah ps qs=(pre++[(⟨x.1,x.2,0⟩:ME)])++jah (ps.drop (a+1)) (qs.drop b) from by rw[HM.o,List.append_assoc];rfl);obtain⟨fn,tmps,assign,body,hy,hR⟩:=HY.o pre (⟨x.1,x.2,0⟩:ME) wr hJs (by rw[HM.o];simp);dsimp only[encME] at hy;have HR:=zh hR;clear hR
    gi_wp2
    refine HR.o.mono ?_;rintro e W3 (⟨rfl,hJ3,hk3⟩|⟨rfl,hJx3⟩)
    . gi_wp2
      go_roundw
      case rel=>exact⟨(a+1),b,pre++[_],⟨by omega,by omega⟩,by go_num,rfl,HM2,hJ3,hk.trans hk3⟩
      case measure=>simp[intOf];omega
    gi_wp2
    refine bodyPost_ret (results_none rfl _ _ _) rfl ?_;exact⟨⟨_,rfl⟩,.inr ⟨pre++[_],⟨_,HM2.o.symm⟩,hJx3⟩⟩
  have t1:decide (a<ps.length)=false:=decide_eq_false h1;have t2:(((a:Nat):Int) == ((ps.length:Nat):Int))=true:=by rw[beq_iff_eq];omega
  by_cases h2:b<qs.length
  . obtain ⟨bb,offb,y,rfl,hbb,hyk,hys,hty,hy0,hy1⟩:=jdo.at_ (H2.o.imp (fun _ h=>h) hk.2 hk.1) h2
    have HM:=zh (show jah ps qs=pre++(⟨y.1,y.2,1⟩ :: jah (ps.drop a) (qs.drop (b+1))) from by rw[hm.o,HGA.o h1,jbq hyk,jgk]);have t3:decide (b<qs.length)=true:=decide_eq_true h2;have hj0:(0:Int)<=(b:Int):=Int.natCast_nonneg _;have hj1:(b:Int)<(qs.length:Int):=by omega
    clear hyk hty;have HM2:=zh (show jah ps qs=(pre++[(⟨y.1,y.2,1⟩:ME)])++jah (ps.drop a) (qs.drop (b+1)) from by rw[HM.o,List.append_assoc];rfl);obtain⟨fn,tmps,assign,body,hy,hR⟩:=HY.o pre (⟨y.1,y.2,1⟩:ME) wr hJs (by rw[HM.o];simp);dsimp only[encME] at hy;have HR:=zh hR;clear hR
    gi_wp2
    refine HR.o.mono ?_;rintro e W3 (⟨rfl,hJ3,hk3⟩|⟨rfl,hJx3⟩)
    . gi_wp2
      go_roundw
      case rel=>exact⟨a,(b+1),pre++[_],⟨by omega,by omega⟩,rfl,by go_num,HM2,hJ3,hk.trans hk3⟩
      case measure=>simp[intOf];omega
    gi_wp2
    refine bodyPost_ret (results_none rfl _ _ _) rfl ?_;exact⟨⟨_,rfl⟩,.inr ⟨pre++[_],⟨_,HM2.o.symm⟩,hJx3⟩⟩
  have HM:=zh (show jah ps qs=pre from by rw[hm.o,HGA.o h1,HGB.o h2,ji9,List.append_nil]);have t3:decide (b<qs.length)=false:=decide_eq_false h2
  gi_wp2
  go_end0
  exact⟨⟨_,rfl⟩,.inl ⟨_,HM.o.symm,hJs⟩⟩
end Go.Proofs.YthiflhkcpanaaaaGreatDoor
