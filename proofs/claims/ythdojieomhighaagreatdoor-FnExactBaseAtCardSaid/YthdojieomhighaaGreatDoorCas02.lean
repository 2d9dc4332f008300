/- Own texts, joined. -/
import Derived.Test.YthdojieomhighaaGreatDoorRows
import Derived.Test.YthdojieomhighaaGreatDoorCas01
import Derived.StillTailTactics
import Derived.WalkLawsBesides
import Derived.BigQuiet
import Derived.Shelf.Strings.Builder1
import Derived.Shelf.Small.Bits
import Derived.Shelf.Small.Strs
import Derived.Shelf.Strings.BuilderF
import Derived.Shelf.Strings.BuilderK
import Derived.Shelf.Strconv.Itoa0
import Derived.Shelf.Strings.BuilderCap
import Derived.Ground.SlsfProg
import Derived.Shelf.SlSortCmp.Insertion
import Derived.Test.YthdojieomhighaaGreatDoorProg
import Derived.Laws.EntriesVeiled
set_option linter.unusedSimpArgs false
set_option linter.unusedVariables false
set_option maxHeartbeats 2000000
set_option maxRecDepth 100000
namespace Go.Proofs.YthdojieomhighaaGreatDoor
open Go.RowKit
theorem jk9 (a b:ByteArray) (w:World) :
  Calls Tryz.prog 233 #[.string a,.string b] w fun e w'=>e=.returned (.int .i64 (cmpS a b))∧w'=w:=by
 go_enter Tryz.func233,Tryz.ntmps233
 go_wp2
 · go_ret
   exact⟨by rw[jpv (by assumption)];rfl,rfl⟩
 · go_ret
   exact⟨by rw[jpx (by assumption) (by assumption)];rfl,rfl⟩
 go_ret;exact⟨by rw[jpw (by assumption) (by assumption)];rfl,rfl⟩
theorem jpy (a b:GA) (v u:Value) (w:World) {S T:Nat→Prop} (hv:jae S w v a.args) (hu:jae T w u b.args) :
  Calls Tryz.prog 171 #[.agg #[.string a.n,v],.agg #[.string b.n,u]] w fun e w'=>e=.returned (.int .i64 (cmpA a b))∧Ext w w':=by
 obtain⟨A,c,rfl,hc1,hc2⟩:=jaa.form hv;obtain⟨B,d,rfl,hd1,hd2⟩:=jaa.form hu;have HV:=zh (hv.ext (((Ext.refl w).alloc (.cells #[.string a.n,.slice A a.args.length c] 43)).alloc (.cells #[.string b.n,.slice B b.args.length d] 43)));have HU:=zh (hu.ext (((Ext.refl w).alloc (.cells #[.string a.n,.slice A a.args.length c] 43)).alloc (.cells #[.string b.n,.slice B b.args.length d] 43)));clear hv hu;have hr0:=jm7 a.n b.n
 go_enter Tryz.func171,Tryz.ntmps171
 go_wp2_with (go_at_call 233;refine (jk9 _ _ _).mono ?_;rintro e w' ⟨rfl,rfl⟩)
 go_loopw [5,6] (fun q i wr=>∃ (k:Nat) (z:Int),(k≤a.args.length∧k≤b.args.length)∧i=.int .i64 k∧q=.int .i64 z∧Hid (cmpA a b=jd7 a.args b.args k z)∧(z = -1∨z=0∨z=1)∧Ext ((w.alloc (.cells #[.string a.n,.slice A a.args.length c] 43)).alloc (.cells #[.string b.n,.slice B b.args.length d] 43)) wr) (fun _ i _=>a.args.length-(intOf i).toNat)
 case atStart=>exact⟨0,_,⟨Nat.zero_le _,Nat.zero_le _⟩,rfl,rfl,rfl,hr0,Ext.refl _⟩
 case round =>
  obtain⟨k,z,⟨hk1,hk2⟩,rfl,rfl,hz,hzr,hx⟩:=hrel;obtain⟨hcc,hcf⟩:=hx.cells;clear hr0
  by_cases hq:z=0
  · have hq0:((z:Int) == 0)=true:=by simp[hq]
    obtain rfl:(0:Int)=z:=hq.symm;clear hzr hq hq0
    by_cases h1:k<a.args.length
    · by_cases h2:k<b.args.length
      · obtain ⟨ba,offa,x,rfl,hba,hxk,hxs,hx0,hx1⟩:=jae.at_ (HV.out.ext hx) h1
        obtain⟨bb,offb,y,rfl,hbb,hyk,hys,hy0,hy1⟩:=jae.at_ (HU.out.ext hx) h2;have HZ:=zh (hz.out.trans (jj4 hxk hyk));have hr1:=zh (jm7 x.n y.n);have hk0:(0:Int)≤(k:Int):=Int.natCast_nonneg _
        have hi1:(k:Int)<(a.args.length:Int):=by omega
        have hi2:(k:Int)<(b.args.length:Int):=by omega
        clear hxk hyk hz
        go_wp2_with fail
        go_still_tail 12,(by kernel_rfl)
        change wpList _ _ _ _ _ wr.drew
        go_wp2_with (go_at_call 233;refine (jk9 _ _ _).mono ?_;rintro e w1 ⟨rfl,rfl⟩)
        go_roundw
        case rel=>exact⟨k+1,_,⟨by omega,by omega⟩,by go_num,rfl,HZ,hr1.out,hx.drew⟩
        case measure=>simp[intOf];omega
      have HZ:=zh (hz.out.trans (jfj (.inr (by omega)) ⟨hk1,hk2⟩));clear hz
      have hl:b.args.length<a.args.length:=by omega
      go_wp2;go_ret;exact⟨by rw[HZ.out,if_neg (by omega),if_pos hl];rfl,(((Ext.refl _).alloc _).alloc _).trans' hx⟩
    have HZ:=zh (hz.out.trans (jfj (.inl (by omega)) ⟨hk1,hk2⟩));clear hz
    by_cases hl:a.args.length<b.args.length
    · go_wp2
      go_ret;exact⟨by rw[HZ.out,if_pos hl];rfl,(((Ext.refl _).alloc _).alloc _).trans' hx⟩
    go_wp2;go_ret;exact⟨by rw[HZ.out,if_neg (by omega),if_neg (by omega)];rfl,(((Ext.refl _).alloc _).alloc _).trans' hx⟩
  have HZ:=zh (hz.out.trans (jj5 hq))
  have hq0:((z:Int) == 0)=false:=by simp[hq]
  have hq1:((z:Int) != 0)=true:=by simp[hq]
  clear hz hq hzr
  by_cases h1:k<a.args.length
  · by_cases h2:k<b.args.length
    · go_wp2
      go_ret;exact⟨by rw[HZ.out];rfl,(((Ext.refl _).alloc _).alloc _).trans' hx⟩
    go_wp2;go_ret;exact⟨by rw[HZ.out];rfl,(((Ext.refl _).alloc _).alloc _).trans' hx⟩
  go_wp2;go_ret;exact⟨by rw[HZ.out];rfl,(((Ext.refl _).alloc _).alloc _).trans' hx⟩
structure Later (w:World):Type where
 at_:World
 ext:Ext w at_
instance (w:World):Nonempty (Later w):=⟨⟨w,Ext.refl w⟩⟩
@[go_sem] theorem later_cell {w:World} (n:Later w) (b o:Nat) (h:b<w.heap.size):n.at_.cell? ⟨b,o,none⟩=w.cell? ⟨b,o,none⟩:=(Ext.cells n.ext).1 b o h
@[go_sem] theorem later_frozen {w:World} (n:Later w) (b o:Nat) (h:b<w.heap.size):n.at_.frozen? ⟨b,o,none⟩=w.frozen? ⟨b,o,none⟩:=(Ext.cells n.ext).2 b o h
theorem jar {P:Program} {id:Nat} {Q:Exit→Act→World→Prop} {a:Act} {w:World} {l:List Oper} (hm:P.follows .mixedOrders=true) (hB:Region.lexB .any l.toArray=true)
  (h:wpQuiet P l.toArray (fun w'=>∃ n:Later w,w'=n.at_) (fun a'=>∀ w',(∃ n:Later w,w'=n.at_)→Q .normal a' w') l a):(Code.region id l.toArray true).wp P Q a w :=
 wp_region_quiet (C:=fun w'=>∃ n:Later w,w'=n.at_) hm hB ⟨⟨w.drew,(Ext.refl w).drew⟩,rfl⟩ (by simpa using h)
theorem jbg {P:Program} {f:FuncId} {args:Array Value} {w:World} {n:Later w} {v:Value} (h:Calls P f args n.at_ fun e w'=>e=.returned v∧Ext n.at_ w') :
  Calls P f args n.at_ fun e w''=>e=.returned v∧∃ m:Later w,w''=m.at_ :=
 h.mono fun _ w'' ⟨he,hx⟩=>⟨he,⟨w'',n.ext.trans' hx⟩,rfl⟩
theorem jpz {P:Program} {f:FuncId} {args:Array Value} {w:World} {n:Later w} {v:Value} (h:Calls P f args n.at_ fun e w'=>e=.returned v∧w'=n.at_) :
  Calls P f args n.at_ fun e w''=>e=.returned v∧∃ m:Later w,w''=m.at_ :=
 h.mono fun _ _ ⟨he,hx⟩=>⟨he,n,hx⟩
def noVar (t:GT):Bool:= !t.v
theorem jp0 {t:GT} (h:t.v=false):noVar t=true:=by unfold noVar;rw[h];rfl
theorem jt1 {t:GT} (h:t.v=true):noVar t=false:=by unfold noVar;rw[h];rfl
theorem jj6 (a:GA) (v:Value) (w:World) {S:Nat→Prop} (hs:a.n.size≤maxLen) (hv:jae S w v a.args) :
  Calls Tryz.prog 202 #[.agg #[.string a.n,v]] w fun e w'=>e=.returned (.bool (factB a))∧Ext w w':=by
 obtain⟨A,c,rfl,hc1,hc2⟩:=jaa.form hv;have HV:=zh (hv.ext ((Ext.refl w).alloc (.cells #[.string a.n,.slice A a.args.length c] 43)));clear hv
 go_enter Tryz.func202,Tryz.ntmps202
 go_wp2
 go_loopw [3] (fun i wr=>∃ k:Nat,k≤a.args.length∧i=.int .i64 k∧Hid ((a.args.take k).all noVar=true)∧wr=w.alloc (.cells #[.string a.n,.slice A a.args.length c] 43)) (fun i _=>a.args.length-(intOf i).toNat)
 case atStart=>exact⟨0,Nat.zero_le _,rfl,rfl,rfl⟩
 case round =>
  obtain⟨k,hk,rfl,hp,rfl⟩:=hrel
  by_cases hlt:k<a.args.length
  · obtain ⟨b,off,x,rfl,hb,hxk,hxs,hc0,hc1⟩:=jae.at_ HV.out hlt
    have HK:=zh hxk;clear hxk
    cases ht:x.v
    · have HP:=zh (show (a.args.take (k+1)).all noVar=true from by rw[jbo _ _ k x HK.out,hp.out,jp0 ht];rfl)
      rw[ht] at hc0;clear ht;go_wp2
      go_roundw
      case rel=>exact⟨k+1,by omega,by go_num,HP,trivial⟩
      case measure=>simp[intOf];omega
    have HF:=zh (show factB a=false from by unfold factB;rw[show (a.args.all fun t=> !t.v)=false from jbf noVar _ k x HK.out (jt1 ht),Bool.and_false]);rw[ht] at hc0;clear ht;go_wp2;go_ret;exact⟨by rw[HF.out];rfl,(Ext.refl _).alloc _⟩
  have HF:=zh (show factB a=jat a from by unfold factB;rw[show (a.args.all fun t=> !t.v)=true from jbm noVar _ k hlt hp.out,Bool.and_true])
  go_wp2_with (go_at_call 122;refine (jew a _ _ hs HV.out).mono ?_;rintro e w1 ⟨rfl,hx1⟩)
  go_ret;exact⟨by rw[HF.out];rfl,((Ext.refl _).alloc _).trans' hx1⟩
def ltA (a b:GA):Bool:=decide (cmpA a b<0)
def ascB:List GA→Bool
 | []=>true
 | [_]=>true
 | a :: b :: l=>ltA a b && ascB (b :: l)
def jbe (l:List GA) (most:Nat):Bool:=l.all factB && ascB l && decide (l.length≤most)
theorem jp1:∀ (l:List GA) (a b:GA),ascB (l++[a,b])=(ascB (l++[a]) && ltA a b)
 | [],a,b=>by simp[ascB]
 | [c],a,b=>by simp[ascB]
 | c :: d :: l,a,b=>by
   have:=jp1 (d :: l) a b;simp only[List.cons_append] at this ⊢;simp only[ascB,this,Bool.and_assoc]
theorem je5:∀ (l m:List GA),ascB l=false→ascB (l++m)=false
 | [],m,h=>by simp[ascB] at h
 | [c],m,h=>by simp[ascB] at h
 | c :: d :: l,m,h=>by
   simp only[List.cons_append,ascB,Bool.and_eq_false_iff] at h ⊢
   rcases h with h|h
   · exact .inl h
   exact .inr (je5 (d :: l) m h)
def ascTo (l:List GA) (k:Nat):Bool:=ascB (l.take k)
theorem jw1 {l:List GA} {a:GA} (h:l[0]? = some a):ascTo l 1=true:=by
 unfold ascTo;cases l with
 | nil=>simp at h
 | cons b l=>rfl
theorem jzb {l:List GA} {k:Nat} {a b:GA} (ha:l[k]? = some a) (hb:l[k+1]? = some b):l.take (k+2)=l.take k++[a,b]∧l.take (k+1)=l.take k++[a]:=by
 obtain⟨h1,rfl⟩:=List.getElem?_eq_some_iff.1 ha;obtain⟨h2,rfl⟩:=List.getElem?_eq_some_iff.1 hb;have e1:=List.take_succ_eq_append_getElem h1;have e2:=List.take_succ_eq_append_getElem h2;exact⟨by rw[e2,e1,List.append_assoc];rfl,e1⟩
theorem jm8 {l:List GA} {k:Nat} {a b:GA} (ha:l[k]? = some a) (hb:l[k+1]? = some b):ascTo l (k+2)=(ascTo l (k+1) && ltA a b):=by
 obtain⟨e1,e2⟩:=jzb ha hb;unfold ascTo;rw[e1,e2,jp1]
theorem jla {l:List GA} {k:Nat} (h:ascTo l k=false):ascB l=false:=by
 rw[← List.take_append_drop k l];exact je5 _ _ h
theorem jt2 (v:Value) (xs:List GA) (most:Nat) (w:World) {S:Nat→Prop} (hv:jac S w v xs) :
  Calls Tryz.prog 153 #[v,.int .i64 most] w fun e w'=>e=.returned (.bool (jbe xs most))∧Ext w w':=by
 obtain⟨A,c,rfl,hc1,hc2⟩:=jaa.form hv;have HV:=zh hv;clear hv
 go_enter Tryz.func153,Tryz.ntmps153
 go_wp2
 go_loopw [5] (fun i wr=>∃ k:Nat,k≤xs.length∧i=.int .i64 k∧Hid ((xs.take k).all factB=true)∧Hid (ascTo xs k=true)∧Ext w wr) (fun i _=>xs.length-(intOf i).toNat)
 case atStart=>exact⟨0,Nat.zero_le _,rfl,rfl,rfl,Ext.refl _⟩
 case round =>
  obtain⟨k,hk,rfl,hp,ha,hx⟩:=hrel;have hk0:(0:Int)≤(k:Int):=Int.natCast_nonneg _
  by_cases hlt:k<xs.length
  · obtain ⟨b,off,x,v1,rfl,hb,hxk,hxs,ht,hc0,hc1⟩:=jac.at_ (HV.out.ext hx) hlt
    have hk1:(k:Int)<(xs.length:Int):=by omega
    have HK:=zh hxk;have HT:=zh ht;clear hxk ht
    cases hf:factB x
    · have HF:=zh (show jbe xs most=false from by unfold jbe;rw[jbf factB _ k x HK.out hf];rfl)
      have HW:=zh (fun (W:World) (h:Ext wr W)=>(jai (jj6 x v1 W hxs (HT.out.ext h))).2 hf);clear hf
      go_wp2_with fail
      refine jar (by kernel_rfl) (by kernel_rfl) ?_
      repeat (go_big_quiet_step ((go_at_call 202;exact jbg (HW.out _ (Later.ext _)))))
      refine wpQuiet_nil ?_;rintro w1 ⟨⟨_,hx1⟩,rfl⟩;go_wp2;go_ret;exact⟨by rw[HF.out];rfl,hx.trans' hx1⟩
    have HW:=zh (fun (W:World) (h:Ext wr W)=>(jai (jj6 x v1 W hxs (HT.out.ext h))).1 hf);have HP:=zh (show (xs.take (k+1)).all factB=true from by rw[jbo _ _ k x HK.out,hp.out,hf];rfl);clear hf hp
    by_cases hk2:k<1
    · have HA:=zh (show ascTo xs (k+1)=true from by
        obtain rfl:k=0:=by omega
        exact jw1 HK.out)
      have hg:decide (0<k)=false:=decide_eq_false (by omega)
      go_wp2_with fail
      refine jar (by kernel_rfl) (by kernel_rfl) ?_
      repeat (go_big_quiet_step ((go_at_call 202;exact jbg (HW.out _ (Later.ext _)))))
      refine wpQuiet_nil ?_;rintro w1 ⟨⟨_,hx1⟩,rfl⟩;go_wp2
      go_roundw
      case rel=>exact⟨k+1,by omega,by go_num,HP,HA,hx.trans' hx1⟩
      case measure=>simp[intOf];omega
    obtain⟨j,rfl⟩:∃ j,k=j+1:=⟨k-1,by omega⟩
    obtain⟨b',off',y,v2,hbb,hb',hyk,hys,ht',hd0,hd1⟩:=jac.at_ (HV.out.ext hx) (k:=j) (by omega)
    injection hbb with hbb
    injection hbb with e1 e2
    subst e1;subst e2;have HY:=zh ht';have HS:=zh (jm8 hyk HK.out);have HC:=zh (fun (W:World) (h:Ext wr W)=>jpy y x v2 v1 W (HY.out.ext h) (HT.out.ext h));have hj0:(0:Int)≤(j:Int):=Int.natCast_nonneg _
    have hj1:(j:Int)<(xs.length:Int):=by omega
    clear ht' hyk hk0
    by_cases hcmp:cmpA y x<0
    · have HA:=zh (show ascTo xs (j+1+1)=true from by rw[HS.out,ha.out];unfold ltA;simp[hcmp])
      go_wp2_with fail
      refine jar (by kernel_rfl) (by kernel_rfl) ?_
      repeat (go_big_quiet_step ((first|(go_at_call 202;exact jbg (HW.out _ (Later.ext _)))|(go_at_call 171;exact jbg (HC.out _ (Later.ext _))))))
      refine wpQuiet_nil ?_;rintro w1 ⟨⟨_,hx1⟩,rfl⟩;go_wp2
      go_roundw
      case rel=>exact⟨j+1+1,by omega,by go_num,HP,HA,hx.trans' hx1⟩
      case measure=>simp[intOf];omega
    have HF:=zh (show jbe xs most=false from by
      have:ascTo xs (j+1+1)=false:=by rw[HS.out];unfold ltA;simp[hcmp]
      unfold jbe;rw[jla this];simp)
    go_wp2_with fail
    refine jar (by kernel_rfl) (by kernel_rfl) ?_
    repeat (go_big_quiet_step ((first|(go_at_call 202;exact jbg (HW.out _ (Later.ext _)))|(go_at_call 171;exact jbg (HC.out _ (Later.ext _))))))
    refine wpQuiet_nil ?_;rintro w1 ⟨⟨_,hx1⟩,rfl⟩;go_wp2;go_ret;exact⟨by rw[HF.out];rfl,hx.trans' hx1⟩
  have HF:=zh (show jbe xs most=decide (xs.length≤most) from by
    have h1:=jbm factB _ k hlt hp.out;have h2:=ha.out;unfold ascTo at h2;rw[List.take_of_length_le (by omega)] at h2
    unfold jbe;rw[h1,h2];rfl)
  go_wp2;go_ret;exact⟨by rw[HF.out];exact ja6 (by simp),hx⟩
theorem jd8 (v:Value) (xs:List GA) (w:World) {S:Nat→Prop} (hv:jac S w v xs) :
  Calls Tryz.prog 100 #[v] w fun e w'=>e=.returned (.bool (jbe xs 300))∧Ext w w':=by
 obtain⟨A,c,rfl,hc1,hc2⟩:=jaa.form hv;have HV:=zh hv;clear hv
 go_enter Tryz.func100,Tryz.ntmps100
 go_wp2_with (go_at_call 153;refine (jt2 _ xs 300 _ HV.out).mono ?_;rintro e w1 ⟨rfl,hx1⟩)
 go_ret;exact⟨rfl,hx1⟩
theorem jp2 (s:ByteArray) (w:World) (hs:s.size≤maxLen) :
  Calls Tryz.prog 115 #[.string s] w fun e w'=>e=.returned (.bool (jc3 s.data.toList))∧w'=w:=by
 unfold maxLen at hs
 go_enter Tryz.func115,Tryz.ntmps115
 go_wp2
 go_loop [3] (fun i=>∃ k:Nat,k≤s.size∧i=.int .i64 k∧Hid (jc3 (s.data.toList.take k)=true)) (fun i=>s.size-(intOf i).toNat)
 case atStart=>exact⟨0,Nat.zero_le _,rfl,rfl⟩
 case round =>
  obtain⟨k,hk,rfl,hp⟩:=hrel
  by_cases hlt:k<s.size
  · have HT:=zh (jm6 s k hlt)
    have hc:s[k].toNat<256:=s[k].toNat_lt
    cases hd:jj2 s[k]
    · have HF:=zh (show jc3 s.data.toList=false from by
        have:jc3 (s.data.toList.take (k+1))=false:=by rw[HT.out,jfi,hd,Bool.and_false]
        exact jj3 this)
      rcases jpt hd with h|h|h
      all_goals
       clear hd;go_wp2;go_ret;exact⟨by rw[HF.out];rfl,rfl⟩
    have HP:=zh (show jc3 (s.data.toList.take (k+1))=true from by rw[HT.out,jfi,hd,hp.out];rfl)
    rcases jiy hd with h|h
    all_goals
     clear hd;go_wp2
     go_round
     case rel=>exact⟨k+1,by omega,by go_num,HP⟩
     case measure=>simp[intOf];omega
  have HF:=zh (show jc3 s.data.toList=true from by
    have hkk:k=s.size:=by omega
    have hp1:=hp.out;rw[hkk,jtz] at hp1
    exact hp1)
  go_wp2;go_ret;exact⟨by rw[HF.out];rfl,rfl⟩
theorem jt3 {s:ByteArray} (h:s.size=0):capB s=false:=by
 have:s.data.toList=[]:=by apply List.eq_nil_of_length_eq_zero;simpa using h
 unfold capB;rw[this]
theorem jt4 {s:ByteArray} (h:s.size=0):s.toList=[]:=by
 rw[ByteArray.toList_eq];apply List.eq_nil_of_length_eq_zero;simpa using h
theorem jw2 {s:ByteArray} (h:¬ s.size=0):s.toList.isEmpty=false:=by
 rw[ByteArray.toList_eq]
 cases h2:s.data.toList with
 | nil=>exact absurd (by have:=congrArg List.length h2;simpa using this) h
 | cons=>rfl
theorem jsd (s:ByteArray) (w:World) (hs:s.size≤maxLen) :
  Calls Tryz.prog 309 #[.string s] w fun e w'=>e=.returned (.bool (capB s))∧w'=w:=by
 unfold maxLen at hs
 by_cases h0:s.size=0
 · have HF:=zh (jt3 h0)
   have h1:s.toList=[]:=jt4 h0
   have h2:(!s.toList.isEmpty)=false:=by rw[h1];rfl
   have H0:=zh h0;clear h0
   go_enter Tryz.func309,Tryz.ntmps309
   go_wp2;go_ret;exact⟨by rw[HF.out];rfl,rfl⟩
 have hp:0<s.size:=Nat.pos_of_ne_zero h0;have h1:s.toList.isEmpty=false:=jw2 h0;have hc:s[0].toNat<256:=s[0].toNat_lt
 cases hu:upper s[0]
 · have HF:=zh ((jf3 hp).trans hu)
   have hr:s[0].toNat<65∨90<s[0].toNat:=by have h9:=of_decide_eq_false hu;clear h1;omega
   clear hu h0
   rcases hr with hr|hr
   all_goals
    go_enter Tryz.func309,Tryz.ntmps309
    go_wp2;go_ret;exact⟨by rw[HF.out];exact ja6 (by first|(simp;done)|(simp;omega)),rfl⟩
 have HF:=zh ((jf3 hp).trans hu);obtain⟨hr1,hr2⟩:=of_decide_eq_true hu;clear hu h0
 go_enter Tryz.func309,Tryz.ntmps309
 go_wp2;go_ret;exact⟨by rw[HF.out];exact ja6 (by first|(simp;done)|(simp;omega)),rfl⟩
def tailB (s:ByteArray):Bool:=jc3 (s.data.toList.drop 1)
theorem jlb (s:ByteArray):jch s=(decide (s.size≤8) && capB s && jc3 (s.data.toList.drop 1)):=by
 unfold jch;rw[Bool.and_comm (capB s)]
theorem jzc {s:ByteArray} (h:capB s=true):0<s.size:=by
 rcases Nat.eq_zero_or_pos s.size with h0|h0
 · rw[jt3 h0] at h;cases h
 exact h0
theorem jmt (s:ByteArray) (w:World) (hs:s.size≤maxLen) :
  Calls Tryz.prog 280 #[.string s] w fun e w'=>e=.returned (.bool (jch s))∧w'=w:=by
 have hm:s.size≤9223372036854775807:=hs
 by_cases h8:s.size≤8
 · have hw:=jai (jsd s w hs)
   have hd8:decide ((s.size:Int)≤8)=true:=by simp;omega
   cases hc:capB s
   · have HF:=zh (show jch s=false from by rw[jlb,hc];simp)
     have HW:=zh (hw.2 hc);clear hw hc
     go_enter Tryz.func280,Tryz.ntmps280
     go_wp2_with (go_at_call 309;refine HW.out.mono ?_;rintro e w1 ⟨rfl,rfl⟩)
     go_ret;exact⟨by rw[HF.out];rfl,rfl⟩
   have hp:=jzc hc;have HW:=zh (hw.1 hc);have hq:=jp2 (s.extract 1 s.size) w (by rw[jk8 _ _ hp];exact Nat.le_trans (Nat.sub_le _ _) hs)
   have hq2:Calls Tryz.prog 115 #[.string (s.extract 1 s.size)] w fun e w'=>e=.returned (.bool (tailB s))∧w'=w:=by rw[jpu] at hq;exact hq
   have HQ:=zh hq2;have HF:=zh (show jch s=tailB s from by rw[jlb,hc];unfold tailB;simp[h8]);clear hw hc hq hq2
   go_enter Tryz.func280,Tryz.ntmps280
   go_wp2_with (first|(go_at_call 309;refine HW.out.mono ?_;rintro e w1 ⟨rfl,rfl⟩)|(go_at_call 115;refine HQ.out.mono ?_;rintro e w1 ⟨rfl,rfl⟩))
   go_ret;exact⟨by rw[HF.out];rfl,rfl⟩
 have HF:=zh (show jch s=false from by rw[jlb];simp[h8])
 have hd8:decide ((s.size:Int)≤8)=false:=by simp;omega
 go_enter Tryz.func280,Tryz.ntmps280
 go_wp2;go_ret;exact⟨by rw[HF.out];exact ja6 (by first|(simp;done)|(simp;omega)),rfl⟩
theorem jm9 (s:ByteArray) (w:World) (hs:s.size≤maxLen) :
  Calls Tryz.prog 57 #[.string s] w fun e w'=>e=.returned (.bool (jay s))∧w'=w:=by
 have hm:s.size≤9223372036854775807:=hs
 by_cases h1:1≤s.size
 · by_cases h8:s.size≤8
   · have hw:=jai (jp2 s w hs)
     cases hc:jc3 s.data.toList
     · have HF:=zh (show jay s=false from by unfold jay jbu;rw[hc];rfl)
       have HW:=zh (hw.2 hc);clear hw hc
       go_enter Tryz.func57,Tryz.ntmps57
       go_wp2_with (go_at_call 115;refine HW.out.mono ?_;rintro e w1 ⟨rfl,rfl⟩)
       go_ret;exact⟨by rw[HF.out];rfl,rfl⟩
     have HF:=zh (show jay s = !(isNot s) from by unfold jay jbu;rw[hc,jsc (by omega) (by omega)];rfl);have HW:=zh (hw.1 hc);clear hw hc
     go_enter Tryz.func57,Tryz.ntmps57
     go_wp2_with (go_at_call 115;refine HW.out.mono ?_;rintro e w1 ⟨rfl,rfl⟩)
     go_ret;exact⟨by rw[HF.out];rfl,rfl⟩
   have HF:=zh (show jay s=false from by unfold jay jbu;rw[jty (by omega)];simp)
   go_enter Tryz.func57,Tryz.ntmps57
   go_wp2;go_ret;exact⟨by rw[HF.out];first|rfl|exact ja6 (by first|(simp;done)|(simp;omega)),rfl⟩
 have HF:=zh (show jay s=false from by unfold jay jbu;rw[jw0 (by omega)];simp)
 go_enter Tryz.func57,Tryz.ntmps57
 go_wp2;go_ret;exact⟨by rw[HF.out];first|rfl|exact ja6 (by first|(simp;done)|(simp;omega)),rfl⟩
@[go_sem] theorem as_ww (v:Value) (w:World):(Instr.typeAssert (.iface 335 v) 268 335 true).run Tryz.prog w=.ok (.tuple #[v,.bool true]) w:=by kernel_rfl
@[go_sem] theorem as_vw (v:Value) (w:World):(Instr.typeAssert (.iface 265 v) 268 335 true).run Tryz.prog w=.ok (.tuple #[.string ⟨#[]⟩,.bool false]) w:=by kernel_rfl
@[go_sem] theorem as_vv (v:Value) (w:World):(Instr.typeAssert (.iface 265 v) 268 265 true).run Tryz.prog w=.ok (.tuple #[v,.bool true]) w:=by kernel_rfl
theorem jiz (t:GT) (w:World) :
  Calls Tryz.prog 219 #[.agg #[.bool t.v,.string t.n]] w fun e w'=>e=.returned (.iface (if t.v=true then 265 else 335) (.string t.n))∧Ext w w':=by
 obtain⟨v,s⟩:=t
 cases v
 · go_enter Tryz.func219,Tryz.ntmps219
   go_wp2;go_ret;exact⟨rfl,(Ext.refl _).alloc _⟩
 go_enter Tryz.func219,Tryz.ntmps219
 go_wp2;go_ret;exact⟨rfl,(Ext.refl _).alloc _⟩
theorem jf4 (s:ByteArray) (w:World):Calls Tryz.prog 279 #[.string s] w fun e w'=>e=.returned (.string s)∧w'=w:=by
 go_enter Tryz.func279,Tryz.ntmps279
 go_wp2;go_ret;exact⟨rfl,rfl⟩
theorem jc4 (s:ByteArray) (w:World):Calls Tryz.prog 221 #[.string s] w fun e w'=>e=.returned (.string s)∧w'=w:=by
 go_enter Tryz.func221,Tryz.ntmps221
 go_wp2;go_ret;exact⟨rfl,rfl⟩
theorem jvc (t:GT) (w:World) (hs:t.n.size≤maxLen) :
  Calls Tryz.prog 218 #[.agg #[.bool t.v,.string t.n]] w fun e w'=>e=.returned (.bool (ja1 t))∧Ext w w':=by
 have hk:=jiz t;obtain⟨v,s⟩:=t
 cases v
 · have HF:=zh (show ja1 ⟨false,s⟩=jay s from rfl)
   have HK:∀ w:World,Calls Tryz.prog 219 #[.agg #[.bool false,.string s]] w fun e w'=>e=.returned (.iface 335 (.string s))∧Ext w w':=hk
   have HK:=zh HK;clear hk
   go_enter Tryz.func218,Tryz.ntmps218
   go_wp2_with (first
    | (go_at_call 219;refine (HK.out _).mono ?_;rintro e w1 ⟨rfl,hx1⟩)
    | (go_at_call 279;refine (jf4 s _).mono ?_;rintro e w2 ⟨rfl,rfl⟩)
    | (go_at_call 57;refine (jm9 s _ hs).mono ?_;rintro e w2 ⟨rfl,rfl⟩))
   go_ret;exact⟨by rw[HF.out];rfl,((Ext.refl _).alloc _).trans' hx1⟩
 have HF:=zh (show ja1 ⟨true,s⟩=jch s from rfl)
 have HK:∀ w:World,Calls Tryz.prog 219 #[.agg #[.bool true,.string s]] w fun e w'=>e=.returned (.iface 265 (.string s))∧Ext w w':=hk
 have HK:=zh HK;clear hk
 go_enter Tryz.func218,Tryz.ntmps218
 go_wp2_with (first
  | (go_at_call 219;refine (HK.out _).mono ?_;rintro e w1 ⟨rfl,hx1⟩)
  | (go_at_call 221;refine (jc4 s _).mono ?_;rintro e w2 ⟨rfl,rfl⟩)
  | (go_at_call 280;refine (jmt s _ hs).mono ?_;rintro e w2 ⟨rfl,rfl⟩))
 go_ret;exact⟨by rw[HF.out];rfl,((Ext.refl _).alloc _).trans' hx1⟩
theorem ji0 (a:GA) (v:Value) (w:World) {S:Nat→Prop} (hs:a.n.size≤maxLen) (hv:jae S w v a.args) :
  Calls Tryz.prog 165 #[.agg #[.string a.n,v]] w fun e w'=>e=.returned (.bool (jat a))∧Ext w w':=by
 obtain⟨A,c,rfl,hc1,hc2⟩:=jaa.form hv;have HV:=zh (hv.ext ((Ext.refl w).alloc (.cells #[.string a.n,.slice A a.args.length c] 43)));clear hv;have hw:=jai (jm9 a.n (w.alloc (.cells #[.string a.n,.slice A a.args.length c] 43)) hs)
 cases hn:jay a.n
 · have HF:=zh (show jat a=false from by unfold jat;rw[hn];rfl)
   have HW:=zh (hw.2 hn);clear hw hn
   go_enter Tryz.func165,Tryz.ntmps165
   go_wp2_with (go_at_call 57;refine HW.out.mono ?_;rintro e w1 ⟨rfl,rfl⟩)
   go_ret;exact⟨by rw[HF.out];rfl,(Ext.refl _).alloc _⟩
 have HW:=zh (hw.1 hn)
 by_cases h3:a.args.length≤3
 · have HF:=zh (show jat a=a.args.all ja1 from by unfold jat;rw[hn];simp[h3])
   clear hw hn
   go_enter Tryz.func165,Tryz.ntmps165
   go_wp2_with (go_at_call 57;refine HW.out.mono ?_;rintro e w1 ⟨rfl,rfl⟩)
   go_loopw [18] (fun i wr=>∃ k:Nat,k≤a.args.length∧i=.int .i64 k∧Hid ((a.args.take k).all ja1=true)∧Ext (w.alloc (.cells #[.string a.n,.slice A a.args.length c] 43)) wr) (fun i _=>a.args.length-(intOf i).toNat)
   case atStart=>exact⟨0,Nat.zero_le _,rfl,rfl,Ext.refl _⟩
   case round =>
    obtain⟨k,hk,rfl,hp,hx⟩:=hrel
    by_cases hlt:k<a.args.length
    · obtain ⟨b,off,x,rfl,hb,hxk,hxs,hc0,hc1⟩:=jae.at_ (HV.out.ext hx) hlt
      have HK:=zh hxk;have hw:=jai (jvc x (wr.alloc (.cells #[.bool x.v,.string x.n] 60)) hxs);clear hxk
      cases ht:ja1 x
      · have HZ:=zh (jbf ja1 _ k x HK.out ht)
        have HW:=zh (hw.2 ht);clear hw ht
        go_wp2_with (go_at_call 218;refine HW.out.mono ?_;rintro e w1 ⟨rfl,hx1⟩)
        go_ret;exact⟨by rw[HF.out,HZ.out];rfl,((Ext.refl _).alloc _).trans' ((hx.alloc _).trans' hx1)⟩
      have HP:=zh (show (a.args.take (k+1)).all ja1=true from by rw[jbo _ _ k x HK.out,hp.out,ht];rfl);have HW:=zh (hw.1 ht);clear hw ht
      go_wp2_with (go_at_call 218;refine HW.out.mono ?_;rintro e w1 ⟨rfl,hx1⟩)
      go_roundw
      case rel=>exact⟨k+1,by omega,by go_num,HP,(hx.alloc _).trans' hx1⟩
      case measure=>simp[intOf];omega
    have HZ:=zh (jbm _ _ k hlt hp.out);go_wp2;go_ret;exact⟨by rw[HF.out,HZ.out];rfl,((Ext.refl _).alloc _).trans' hx⟩
 have HF:=zh (show jat a=false from by unfold jat;simp[h3]);clear hw hn
 go_enter Tryz.func165,Tryz.ntmps165
 go_wp2_with (go_at_call 57;refine HW.out.mono ?_;rintro e w1 ⟨rfl,rfl⟩)
 go_ret;exact⟨by rw[HF.out];rfl,(Ext.refl _).alloc _⟩
theorem jse (t:GT) (w:World) :
  Calls Tryz.prog 183 #[.agg #[.bool t.v,.string t.n]] w fun e w'=>e=.returned (.bool t.v)∧Ext w w':=by
 go_enter Tryz.func183,Tryz.ntmps183
 go_wp2;go_ret;exact⟨rfl,(Ext.refl _).alloc _⟩
theorem jj7 (v:Value) (xs:List GT) (w:World) {S:Nat→Prop} (hv:jae S w v xs) :
  Calls Tryz.prog 251 #[v,.func (.func 183) #[] #[]] w fun e w'=>(∃ z:Int,e=.returned (.int .i64 z)∧(xs.all noVar=true→z<0)∧(xs.all noVar=false→0≤z))∧Ext w w':=by
 obtain⟨A,c,rfl,hc1,hc2⟩:=jaa.form hv;have HV:=zh hv;clear hv
 go_enter Tryz.func251,Tryz.ntmps251
 go_wp2
 go_loopw [8] (fun i wr=>∃ k:Nat,k≤xs.length∧i=.int .i64 k∧Hid ((xs.take k).all noVar=true)∧Ext w wr) (fun i _=>xs.length-(intOf i).toNat)
 case atStart=>exact⟨0,Nat.zero_le _,rfl,rfl,Ext.refl _⟩
 case round =>
  obtain⟨k,hk,rfl,hp,hx⟩:=hrel
  by_cases hlt:k<xs.length
  · obtain ⟨b,off,x,rfl,hb,hxk,hxs,hc0,hc1⟩:=jae.at_ (HV.out.ext hx) hlt
    have HK:=zh hxk;have hw:=jai (jse x wr);clear hxk
    cases ht:x.v
    · have HP:=zh (show (xs.take (k+1)).all noVar=true from by rw[jbo _ _ k x HK.out,hp.out,jp0 ht];rfl)
      have HW:=zh (hw.2 ht);clear hw ht
      go_wp2_with (go_at_call 183;refine HW.out.mono ?_;rintro e w1 ⟨rfl,hx1⟩)
      go_roundw
      case rel=>exact⟨k+1,by omega,by go_num,HP,hx.trans' hx1⟩
      case measure=>simp[intOf];omega
    have HZ:=zh (jbf noVar _ k x HK.out (jt1 ht));have HW:=zh (hw.1 ht);clear hw ht
    go_wp2_with (go_at_call 183;refine HW.out.mono ?_;rintro e w1 ⟨rfl,hx1⟩)
    go_ret;exact⟨⟨k,rfl,fun h=>(by rw[HZ.out] at h;cases h),fun _=>Int.natCast_nonneg _⟩,hx.trans' hx1⟩
  have HZ:=zh (jbm _ _ k hlt hp.out);go_wp2;go_ret;exact⟨⟨-1,rfl,fun _=>by decide,fun h=>(by rw[HZ.out] at h;cases h)⟩,hx⟩
theorem jf5 (v:Value) (xs:List GT) (w:World) {S:Nat→Prop} (hv:jae S w v xs) :
  Calls Tryz.prog 182 #[v,.func (.func 183) #[] #[]] w fun e w'=>e=.returned (.bool (!xs.all noVar))∧Ext w w':=by
 obtain⟨A,c,rfl,hc1,hc2⟩:=jaa.form hv;have HV:=zh hv;clear hv
 cases ha:xs.all noVar
 · have HA:=zh ha
   clear ha
   go_enter Tryz.func182,Tryz.ntmps182
   go_wp2_with (go_at_call 251;refine (jj7 _ xs _ HV.out).mono ?_;rintro e w1 ⟨⟨z,rfl,h1,h2⟩,hx1⟩;have hz:=h2 HA.out;clear h1 h2)
   go_ret;exact⟨ja6 (by first|(simp;done)|(simp;omega)),hx1⟩
 have HA:=zh ha;clear ha
 go_enter Tryz.func182,Tryz.ntmps182
 go_wp2_with (go_at_call 251;refine (jj7 _ xs _ HV.out).mono ?_;rintro e w1 ⟨⟨z,rfl,h1,h2⟩,hx1⟩;have hz:=h1 HA.out;clear h1 h2)
 go_ret;exact⟨ja6 (by first|(simp;done)|(simp;omega)),hx1⟩
theorem jvd (a:GA) (v:Value) (w:World) {S:Nat→Prop} (hs:a.n.size≤maxLen) (hv:jae S w v a.args) :
  Calls Tryz.prog 136 #[.agg #[.string a.n,v]] w fun e w'=>e=.returned (.bool (factB a))∧Ext w w':=by
 obtain⟨A,c,rfl,hc1,hc2⟩:=jaa.form hv;have HV:=zh (hv.ext ((Ext.refl w).alloc (.cells #[.string a.n,.slice A a.args.length c] 43)));clear hv;have hw:=jai (ji0 a _ _ hs HV.out)
 cases hn:jat a
 · have HF:=zh (show factB a=false from by unfold factB;rw[hn];rfl)
   have HW:=zh (hw.2 hn);clear hw hn
   go_enter Tryz.func136,Tryz.ntmps136
   go_wp2_with (go_at_call 165;refine HW.out.mono ?_;rintro e w1 ⟨rfl,hx1⟩)
   go_ret;exact⟨by rw[HF.out];rfl,((Ext.refl _).alloc _).trans' hx1⟩
 have HF:=zh (show factB a=a.args.all noVar from by unfold factB;rw[hn];rfl);have HW:=zh (hw.1 hn);clear hw hn
 cases ha:a.args.all noVar
 · have HA:=zh ha
   clear ha
   go_enter Tryz.func136,Tryz.ntmps136
   go_wp2_with (first
    | (go_at_call 165;refine HW.out.mono ?_;rintro e w1 ⟨rfl,hx1⟩;obtain⟨hcc,hcf⟩:=hx1.cells)
    | (go_at_call 182;refine ((jai (jf5 _ a.args _ (HV.out.ext hx1))).1 (by rw[HA.out];rfl)).mono ?_;rintro e w2 ⟨rfl,hx2⟩))
   go_ret;exact⟨by rw[HF.out,HA.out];rfl,(((Ext.refl _).alloc _).trans' hx1).trans' hx2⟩
 have HA:=zh ha;clear ha
 go_enter Tryz.func136,Tryz.ntmps136
 go_wp2_with (first
  | (go_at_call 165;refine HW.out.mono ?_;rintro e w1 ⟨rfl,hx1⟩;obtain⟨hcc,hcf⟩:=hx1.cells)
  | (go_at_call 182;refine ((jai (jf5 _ a.args _ (HV.out.ext hx1))).2 (by rw[HA.out];rfl)).mono ?_;rintro e w2 ⟨rfl,hx2⟩))
 go_ret;exact⟨by rw[HF.out,HA.out];rfl,(((Ext.refl _).alloc _).trans' hx1).trans' hx2⟩
end Go.Proofs.YthdojieomhighaaGreatDoor
namespace Go.Proofs
open Go.Shelf
def Tryz.lays169_ren:Go.Shelf.Ren:=⟨fun|169=>277|n=>n,fun|70=>328|9=>9|0=>0|72=>330|37=>37|127=>375|3=>3|5=>5|n=>n,fun|n=>n⟩
theorem Tryz.lays169:Go.Proofs.Lays.n169 Tryz.prog Tryz.lays169_ren:= {
 mixed:=by kernel_rfl
 f169:=Tryz.func277.trans (congrArg some (by kernel_rfl))
 t0:=Tryz.underlying0
 a0:=Tryz.isAgg0
 z0:=Tryz.sizeOf0
 v0:=Tryz.zeroValue0
 t3:=Tryz.underlying3
 a3:=Tryz.isAgg3
 z3:=Tryz.sizeOf3
 v3:=Tryz.zeroValue3
 t9:=Tryz.underlying9
 a9:=Tryz.isAgg9
 z9:=Tryz.sizeOf9
 v9:=Tryz.zeroValue9
 t37:=Tryz.underlying37
 a37:=Tryz.isAgg37
 z37:=Tryz.sizeOf37
 v37:=Tryz.zeroValue37
 t70:=Tryz.underlying328
 a70:=Tryz.isAgg328
 z70:=Tryz.sizeOf328
 v70:=Tryz.zeroValue328
 t72:=Tryz.underlying330
 a72:=Tryz.isAgg330
 z72:=Tryz.sizeOf330
 v72:=Tryz.zeroValue330
 t127:=Tryz.underlying375
 a127:=Tryz.isAgg375
 z127:=Tryz.sizeOf375
 v127:=Tryz.zeroValue375 }
theorem Tryz.Builder_Extra_169:Builder.Extra Tryz.prog Tryz.lays169_ren:= {
 sizeBuilder:=by kernel_rfl
 liesBuilder:=by kernel_rfl
 t5:=Tryz.underlying5
 a5:=Tryz.isAgg5
 z5:=Tryz.sizeOf5
 v5:=Tryz.zeroValue5
 infoByte:=by kernel_rfl
 cellsByte:=by kernel_rfl
 sizeByte:=by kernel_rfl
 neB5:=by decide }
open Go.RowKit in
theorem Tryz.Builder_String_any (B b:Nat) (l:List UInt8) (w:World) (h:Lib.IsBuilder 330 5 B b (Lib.byteCells l) w) (hBw:B≤w.heap.size) :
 Calls Tryz.prog 277 #[.pointer (some ⟨b,0,none⟩)] w fun e w'=>e=.returned (.string ⟨l.toArray⟩)∧Below B w w':=Any.Builder_String_any Tryz.lays169 Tryz.Builder_Extra_169 B b l w h hBw
def Tryz.lays106_ren:Go.Shelf.Ren:=⟨fun|106=>176|213=>245|265=>290|n=>n,fun|9=>9|3=>3|n=>n,fun|n=>n⟩
theorem Tryz.lays106:Go.Proofs.Lays.n106 Tryz.prog Tryz.lays106_ren:= {
 mixed:=by kernel_rfl
 f106:=Tryz.func176.trans (congrArg some (by kernel_rfl))
 f213:=Tryz.func245.trans (congrArg some (by kernel_rfl))
 f265:=Tryz.func290.trans (congrArg some (by kernel_rfl))
 t3:=Tryz.underlying3
 a3:=Tryz.isAgg3
 z3:=Tryz.sizeOf3
 v3:=Tryz.zeroValue3
 t9:=Tryz.underlying9
 a9:=Tryz.isAgg9
 z9:=Tryz.sizeOf9
 v9:=Tryz.zeroValue9 }
open Go.RowKit in
theorem Tryz.strings_Compare (a b:ByteArray) (w:World) :
 Calls Tryz.prog 176 #[.string a,.string b] w fun e w'=>e=.returned (.int .i64 (Lib.compareBytes a.data.toList b.data.toList))∧w'=w:=Any.strings_Compare Tryz.lays106 a b w
end Go.Proofs
namespace Go.Proofs.YthdojieomhighaaGreatDoor
open Go.RowKit
theorem jg7 (a b:ByteArray) (w:World) :
 Calls Tryz.prog 176 #[.string a,.string b] w fun e w'=>e=.returned (.int .i64 (cmpS a b))∧w'=w:=Tryz.strings_Compare a b w
theorem jlc (s t:GT) (w:World) :
  Calls Tryz.prog 178 #[.agg #[.bool s.v,.string s.n],.agg #[.bool t.v,.string t.n]] w fun e w'=>e=.returned (.int .i64 (cmpS s.n t.n))∧Ext w w':=by
 go_enter Tryz.func178,Tryz.ntmps178
 go_wp2_with (go_at_call 176;refine (jg7 _ _ _).mono ?_;rintro e w1 ⟨rfl,rfl⟩)
 go_ret;exact⟨rfl,((Ext.refl _).alloc _).alloc _⟩
theorem jp3 (x y:List GT):jev x y=jd7 x y 0 0:=by unfold jd7;rw[if_pos rfl];rfl
theorem jsf (v u:Value) (xs ys:List GT) (w:World) {S T:Nat→Prop} (hv:jae S w v xs) (hu:jae T w u ys) :
  Calls Tryz.prog 177 #[v,u,.func (.func 178) #[] #[]] w fun e w'=>e=.returned (.int .i64 (jev xs ys))∧Ext w w':=by
 obtain⟨A,c,rfl,hc1,hc2⟩:=jaa.form hv;obtain⟨B,d,rfl,hd1,hd2⟩:=jaa.form hu;have HV:=zh hv;have HU:=zh hu;clear hv hu
 go_enter Tryz.func177,Tryz.ntmps177
 go_wp2
 go_loopw [13] (fun i wr=>∃ k:Nat,(k≤xs.length∧k≤ys.length)∧i=.int .i64 k∧Hid (jev xs ys=jd7 xs ys k 0)∧Ext w wr) (fun i _=>xs.length-(intOf i).toNat)
 case atStart=>exact⟨0,⟨Nat.zero_le _,Nat.zero_le _⟩,rfl,jp3 _ _,Ext.refl _⟩
 case round =>
  obtain⟨k,⟨hk1,hk2⟩,rfl,hz,hx⟩:=hrel
  by_cases h1:k<xs.length
  · obtain ⟨ba,offa,x,rfl,hba,hxk,hxs,hx0,hx1⟩:=jae.at_ (HV.out.ext hx) h1
    by_cases h2:k<ys.length
    · obtain ⟨bb,offb,y,rfl,hbb,hyk,hys,hy0,hy1⟩:=jae.at_ (HU.out.ext hx) h2
      have HZ:=zh (hz.out.trans (jj4 hxk hyk));have hg:decide (ys.length≤k)=false:=decide_eq_false (by omega);clear hxk hyk hz
      by_cases hq:cmpS x.n y.n=0
      · have HQ:=zh (show jev xs ys=jd7 xs ys (k+1) 0 from by rw[HZ.out,hq])
        have HC:∀ W:World,Calls Tryz.prog 178 #[.agg #[.bool x.v,.string x.n],.agg #[.bool y.v,.string y.n]] W fun e w'=>e=.returned (.int .i64 0)∧Ext W w':=fun W=>by
         have:=jlc x y W;rw[hq] at this;exact this
        have HC:=zh HC;clear hq
        go_wp2_with (go_at_call 178;refine (HC.out _).mono ?_;rintro e w1 ⟨rfl,hw1⟩)
        go_roundw
        case rel=>exact⟨k+1,⟨by omega,by omega⟩,by go_num,HQ,((hx.alloc _).alloc _).trans' hw1⟩
        case measure=>simp[intOf];omega
      have HQ:=zh (HZ.out.trans (jj5 hq))
      have hq1:((cmpS x.n y.n:Int) != 0)=true:=by simp[hq]
      have hq2:((cmpS x.n y.n:Int) == 0)=false:=by simp[hq]
      clear hq
      go_wp2_with (go_at_call 178;refine (jlc x y _).mono ?_;rintro e w1 ⟨rfl,hw1⟩)
      go_ret;exact⟨by rw[HQ.out];rfl,((hx.alloc _).alloc _).trans' hw1⟩
    have HZ:=zh (hz.out.trans (jfj (.inr (by omega)) ⟨hk1,hk2⟩))
    have hl:ys.length<xs.length:=by omega
    have hg:decide (ys.length≤k)=true:=decide_eq_true (by omega);clear hxk hz;go_wp2;go_ret;exact⟨by rw[HZ.out,if_neg (by omega),if_pos hl];rfl,hx.alloc _⟩
  have HZ:=zh (hz.out.trans (jfj (.inl (by omega)) ⟨hk1,hk2⟩));clear hz
  by_cases hl:xs.length<ys.length
  · go_wp2
    go_ret;exact⟨by rw[HZ.out,if_pos hl];rfl,hx⟩
  go_wp2;go_ret;exact⟨by rw[HZ.out,if_neg (by omega),if_neg (by omega)];rfl,hx⟩
theorem jld (a b:GA) (v u:Value) (w:World) {S T:Nat→Prop} (hv:jae S w v a.args) (hu:jae T w u b.args) :
  Calls Tryz.prog 133 #[.agg #[.string a.n,v],.agg #[.string b.n,u]] w fun e w'=>e=.returned (.int .i64 (cmpA a b))∧Ext w w':=by
 obtain⟨A,c,rfl,hc1,hc2⟩:=jaa.form hv;obtain⟨B,d,rfl,hd1,hd2⟩:=jaa.form hu;have HV:=zh (hv.ext (((Ext.refl w).alloc (.cells #[.string a.n,.slice A a.args.length c] 43)).alloc (.cells #[.string b.n,.slice B b.args.length d] 43)));have HU:=zh (hu.ext (((Ext.refl w).alloc (.cells #[.string a.n,.slice A a.args.length c] 43)).alloc (.cells #[.string b.n,.slice B b.args.length d] 43)));clear hv hu
 by_cases hq:cmpS a.n b.n=0
 · have HC:∀ W:World,Calls Tryz.prog 176 #[.string a.n,.string b.n] W fun e w'=>e=.returned (.int .i64 0)∧w'=W:=fun W=>by
     have:=jg7 a.n b.n W;rw[hq] at this;exact this
   have HC:=zh HC;have HF:=zh (show cmpA a b=jev a.args b.args from if_pos hq);clear hq
   go_enter Tryz.func133,Tryz.ntmps133
   go_wp2_with (first
    | (go_at_call 176;refine (HC.out _).mono ?_;rintro e w1 ⟨rfl,rfl⟩)
    | (go_at_call 177;refine (jsf _ _ a.args b.args _ HV.out HU.out).mono ?_;rintro e w1 ⟨rfl,hx1⟩))
   go_ret;exact⟨by rw[HF.out];rfl,(((Ext.refl _).alloc _).alloc _).trans' hx1⟩
 have HF:=zh (show cmpA a b=cmpS a.n b.n from if_neg hq)
 have hq1:((cmpS a.n b.n:Int) != 0)=true:=by simp[hq]
 have hq2:((cmpS a.n b.n:Int) == 0)=false:=by simp[hq]
 clear hq
 go_enter Tryz.func133,Tryz.ntmps133
 go_wp2_with (go_at_call 176;refine (jg7 _ _ _).mono ?_;rintro e w1 ⟨rfl,rfl⟩)
 go_ret;exact⟨by rw[HF.out];rfl,((Ext.refl _).alloc _).alloc _⟩
theorem jcz (A:Option Addr) (n c:Nat) (w:World) :
  Calls Tryz.prog 108 #[.slice A n c] w fun e w'=>e=.returned (.agg #[.slice A n c,.func (.func 133) #[] #[]])∧Ext w w':=by
 go_enter Tryz.func108,Tryz.ntmps108
 go_wp2;exact bodyPost_ret (v:=.agg #[.slice A n c,.func (.func 133) #[] #[]]) (by simp[results,Tryz.results108,go_sem]) rfl ⟨rfl,(Ext.refl _).alloc _⟩
theorem jsg (v:Value) (xs:List GA) (w:World) {S:Nat→Prop} (hv:jac S w v xs) :
  Calls Tryz.prog 137 #[.agg #[v,.func (.func 133) #[] #[]]] w fun e w'=>e=.returned (.bool (ascB xs))∧Ext w w':=by
 obtain⟨A,c,rfl,hc1,hc2⟩:=jaa.form hv;have HV:=zh (hv.ext ((Ext.refl w).alloc (.cells #[.slice A xs.length c,.func (.func 133) #[] #[]] 152)));clear hv
 go_enter Tryz.func137,Tryz.ntmps137
 go_wp2
 go_loopw [3] (fun i wr=>∃ k:Nat,(1≤k∧(k≤xs.length∨k=1))∧i=.int .i64 k∧Hid (ascTo xs k=true)∧Ext (w.alloc (.cells #[.slice A xs.length c,.func (.func 133) #[] #[]] 152)) wr) (fun i _=>xs.length-(intOf i).toNat)
 case atStart=>exact⟨1,⟨Nat.le_refl _,.inr rfl⟩,rfl,(by show _=_;unfold ascTo;cases xs<;>rfl),Ext.refl _⟩
 case round =>
  obtain⟨k,⟨hk1,hk2⟩,rfl,ha,hx⟩:=hrel;obtain⟨hcc,hcf⟩:=hx.cells;have hz1:=hx.size;simp only[World.size_alloc] at hz1
  have hz2:w.heap.size<wr.heap.size:=by omega
  obtain⟨j,rfl⟩:∃ j,k=j+1:=⟨k-1,by omega⟩
  clear hk1 hz1
  by_cases hlt:j+1<xs.length
  · obtain ⟨b,off,y,v2,rfl,hb,hyk,hys,ht',hd0,hd1⟩:=jac.at_ (HV.out.ext hx) (k:=j) (by omega)
    obtain⟨b',off',x,v1,hbb,hb',hxk,hxs,ht,hc0,hc1⟩:=jac.at_ (HV.out.ext hx) hlt
    injection hbb with hbb
    injection hbb with e1 e2
    subst e1;subst e2;have HS:=zh (jm8 hyk hxk);have HC:=zh (fun (W:World) (h:Ext wr W)=>jld y x v2 v1 W (ht'.ext h) (ht.ext h));have hj0:(0:Int)≤(j:Int):=Int.natCast_nonneg _
    have hj1:(j:Int)<(xs.length:Int):=by omega
    have hj2:(j:Int)+1<(xs.length:Int):=by omega
    have hk2':=zh hk2;clear ht' ht hyk hxk hk2
    by_cases hcmp:cmpA y x<0
    · have HA:=zh (show ascTo xs (j+1+1)=true from by rw[HS.out,ha.out];unfold ltA;simp[hcmp])
      go_wp2_with fail
      refine jar (by kernel_rfl) (by kernel_rfl) ?_
      repeat (go_big_quiet_step ((go_at_call 133;exact jbg (HC.out _ (Later.ext _)))))
      refine wpQuiet_nil ?_;rintro w1 ⟨⟨_,hx1⟩,rfl⟩;go_wp2
      go_roundw
      case rel=>exact⟨j+1+1,⟨by omega,.inl (by omega)⟩,by go_num,HA,hx.trans' hx1⟩
      case measure=>simp[intOf];omega
    have HF:=zh (show ascB xs=false from jla (k:=j+1+1) (by rw[HS.out];unfold ltA;simp[hcmp]))
    go_wp2_with fail
    refine jar (by kernel_rfl) (by kernel_rfl) ?_
    repeat (go_big_quiet_step ((go_at_call 133;exact jbg (HC.out _ (Later.ext _)))))
    refine wpQuiet_nil ?_;rintro w1 ⟨⟨_,hx1⟩,rfl⟩;go_wp2;go_ret;exact⟨by rw[HF.out];rfl,((Ext.refl _).alloc _).trans' (hx.trans' hx1)⟩
  have HF:=zh (show ascB xs=true from by
    have h2:=ha.out;unfold ascTo at h2
    rwa [List.take_of_length_le (by omega)] at h2)
  clear hk2;go_wp2;go_ret;exact⟨by rw[HF.out];rfl,((Ext.refl _).alloc _).trans' hx⟩
theorem jfk (v:Value) (xs:List GA) (w:World) {S:Nat→Prop} (hv:jac S w v xs) :
  Calls Tryz.prog 79 #[v] w fun e w'=>e=.returned (.bool (jbe xs 300))∧Ext w w':=by
 obtain⟨A,c,rfl,hc1,hc2⟩:=jaa.form hv;have HV:=zh hv;clear hv
 by_cases h3:xs.length≤300
 · go_enter Tryz.func79,Tryz.ntmps79
   go_wp2
   go_loopw [10] (fun i wr=>∃ k:Nat,k≤xs.length∧i=.int .i64 k∧Hid ((xs.take k).all factB=true)∧Ext w wr) (fun i _=>xs.length-(intOf i).toNat)
   case atStart=>exact⟨0,Nat.zero_le _,rfl,rfl,Ext.refl _⟩
   case round =>
    obtain⟨k,hk,rfl,hp,hx⟩:=hrel
    by_cases hlt:k<xs.length
    · obtain ⟨b,off,x,v1,rfl,hb,hxk,hxs,ht,hc0,hc1⟩:=jac.at_ (HV.out.ext hx) hlt
      obtain⟨A1,c1,rfl,hq1,hq2⟩:=jaa.form ht;have HK:=zh hxk;have hw:=jai (jvd x _ (wr.alloc (.cells #[.string x.n,.slice A1 x.args.length c1] 43)) hxs (ht.ext ((Ext.refl _).alloc _)));clear hxk ht
      cases hf:factB x
      · have HF:=zh (show jbe xs 300=false from by unfold jbe;rw[jbf factB _ k x HK.out hf];rfl)
        have HW:=zh (hw.2 hf);clear hw hf
        go_wp2_with (go_at_call 136;refine HW.out.mono ?_;rintro e w1 ⟨rfl,hx1⟩)
        go_ret;exact⟨by rw[HF.out];rfl,(hx.alloc _).trans' hx1⟩
      have HP:=zh (show (xs.take (k+1)).all factB=true from by rw[jbo _ _ k x HK.out,hp.out,hf];rfl);have HW:=zh (hw.1 hf);clear hw hf
      go_wp2_with (go_at_call 136;refine HW.out.mono ?_;rintro e w1 ⟨rfl,hx1⟩)
      go_roundw
      case rel=>exact⟨k+1,by omega,by go_num,HP,(hx.alloc _).trans' hx1⟩
      case measure=>simp[intOf];omega
    have HF:=zh (show jbe xs 300=ascB xs from by
      unfold jbe;rw[jbm factB _ k hlt hp.out];simp[h3])
    go_wp2_with (first
     | (go_at_call 108;refine (jcz _ _ _ _).mono ?_;rintro e w1 ⟨rfl,hx1⟩)
     | (go_at_call 137;refine (jsg _ xs _ (HV.out.ext (hx.trans' hx1))).mono ?_;rintro e w2 ⟨rfl,hx2⟩))
    go_ret;exact⟨by rw[HF.out];rfl,(hx.trans' hx1).trans' hx2⟩
 have HF:=zh (show jbe xs 300=false from by unfold jbe;simp[h3])
 go_enter Tryz.func79,Tryz.ntmps79
 go_wp2;go_ret;exact⟨by rw[HF.out];rfl,Ext.refl _⟩
end Go.Proofs.YthdojieomhighaaGreatDoor
