/- Own texts, joined. -/
import Derived.Test.YthdojieomhighaaGreatDoorCas04
import Derived.Test.YthdojieomhighaaGreatDoorCas08
import Derived.Test.YthdojieomhighaaGreatDoorCas07
import Derived.Test.YthdojieomhighaaGreatDoorCas11
import Derived.Deep.DeepCutAuto
import Derived.BigQuiet
import Derived.Shelf.Strings.Builder1
import Derived.Shelf.Small.Bits
import Derived.Shelf.Small.Strs
import Derived.Shelf.Strings.BuilderF
import Derived.Shelf.Strings.BuilderK
import Derived.Shelf.Strconv.Itoa0
import Derived.Shelf.Sort.Plain
import Derived.Shelf.Strings.BuilderCap
import Derived.Shelf.Slices.CompactS
import Derived.Shelf.Slices.Cells
import Derived.Shelf.Slices.In.SortNone
import Derived.Ground.SlsfProg
import Derived.Shelf.SlSortCmp.Insertion
import Derived.Shelf.SlSortCmp.SiftDown1
import Derived.Shelf.SlSortCmp.HeapSort1
import Derived.Shelf.SlSortCmp.Insertion1
import Derived.Shelf.SlSortCmp.Median1
import Derived.Shelf.SlSortCmp.Pivot1
import Derived.Shelf.SlSortCmp.ReverseRange1
import Derived.Shelf.SlSortCmp.PartialInsertion1
import Derived.Shelf.SlSortCmp.PartitionEqual1
import Derived.Shelf.SlSortCmp.Partition1
import Derived.Shelf.SlSortCmp.Pdq1
import Derived.Shelf.SlSortCmp.Whole1
import Derived.Shelf.SlSortCmp.NoneTotal
import Derived.Test.YthdojieomhighaaGreatDoorProg
import Derived.Lib.SlicesCompact
import Derived.Sort.Walk0
import Derived.Lib.RowBridge
import Derived.Test.YthdojieomhighaaGreatDoorCas12
import Derived.Test.YthdojieomhighaaGreatDoorCas02
import Derived.Laws.StructEq
set_option linter.unusedSimpArgs false
set_option linter.unusedVariables false
set_option maxHeartbeats 4000000
set_option maxRecDepth 100000
namespace Go.Proofs.YthdojieomhighaaGreatDoor
open Go.RowKit
theorem j00 (x:ByteArray) (w:World):Calls Tryz.prog 262 #[.string x] w fun e w'=>e=.returned (.bool false)∧w'=w:=by
 have e:(!x.toList == x.toList)=false:=by simp
 go_enter Tryz.func262,Tryz.ntmps262;go_wp2;go_ret
 first
  | exact⟨rfl,rfl⟩
  | (refine⟨?_,rfl⟩;simp)
theorem ju0 (x y:ByteArray) (w:World):Calls Tryz.prog 228 #[.string x,.string y] w fun e w'=>e=.returned (.bool (Op.bytesLess x.toList y.toList))∧w'=w:=by
 have tok:True:=trivial
 go_enter Tryz.func228,Tryz.ntmps228;go_wp2_with (first|(go_at_call 262;refine (j00 _ _).mono ?_;rintro e w1 ⟨rfl,e1⟩;obtain rfl:w=w1:=e1.symm)|fail)
 go_ret;exact⟨rfl,rfl⟩
theorem jz9 {xs:List ByteArray} (ha:AscS xs) {i k:Nat} {s x:ByteArray} (hi:xs[i]? = some s) (hk:xs[k]? = some x):Op.bytesLess x.toList s.toList=decide (k<i):=by
 rw[jk4];obtain⟨h1,rfl⟩:=List.getElem?_eq_some_iff.1 hi;obtain⟨h2,rfl⟩:=List.getElem?_eq_some_iff.1 hk;rcases Nat.lt_trichotomy k i with h|h|h
 · rw[decide_eq_true h];exact List.pairwise_iff_getElem.1 ha k i h2 h1 h
 · subst h;rw[decide_eq_false (by omega)]
   exact jlm _
 rw[decide_eq_false (by omega)];have:=List.pairwise_iff_getElem.1 ha i k h1 h2 h
 cases hh:ltS xs[k] xs[i] with
 | false=>rfl
 | true=>have h3:=jga hh this;rw[jlm] at h3;cases h3
theorem jo9 (xs:List ByteArray) (v:Value) (s:ByteArray) (i:Nat) (w:World) {V:Nat→Prop} (h:StrsR V w v xs) (ha:AscS xs) (hi:xs[i]? = some s) (hl:xs.length≤4294967296) :
  Calls Tryz.prog 294 #[v,.string s] w fun e w'=>e=.returned (.tuple #[.int .i64 (i:Int),.bool true])∧w'=w:=by
 obtain⟨A,c,rfl,hc1,hc2⟩:=jaa.form h;have hil:i<xs.length:=(List.getElem?_eq_some_iff.1 hi).1;have HS:=zh h;have HA:=zh ha;have HI:=zh hi;clear h ha hi
 go_enter Tryz.func294,Tryz.ntmps294;go_wp2_with fail
 go_loopw [7,8,9] (fun a b m wr=>∃ lo hi:Nat,a=.int .i64 lo∧b=.int .i64 hi∧lo≤i∧i≤hi∧hi≤xs.length∧wr=w) (fun a b _ _=>(intOf b-intOf a).toNat)
 case atStart=>exact⟨0,xs.length,rfl,rfl,Nat.zero_le _,by omega,Nat.le_refl _,rfl⟩
 case round =>
  obtain⟨lo,hi,rfl,rfl,h1,h2,h3,rfl⟩:=hrel;by_cases hlt:lo<hi
  · have hlt1:(lo:Int)<(hi:Int):=by omega
    have hm1:(lo+hi) / 2<xs.length:=by omega
    obtain⟨b,o,x,rfl,hb,hx,_,hcell⟩:=StrsR.at_ HS.out hm1;have hls:=jz9 HA.out HI.out hx;by_cases hm:(lo+hi) / 2<i
    · rw [decide_eq_true hm] at hls
      have HM:=zh hm;have hm0:(((lo+hi) / 2:Nat):Int)=((lo:Int)+(hi:Int)) / 2:=by omega
      have HM0:=zh hm0;clear hm hm0;go_wp2_with (first|(go_at_call 228;refine (ju0 _ _ _).mono ?_;rintro e w1 ⟨rfl,e1⟩;obtain rfl:wr=w1:=e1.symm)|fail)
      have hm:=HM.out;have hm0:=HM0.out;go_roundw
      case rel=>exact⟨(lo+hi) / 2+1,hi,congrArg _ (by omega),rfl,by omega,h2,h3,trivial⟩
      case measure=>simp[intOf];omega
    rw[decide_eq_false hm] at hls;have HM:=zh hm;have hm0:(((lo+hi) / 2:Nat):Int)=((lo:Int)+(hi:Int)) / 2:=by omega
    have HM0:=zh hm0;clear hm hm0;go_wp2_with (first|(go_at_call 228;refine (ju0 _ _ _).mono ?_;rintro e w1 ⟨rfl,e1⟩;obtain rfl:wr=w1:=e1.symm)|fail)
    have hm:=HM.out;have hm0:=HM0.out;go_roundw
    case rel=>exact⟨lo,(lo+hi) / 2,rfl,congrArg _ (by omega),h1,by omega,by omega,trivial⟩
    case measure=>simp[intOf];omega
  have hlt1:¬ (lo:Int)<(hi:Int):=by omega
  obtain rfl:lo=hi:=by omega
  obtain rfl:lo=i:=by omega
  have hi1:(lo:Int)<(xs.length:Int):=by omega
  obtain⟨b,o,x,rfl,hb,hx,_,hcell⟩:=StrsR.at_ HS.out hil;obtain rfl:x=s:=Option.some.inj (hx.symm.trans HI.out);have e1:(x.toList == x.toList)=true:=by simp
  go_wp2_with fail
  go_ret2;exact⟨rfl,rfl⟩
end Go.Proofs.YthdojieomhighaaGreatDoor
namespace Go.Proofs
open Go.Shelf
def Tryz.lays190_ren:Go.Shelf.Ren:=⟨fun|190=>118|125=>168|258=>167|128=>231|129=>232|302=>222|303=>223|304=>224|305=>225|306=>226|307=>227|308=>228|309=>229|310=>230|333=>282|329=>283|330=>284|334=>285|335=>286|336=>262|344=>311|n=>n,fun|31=>54|9=>9|3=>3|46=>209|0=>0|51=>281|53=>283|4=>4|183=>274|182=>273|131=>168|5=>5|218=>337|222=>341|228=>377|229=>378|n=>n,fun|n=>n⟩
theorem Tryz.lays190:Go.Proofs.Lays.n190 Tryz.prog Tryz.lays190_ren:= {
 mixed:=by kernel_rfl
 f125:=Tryz.func168.trans (congrArg some (by kernel_rfl))
 f128:=Tryz.func231.trans (congrArg some (by kernel_rfl))
 f129:=Tryz.func232.trans (congrArg some (by kernel_rfl))
 f190:=Tryz.func118.trans (congrArg some (by kernel_rfl))
 f258:=Tryz.func167.trans (congrArg some (by kernel_rfl))
 f302:=Tryz.func222.trans (congrArg some (by kernel_rfl))
 f303:=Tryz.func223.trans (congrArg some (by kernel_rfl))
 f304:=Tryz.func224.trans (congrArg some (by kernel_rfl))
 f305:=Tryz.func225.trans (congrArg some (by kernel_rfl))
 f306:=Tryz.func226.trans (congrArg some (by kernel_rfl))
 f307:=Tryz.func227.trans (congrArg some (by kernel_rfl))
 f308:=Tryz.func228.trans (congrArg some (by kernel_rfl))
 f309:=Tryz.func229.trans (congrArg some (by kernel_rfl))
 f310:=Tryz.func230.trans (congrArg some (by kernel_rfl))
 f329:=Tryz.func283.trans (congrArg some (by kernel_rfl))
 f330:=Tryz.func284.trans (congrArg some (by kernel_rfl))
 f333:=Tryz.func282.trans (congrArg some (by kernel_rfl))
 f334:=Tryz.func285.trans (congrArg some (by kernel_rfl))
 f335:=Tryz.func286.trans (congrArg some (by kernel_rfl))
 f336:=Tryz.func262.trans (congrArg some (by kernel_rfl))
 f344:=Tryz.func311.trans (congrArg some (by kernel_rfl))
 t0:=Tryz.underlying0
 a0:=Tryz.isAgg0
 z0:=Tryz.sizeOf0
 v0:=Tryz.zeroValue0
 t3:=Tryz.underlying3
 a3:=Tryz.isAgg3
 z3:=Tryz.sizeOf3
 v3:=Tryz.zeroValue3
 t4:=Tryz.underlying4
 a4:=Tryz.isAgg4
 z4:=Tryz.sizeOf4
 v4:=Tryz.zeroValue4
 t5:=Tryz.underlying5
 a5:=Tryz.isAgg5
 z5:=Tryz.sizeOf5
 v5:=Tryz.zeroValue5
 t9:=Tryz.underlying9
 a9:=Tryz.isAgg9
 z9:=Tryz.sizeOf9
 v9:=Tryz.zeroValue9
 t31:=Tryz.underlying54
 a31:=Tryz.isAgg54
 z31:=Tryz.sizeOf54
 v31:=Tryz.zeroValue54
 t46:=Tryz.underlying209
 a46:=Tryz.isAgg209
 z46:=Tryz.sizeOf209
 v46:=Tryz.zeroValue209
 t51:=Tryz.underlying281
 a51:=Tryz.isAgg281
 z51:=Tryz.sizeOf281
 v51:=Tryz.zeroValue281
 t53:=Tryz.underlying283
 a53:=Tryz.isAgg283
 z53:=Tryz.sizeOf283
 v53:=Tryz.zeroValue283
 t131:=Tryz.underlying168
 a131:=Tryz.isAgg168
 z131:=Tryz.sizeOf168
 v131:=Tryz.zeroValue168
 t182:=Tryz.underlying273
 a182:=Tryz.isAgg273
 z182:=Tryz.sizeOf273
 v182:=Tryz.zeroValue273
 t183:=Tryz.underlying274
 a183:=Tryz.isAgg274
 z183:=Tryz.sizeOf274
 v183:=Tryz.zeroValue274
 t218:=Tryz.underlying337
 a218:=Tryz.isAgg337
 z218:=Tryz.sizeOf337
 v218:=Tryz.zeroValue337
 t222:=Tryz.underlying341
 a222:=Tryz.isAgg341
 z222:=Tryz.sizeOf341
 v222:=Tryz.zeroValue341
 t228:=Tryz.underlying377
 a228:=Tryz.isAgg377
 z228:=Tryz.sizeOf377
 v228:=Tryz.zeroValue377
 t229:=Tryz.underlying378
 a229:=Tryz.isAgg378
 z229:=Tryz.sizeOf378
 v229:=Tryz.zeroValue378 }
open Go.Sort Go.RowKit in
theorem Tryz.slices_Sort_string (blk off cap:Nat) (ss:List (List UInt8)) (w:World) (hH:Holds encStr w blk off ss.toArray) (hblk:blk<w.heap.size) (hsz:ss.length<4611686018427387904) :
 Calls Tryz.prog 118 #[.slice (some ⟨blk,off,none⟩) ss.length cap] w fun e w' =>
  e=.returned (.tuple #[])∧∃ n os,w'=grow (putRow encStr (Sort.ahead w n) blk off (ss.mergeSort fun x y=>decide (x≤y)).toArray) os:=Any.slices_Sort_string Tryz.lays190 blk off cap ss w hH hblk hsz
def Tryz.lays194_ren:Go.Shelf.Ren:=⟨fun|194=>119|n=>n,fun|31=>54|9=>9|3=>3|4=>4|0=>0|n=>n,fun|n=>n⟩
theorem Tryz.lays194:Go.Proofs.Lays.n194 Tryz.prog Tryz.lays194_ren:= {
 mixed:=by kernel_rfl
 f194:=Tryz.func119.trans (congrArg some (by kernel_rfl))
 t0:=Tryz.underlying0
 a0:=Tryz.isAgg0
 z0:=Tryz.sizeOf0
 v0:=Tryz.zeroValue0
 t3:=Tryz.underlying3
 a3:=Tryz.isAgg3
 z3:=Tryz.sizeOf3
 v3:=Tryz.zeroValue3
 t4:=Tryz.underlying4
 a4:=Tryz.isAgg4
 z4:=Tryz.sizeOf4
 v4:=Tryz.zeroValue4
 t9:=Tryz.underlying9
 a9:=Tryz.isAgg9
 z9:=Tryz.sizeOf9
 v9:=Tryz.zeroValue9
 t31:=Tryz.underlying54
 a31:=Tryz.isAgg54
 z31:=Tryz.sizeOf54
 v31:=Tryz.zeroValue54 }
open Go.RowKit Go.Lib Go.Sort in
theorem Tryz.slices_Compact_string (blk off cap:Nat) (zs:List (List UInt8)) (w:World) (hH:Holds encStr w blk off zs.toArray) (hsz:zs.length≤9223372036854775807) (hcap:zs.length≤cap) :
 Calls Tryz.prog 119 #[.slice (some ⟨blk,off,none⟩) zs.length cap] w fun e w'=>e=.returned (.slice (some ⟨blk,off,none⟩) (Lib.compact zs).length cap)∧∃ q,w'=putRow encStr (Sort.ahead w q) blk off (Lib.compact zs++List.replicate (zs.length-(Lib.compact zs).length) []).toArray:=Any.slices_Compact_string Tryz.lays194 blk off cap zs w hH hsz hcap
open Go.RowKit Go.Lib Go.Sort in
theorem Tryz.slices_Compact_string_empty (a:Option Addr) (cap:Nat) (w:World) :
 Calls Tryz.prog 119 #[.slice a 0 cap] w fun e w'=>e=.returned (.slice a 0 cap)∧w'=w:=Any.slices_Compact_string_empty Tryz.lays194 a cap w
open Go.RowKit Go.Sort in
theorem Tryz.slices_Sort_string_none (p:Option Addr) (cap:Nat) (w:World) :
 Calls Tryz.prog 118 #[.slice p 0 cap] w fun e w'=>e=.returned (.tuple #[])∧w'=w:=Any.slices_Sort_string_none Tryz.lays190 p cap w
end Go.Proofs
namespace Go.Proofs.YthdojieomhighaaGreatDoor
open Go.RowKit
def jb6 (ts:List GT):List ByteArray:=(ts.filter (·.v)).map (·.n)
def ja3 (ps:List GP):List ByteArray:=ps.flatMap fun p=>jb6 p.atom.args
theorem jgk {ps:List GP} {x:ByteArray}:x∈ja3 ps↔x∈varsN ps:=by
 rw[jfb];unfold ja3;rw[List.mem_flatMap];exact Iff.rfl
theorem jho (x y:List UInt8):x<y↔ltS (strOf x) (strOf y)=true:=by
 rw[← jk4,bytesLess_eq,decide_eq_true_iff,ByteArray.toList_eq,ByteArray.toList_eq];exact Iff.rfl
theorem jhp (x y:List UInt8):x≤y↔ltS (strOf y) (strOf x)=false:=by
 rw[← Bool.not_eq_true,← jho];exact Iff.rfl
theorem jyl {x y:List UInt8} (h:strOf x=strOf y):x=y:=by
 have:=congrArg (fun b:ByteArray=>b.data.toList) h;simpa [strOf] using this
theorem jhq {x y:List UInt8} (h:x≤y) (hn:x≠y):x<y:=by
 rw[jho];exact jp8 ((jhp x y).1 h) (fun e=>hn (jyl e).symm)
theorem jpa {x y z:List UInt8} (h:x≤y) (k:y≤z):x≤z:=by
 rw[jhp]
 cases hh:ltS (strOf z) (strOf x) with
 | false=>rfl
 | true =>
   by_cases e:y=z
   · subst e;rw[jhp] at h;rw[h] at hh;cases hh
   have h1:=(jho _ _).1 (jhq k e);have h2:=jga h1 hh;rw[jhp] at h;rw[h] at h2;cases h2
theorem jpb (x y:List UInt8):x≤y∨y≤x:=by
 rw[jhp,jhp]
 cases h1:ltS (strOf y) (strOf x) with
 | false=>exact .inl rfl
 | true =>
   refine .inr ?_
   cases h2:ltS (strOf x) (strOf y) with
   | false=>rfl
   | true=>have:=jga h1 h2;rw[jlm] at this;cases this
theorem jym {d:Array (List UInt8)} (hs:∀ i j,i≤j→j<d.size→d[i]! ≤d[j]!):∀ m,m≤d.size→(∀ x,x∈Lib.compactUpTo d m↔∃ j,j<m∧d[j]! = x)∧(Lib.compactUpTo d m).Pairwise (· < ·)
 | 0,_=>⟨fun x=>⟨fun h=>by simp[Lib.compactUpTo] at h,fun ⟨j,h,_⟩=>absurd h (Nat.not_lt_zero _)⟩,by simp[Lib.compactUpTo]⟩
 | m + 1, hm=>by
   obtain⟨h1,h2⟩:=jym hs m (by omega);rw[Lib.compactUpTo_succ];by_cases hk:Lib.keeps d m=true
   · rw [if_pos hk]
     refine⟨fun x=>?_,?_⟩
     · rw [List.mem_append,h1,List.mem_singleton]
       constructor
       · rintro (⟨j,hj,rfl⟩|rfl)
         · exact⟨j,by omega,rfl⟩
         exact⟨m,by omega,rfl⟩
       rintro ⟨j,hj,rfl⟩;by_cases e:j=m
       · subst e;exact .inr rfl
       exact .inl ⟨j,by omega,rfl⟩
     refine List.pairwise_append.2 ⟨h2,List.pairwise_singleton _ _,fun a ha b hb=>?_⟩;obtain⟨j,hj,rfl⟩:=(h1 a).1 ha;rw[List.mem_singleton] at hb;subst hb
     have hne:d[m]! ≠d[m-1]! :=by
      unfold Lib.keeps at hk;rcases of_decide_eq_true hk with h0|h0
      · omega
      exact h0
     have a1:=hs j (m-1) (by omega) (by omega);have a2:=jhq (hs (m-1) m (by omega) (by omega)) (fun e=>hne e.symm);by_cases e:d[j]! = d[m-1]!
     · rw[e];exact a2
     exact (jho _ _).2 (jga ((jho _ _).1 (jhq a1 e)) ((jho _ _).1 a2))
   have hk':Lib.keeps d m=false:=by simpa using hk
   rw[if_neg hk,List.append_nil];refine⟨fun x=>?_,h2⟩;rw[h1]
   constructor
   · rintro ⟨j,hj,rfl⟩;exact⟨j,by omega,rfl⟩
   rintro ⟨j,hj,rfl⟩;by_cases e:j=m
   · subst e
     unfold Lib.keeps at hk';have h0:=of_decide_eq_false hk';have h3:j≠0:=fun e=>h0 (.inl e)
     have h4:d[j]! = d[j-1]! :=Classical.byContradiction fun e=>h0 (.inr e)
     exact⟨j-1,by omega,h4.symm⟩
   exact⟨j,by omega,rfl⟩
def sortW (zs:List (List UInt8)):List (List UInt8):=zs.mergeSort fun x y=>decide (x≤y)
theorem jro (zs:List (List UInt8)):(sortW zs).Pairwise fun x y=>x≤y:=by
 have h:=List.pairwise_mergeSort (le:=fun x y:List UInt8=>decide (x≤y)) (fun a b c h1 h2=>decide_eq_true (jpa (of_decide_eq_true h1) (of_decide_eq_true h2)))
  (fun a b=>by rcases jpb a b with h|h<;>simp[h]) zs
 exact h.imp fun h=>of_decide_eq_true h
theorem jmy (zs:List (List UInt8)):(∀ x,x∈Lib.compact (sortW zs)↔x∈zs)∧(Lib.compact (sortW zs)).Pairwise (· < ·):=by
 have hs:∀ i j,i≤j→j<(sortW zs).toArray.size→(sortW zs).toArray[i]! ≤(sortW zs).toArray[j]! :=by
  intro i j hij hj;have hj':j<(sortW zs).length:=by simpa using hj
  have hi':i<(sortW zs).length:=by omega
  have e1:(sortW zs).toArray[i]! = (sortW zs)[i]:=by simp[getElem!_pos,hi']
  have e2:(sortW zs).toArray[j]! = (sortW zs)[j]:=by simp[getElem!_pos,hj']
  rw[e1,e2];by_cases e:i=j
  · subst e;rw[jhp];exact jlm _
  exact List.pairwise_iff_getElem.1 (jro zs) i j hi' hj' (by omega)
 obtain⟨h1,h2⟩:=jym hs (sortW zs).length (by simp);refine⟨fun x=>?_,h2⟩;have h3:x∈Lib.compact (sortW zs)↔_:=h1 x;have hp:x∈sortW zs↔x∈zs:=(List.mergeSort_perm zs fun x y=>decide (x≤y)).mem_iff;rw[h3,← hp];have e:∀ j (hj:j<(sortW zs).length),(sortW zs).toArray[j]! = (sortW zs)[j]:=fun j hj=>by simp[getElem!_pos,hj]
 constructor
 · rintro ⟨j,hj,rfl⟩
   rw[e j hj];exact List.getElem_mem hj
 intro hx;obtain⟨j,hj,rfl⟩:=List.getElem_of_mem hx;exact⟨j,hj,e j hj⟩
theorem jrp (ps:List GP):(Lib.compact (sortW ((ja3 ps).map fun s=>s.data.toList))).map strOf=varsN ps:=by
 obtain⟨h1,h2⟩:=jmy ((ja3 ps).map fun s=>s.data.toList);refine jxf jvn ?_ ((jgf ps).imp fun h=>of_decide_eq_true h) (fun x=>?_)
 · refine List.pairwise_map.2 (h2.imp fun {a b} h=>?_)
   exact of_decide_eq_true ((jho a b).1 h)
 rw[List.mem_map,← jgk]
 constructor
 · rintro ⟨y,hy,rfl⟩
   obtain⟨s,hs,rfl⟩:=List.mem_map.1 ((h1 y).1 hy);exact hs
 intro hx;exact⟨x.data.toList,(h1 _).2 (List.mem_map.2 ⟨x,hx,rfl⟩),rfl⟩
theorem jpc {ts:List GT} {k:Nat} {t:GT} (h:ts[k]? = some t):jb6 (ts.take (k+1))=jb6 (ts.take k)++(if t.v=true then [t.n] else []):=by
 unfold jb6;rw[List.take_add_one,h,List.filter_append,List.map_append];cases hv:t.v<;>simp[hv]
theorem jpd {ps:List GP} {k:Nat} {p:GP} (h:ps[k]? = some p):ja3 (ps.take (k+1))=ja3 (ps.take k)++jb6 p.atom.args:=by
 unfold ja3;rw[List.take_add_one,h,List.flatMap_append];simp
theorem jio (ts:List GT):(jb6 ts).length≤ts.length:=by
 unfold jb6;rw[List.length_map];exact List.length_filter_le _ _
theorem jfv:∀ (ps:List GP),(∀ p∈ps,p.atom.args.length≤1000)→(ja3 ps).length≤1000*ps.length
 | [],_=>by simp[ja3]
 | p :: ps,h=>by
   have h1:=jfv ps (fun q hq=>h q (List.mem_cons_of_mem _ hq));have h2:=jio p.atom.args;have h3:=h p List.mem_cons_self;have e:ja3 (p :: ps)=jb6 p.atom.args++ja3 ps:=by simp[ja3]
   rw[e,List.length_append,List.length_cons];omega
theorem OwnK.row {base:Nat} {e:TypeId} {S:Nat→Prop} {w:World} {v:Value} {xs:List ByteArray} (h:OwnK kStr base e S w v xs) (hne:xs≠ []) :
  ∃ g cap,v=.slice (some ⟨g,0,none⟩) xs.length cap∧base≤g∧g<w.heap.size∧xs.length≤cap∧cap≤maxLen∧Sort.Holds encStr w g 0 (xs.map fun s=>s.data.toList).toArray:=by
 have hl:StrsR Any w v xs:=h.list (S':=Any) (fun _ _=>trivial) (fun _ _=>trivial);obtain⟨rows,T,h1,h2,_⟩:=h;rcases h1.2 with ⟨rfl,h0⟩|⟨g,cap,cur,rfl,hb,hg,hc1,hc2,hsz,htk⟩
 · exact absurd (List.length_eq_zero_iff.1 h0) hne
 have hlt:g<w.heap.size:=(Array.getElem?_eq_some_iff.1 hg).1;refine⟨g,cap,rfl,hb,hlt,hc1,hc2,fun j hj=>⟨?_,by simp[World.frozen?,hg]⟩⟩;have hj':j<xs.length:=by simpa using hj
 obtain⟨b,off,x,hA,_,hx,_,hc⟩:=StrsR.at_ hl hj';cases hA
 obtain⟨hj2,rfl⟩:=List.getElem?_eq_some_iff.1 hx;rw[hc];simp[getElem!_pos,hj']
theorem jpe {B g cap:Nat} {w:World} {cs more:List (List UInt8)} (hH:Sort.Holds encStr w g 0 (cs++more).toArray) (hg:B≤g∧g<w.heap.size) (hc:cs.length≤cap∧cap≤maxLen) (hs:∀ x∈cs.map strOf,x.size≤maxLen) :
  StrsR (From B) w (.slice (some ⟨g,0,none⟩) cs.length cap) (cs.map strOf):=by
 refine⟨some ⟨g,0,none⟩,cap,by rw[List.length_map],by rw[List.length_map];exact hc.1,hc.2,fun _=>⟨g,0,rfl,hg.2,hg.1,fun i x hx=>⟨[.string x],rfl,fun j u hu=>?_,rfl,hs x (List.mem_of_getElem? hx)⟩⟩⟩
 have hj:j=0:=by
  cases j with
  | zero=>rfl
  | succ j=>simp at hu
 subst hj;simp only[List.getElem?_cons_zero,Option.some.injEq] at hu;subst hu;obtain⟨hi,rfl⟩:=List.getElem?_eq_some_iff.1 hx;have hi':i<cs.length:=by simpa using hi
 have h1:=(hH i (by simp;omega)).1;have e:(cs++more).toArray[i]! = cs[i]:=by simp[getElem!_pos,List.getElem_append_left hi',show i<cs.length+more.length by omega]
 rw[e] at h1;rw[show 0+(i*1+0)=0+i by omega,h1,List.getElem_map]
 rfl
theorem jn5 {w wr:World} (hx:Ext w wr) {g n:Nat} (hg:w.heap.size≤g) (d:Array (List UInt8)) (os:Array Obj):Ext w (Sort.grow (Sort.putRow encStr (Sort.ahead wr n) g 0 d) os):=by
 refine⟨hx.os,hx.tape,hx.output,?_,fun k hk=>?_⟩
 · have:=hx.size
   rw[Sort.size_grow,Sort.size_putRow];show _≤wr.heap.size+_;omega
 have h1:=hx.size;rw[Sort.heap_grow_old _ _ (by rw[Sort.size_putRow];show k<wr.heap.size;omega),← hx.block k hk];show ((Sort.ahead wr n).heap.modify g _)[k]? = _;rw[Array.getElem?_modify,if_neg (by omega)]
 rfl
theorem jrq (ps:List GP) (u:Value) (w:World) {S:Nat→Prop} (hu:jao S w u ps) (hps:∀ p∈ps,p.atom.args.length≤1000) (hpl:ps.length≤4) :
  Calls Tryz.prog 59 #[u] w fun e w'=>(∃ v',e=.returned v'∧StrsR (From w.heap.size) w' v' (varsN ps))∧Ext w w':=by
 obtain⟨B,d,rfl,hd1,hd2⟩:=jaa.form hu;obtain⟨i0,hi0⟩:∃ i,Tryz.prog.info? 9=some i:=⟨_,by rfl⟩
 have hz0:i0.zero=some (.string ⟨#[]⟩):=by have:=hi0;revert this;intro h;cases h;rfl
 have hz1:i0.size=1:=by have:=hi0;revert this;intro h;cases h;rfl
 have hz2:i0.bytes=16:=by have:=hi0;revert this;intro h;cases h;rfl
 have HU:=zh hu;have HPS:=zh hps;clear hu hps
 go_enter Tryz.func59,Tryz.ntmps59;go_wp2;go_loopw [3,10] (fun o i wr=>∃ k:Nat,k≤ps.length∧i=.int .i64 k∧Hid (OwnK kStr w.heap.size 9 None wr o (ja3 (ps.take k)))∧Ext w wr) (fun _ i _=>ps.length-(intOf i).toNat)
 case atStart=>exact⟨0,Nat.zero_le _,rfl,zh OwnK.nil,Ext.refl _⟩
 case round =>
  obtain⟨k,hk,rfl,ho,hx⟩:=hrel;have hk0:(0:Int)≤(k:Int):=by omega
  by_cases hlt:k<ps.length
  · have hk1:(k:Int)<(ps.length:Int):=by omega
    obtain⟨bp,op,p,vp,rfl,hbp,hpk,hpn,hpt,hp0,hp1,hp2⟩:=jao.at_ HU.out hlt;obtain⟨G,cg,rfl,hcg1,hcg2⟩:=jaa.form hpt;have r0:=(hx.cells.1 bp (op+k*3) hbp).trans hp0;have r1:=(hx.cells.1 bp (op+k*3+1) hbp).trans hp1;have r2:=(hx.cells.1 bp (op+k*3+2) hbp).trans hp2;have HST:=zh (jpd hpk);have HPT:=zh hpt;have HAR:=zh (HPS.out p (List.mem_of_getElem? hpk))
    have HFL:=zh (show (ja3 (ps.take k)).length≤4000 from by
     have h1:=jfv (ps.take k) (fun q hq=>HPS.out q (List.mem_of_mem_take hq));rw[List.length_take] at h1;omega)
    clear hp0 hp1 hp2 hpk hpt;go_wp2
    rename World=>w0
    go_loopw [3,18] (fun o i wz=>∃ r:Nat,r≤p.atom.args.length∧i=.int .i64 r∧Hid (OwnK kStr w.heap.size 9 None wz o (ja3 (ps.take k)++jb6 (p.atom.args.take r)))∧Ext w wz) (fun _ i _=>p.atom.args.length-(intOf i).toNat)
    case atStart=>exact⟨0,Nat.zero_le _,rfl,zh (by rw[show jb6 (p.atom.args.take 0)=[] from rfl,List.append_nil];exact ho.out.alloc _),hx.alloc _⟩
    case round =>
     obtain⟨r,hr,rfl,hor,hxr⟩:=hrel;have hr0:(0:Int)≤(r:Int):=by omega
     by_cases hlr:r<p.atom.args.length
     · have hr1:(r:Int)<(p.atom.args.length:Int):=by omega
       obtain⟨bt,ot,t,rfl,hbt,htk,htn,ht0,ht1⟩:=jae.at_ (HPT.out.ext hxr) hlr;have HTV:=zh (jpc htk)
       have HLR:=zh (show (ja3 (ps.take k)++jb6 (p.atom.args.take r)).length≤5000 from by
        have h1:=jio (p.atom.args.take r);have h2:=HFL.out;have h3:=HAR.out;rw[List.length_take] at h1;rw[List.length_append];omega)
       clear htk;rcases Bool.eq_false_or_eq_true t.v with hv|hv
       · rw [hv] at ht0
         have HT:=zh (show ja3 (ps.take k)++jb6 (p.atom.args.take (r+1))=(ja3 (ps.take k)++jb6 (p.atom.args.take r))++[t.n] from by rw[HTV.out,if_pos hv,List.append_assoc]);have HOW:=zh (show ∀ o1 o2,OwnK kStr w.heap.size 9 None ((wr.alloc o1).alloc o2) _ (ja3 (ps.take k)++jb6 (p.atom.args.take r)) from fun o1 o2=>(hor.out.alloc o1).alloc o2);have hw0:w.heap.size≤wr.heap.size:=hxr.size;clear hv HTV;go_wp2_with (at_builtin;go_loud (refine jd9 (k:=kStr) (S:=None) (T:=None) (base:=w.heap.size) (xs:=ja3 (ps.take k)++jb6 (p.atom.args.take r)) (ys:=[t.n]) rfl (.tmp 24) (.tmp 27) 54 (by rfl) i0 _ 16 Tryz.underlying54 hi0 hz0 hz1 hz2 (by rfl) (by rfl) (HOW.out _ _) _ 1 1 (by rfl) (jas.one (k:=kStr) (x:=t.n) (l:=[.string t.n]) (Blk.at_new (by simp)) ⟨rfl,htn⟩) (fun _ h=>h.elim) (maxOf (by have:=HLR.out;simp only[List.length_append,List.length_cons,List.length_nil] at this ⊢;omega)) (by have:=HLR.out;omega) (by go_size) ?_;intro v6 w6 hap))
         go_roundw
         case rel=>exact⟨r+1,by omega,by go_num,zh (by rw[HT.out];exact hap.own),hap.toExt ((hxr.alloc _).alloc _) (Nat.le_refl _)⟩
         case measure=>simp[intOf];omega
       rw[hv] at ht0;have HT:=zh (show ja3 (ps.take k)++jb6 (p.atom.args.take (r+1))=ja3 (ps.take k)++jb6 (p.atom.args.take r) from by rw[HTV.out,hv];simp);clear hv HTV;go_wp2;go_roundw
       case rel=>exact⟨r+1,by omega,by go_num,zh (by rw[HT.out];exact hor.out.alloc _),hxr.alloc _⟩
       case measure=>simp[intOf];omega
     have HE:=zh (show ja3 (ps.take (k+1))=ja3 (ps.take k)++jb6 (p.atom.args.take r) from by rw[HST.out,List.take_of_length_le (l:=p.atom.args) (i:=r) (by omega)]);go_wp2;go_roundw
     case rel=>exact⟨k+1,by omega,by go_num,zh (by rw[HE.out];exact hor.out),hxr⟩
     case measure=>simp[intOf];omega
  have HE:=zh (show ps.take k=ps from List.take_of_length_le (by omega));have h1:=ho.out;rw[HE.out] at h1;have hsm:∀ x∈varsN ps,x.size≤maxLen:=fun x hx'=>jno (h1.list (S':=Any) (fun _ _=>trivial) (fun _ _=>trivial)) x (jgk.2 hx')
  have hlen:(ja3 ps).length≤4000:=by
   have:=jfv ps HPS.out;omega
  by_cases hne:ja3 ps=[]
  · have hv:varsN ps=[]:=by
      apply List.eq_nil_iff_forall_not_mem.2
      intro x hx';have:=jgk.2 hx';rw[hne] at this;cases this
    rw[hne] at h1;obtain⟨A,c,rfl,hc1,hc2⟩:=h1.form;have HV:=zh hv;clear h1 hne hv hsm;go_wp2_with (first|(go_at_call 118;refine (Tryz.slices_Sort_string_none _ _ _).mono ?_;rintro e w1 ⟨rfl,e1⟩;obtain rfl:wr=w1:=e1.symm)|(go_at_call 119;refine (Tryz.slices_Compact_string_empty _ _ _).mono ?_;rintro e w2 ⟨rfl,e2⟩;obtain rfl:wr=w2:=e2.symm)|fail)
    go_ret;exact⟨⟨_,rfl,by rw[HV.out];exact⟨A,c,rfl,Nat.zero_le _,hc2,fun h=>absurd h (Nat.lt_irrefl 0)⟩⟩,hx⟩
  obtain⟨g,cap,rfl,hg1,hg2,hc1,hc2,hH⟩:=OwnK.row h1 hne;obtain⟨zs,hzs⟩:∃ zs,zs=(ja3 ps).map fun s=>s.data.toList:=⟨_,rfl⟩
  have hzl:zs.length=(ja3 ps).length:=by rw[hzs,List.length_map]
  have hsl:(sortW zs).length=zs.length:=List.length_mergeSort zs;rw[← hzs] at hH;have HSO:=zh (Tryz.slices_Sort_string g 0 cap zs wr hH hg2 (by omega))
  have HW1:=zh (fun (q:Nat) (os:Array Obj)=>show Sort.Holds encStr (Sort.grow (Sort.putRow encStr (Sort.ahead wr q) g 0 (sortW zs).toArray) os) g 0 (sortW zs).toArray from
   Sort.holds_grow _ _ _ _ _ _ (by rw[Sort.size_putRow];exact hg2) (Sort.holds_putRow _ _ _ _ zs.toArray _ (Sort.holds_ahead _ _ _ _ _ _ hH) (by simp[hsl])))
  have HCO:=zh (fun (W:World) (hW:Sort.Holds encStr W g 0 (sortW zs).toArray)=>Tryz.slices_Compact_string g 0 cap (sortW zs) W hW (by omega) (by omega));have HX1:=zh (fun (q:Nat) (os:Array Obj)=>jn5 (n:=q) hx hg1 (sortW zs).toArray os);rw[hsl,hzl] at HCO;rw[hzl] at HSO;have HCV:=zh (show (Lib.compact (sortW zs)).map strOf=varsN ps from by rw[hzs];exact jrp ps);have HCL:=zh (Lib.compact_length_le (sortW zs));have HZ:=zh (show (sortW zs).length≤cap∧(sortW zs).length=(ja3 ps).length from⟨by omega,by omega⟩);have HSM:=zh hsm;have HG:=zh hg2;clear h1 hne hsm hH hzs hzl hsl;go_wp2_with (first|(go_at_call 118;refine HSO.out.mono ?_;rintro e w1 ⟨rfl,q1,os1,e1⟩;have HE1:=zh e1;clear e1;have HH1:=zh (HE1.out▸HW1.out q1 os1))|(go_at_call 119;refine (HCO.out _ HH1.out).mono ?_;rintro e w2 ⟨rfl,q2,e2⟩;have HE2:=zh e2;clear e2)|fail)
  go_ret;have hx1:Ext w w1:=by rw[HE1.out];exact HX1.out q1 os1
  have hx2:Ext w w2:=by
   have:=jn5 (n:=q2) hx1 hg1 (Lib.compact (sortW zs)++List.replicate ((ja3 ps).length-(Lib.compact (sortW zs)).length) []).toArray #[];rw[Sort.grow_empty] at this;rw[HE2.out];exact this
  have hgw:g<w2.heap.size:=by
   rw[HE2.out,Sort.size_putRow];show g<w1.heap.size;rw[HE1.out,Sort.size_grow,Sort.size_putRow];have:=HG.out;show g<wr.heap.size+_;omega
  have hh2:Sort.Holds encStr w2 g 0 (Lib.compact (sortW zs)++List.replicate ((ja3 ps).length-(Lib.compact (sortW zs)).length) []).toArray:=by
   rw[HE2.out];refine Sort.holds_putRow _ _ _ _ (sortW zs).toArray _ (Sort.holds_ahead _ _ _ _ _ _ HH1.out) ?_;have h1:=HCL.out;have h2:=HZ.out.2;simp;omega
  refine⟨⟨_,rfl,?_⟩,hx2⟩;rw[← HCV.out];exact jpe hh2 ⟨hg1,hgw⟩ ⟨Nat.le_trans HCL.out HZ.out.1,hc2⟩ (by rw[HCV.out];exact HSM.out)
def isT (x y:GT):Bool:=decide (y.v=x.v∧y.n=x.n)
def hasT (xs:List GT) (x:GT):Bool:=xs.any (isT x)
def notT (x y:GT):Bool:= !isT x y
theorem j0a (xs:List GT) (x:GT):hasT xs x = !xs.all (notT x):=by
 unfold hasT notT
 induction xs with
 | nil=>rfl
 | cons y xs ih=>rw[List.any_cons,List.all_cons,ih];cases isT x y<;>rfl
theorem j1i (x y:GT):isT x y=((x.v == y.v) && (x.n.toList == y.n.toList)):=by
 unfold isT;cases h:x.v == y.v
 · have:¬ y.v=x.v:=fun e=>by rw[e] at h;simp at h
   simp[this]
 have e:y.v=x.v:=(eq_of_beq h).symm;by_cases h2:y.n=x.n
 · simp[e,h2]
 have:(x.n.toList == y.n.toList)=false:=jdg (fun e=>h2 e.symm);simp[this,h2]
theorem j01 (x y:GT) (w:World):(binOp .eql 60 (.agg #[.bool x.v,.string x.n]) (.agg #[.bool y.v,.string y.n])).run Tryz.prog w=.ok (.bool (isT x y)) w:=by
 rw[j1i];have hu:Tryz.prog.underlying 60=some (.struct (Tryz.prog.fieldsOf 60)):=by kernel_rfl
 rw[run_eql_struct,run_equalIn_struct _ 9999 _ _ _ hu (by kernel_rfl)];simp[Program.fieldsOf,Tryz.underlying60,Op.eqFields,go_sem];by_cases h1:x.v=y.v<;>by_cases h2:x.n.toList=y.n.toList<;>simp[h1,h2]
theorem jwb (x y:GT) (p q:Operand) (w:World):(eqGuard .eql 60 p q (.agg #[.bool x.v,.string x.n]) (.agg #[.bool y.v,.string y.n])).run Tryz.prog w=.ok () w:=run_eqGuard_agg _ _ _ _ _ _ _ (by kernel_rfl)
theorem jip (v:Value) (xs:List GT) (x:GT) (w:World) {S:Nat→Prop} (hv:jae S w v xs) :
  Calls Tryz.prog 310 #[v,.agg #[.bool x.v,.string x.n]] w fun e w'=>(∃ z:Int,e=.returned (.int .i64 z)∧(xs.all (notT x)=true→z<0)∧(xs.all (notT x)=false→0≤z))∧Ext w w':=by
 obtain⟨A,c,rfl,hc1,hc2⟩:=jaa.form hv;have HV:=zh (hv.ext ((Ext.refl w).alloc (.cells #[.bool x.v,.string x.n] 60)));have HB:=zh (Blk.new w 60 #[.bool x.v,.string x.n]);clear hv
 go_enter Tryz.func310,Tryz.ntmps310;go_wp2;go_loopw [8] (fun i wr=>∃ k:Nat,k≤xs.length∧i=.int .i64 k∧Hid ((xs.take k).all (notT x)=true)∧Ext (w.alloc (.cells #[.bool x.v,.string x.n] 60)) wr) (fun i _=>xs.length-(intOf i).toNat)
 case atStart=>exact⟨0,Nat.zero_le _,rfl,rfl,Ext.refl _⟩
 case round =>
  obtain⟨k,hk,rfl,hp,hx⟩:=hrel;by_cases hlt:k<xs.length
  · obtain ⟨b,off,y,rfl,hb,hxk,hxs,hc0,hc1⟩:=jae.at_ (HV.out.ext hx) hlt
    have hb1:=HB.out.ext hx;have q0:=hb1.cell 0;have q1:=hb1.cell 1;have hk0:(0:Int)≤(k:Int):=Int.natCast_nonneg _;have hk1:(k:Int)<(xs.length:Int):=by omega
    clear hb1;have he:=j01 x y;have hg:=jwb x y;have HK:=zh hxk;clear hxk;cases ht:isT x y
    · have HP:=zh (show (xs.take (k+1)).all (notT x)=true from by rw[jbo _ _ k y HK.out,hp.out];unfold notT;rw[ht];rfl)
      rw[ht] at he;clear ht;go_wp2_with fail
      go_quiet (fail)
      go_wp2;go_roundw
      case rel=>exact⟨k+1,by omega,by go_num,HP,hx.drewN _⟩
      case measure=>simp[intOf];omega
    have HZ:=zh (jbf (notT x) _ k y HK.out (by unfold notT;rw[ht];rfl));rw[ht] at he;clear ht;go_wp2_with fail
    go_quiet (fail)
    go_wp2;go_ret;exact⟨⟨k,rfl,fun h=>(by rw[HZ.out] at h;cases h),fun _=>Int.natCast_nonneg _⟩,((Ext.refl _).alloc _).trans' (hx.drewN _)⟩
  have HZ:=zh (jbm _ _ k hlt hp.out);go_wp2;go_ret;exact⟨⟨-1,rfl,fun _=>by decide,fun h=>(by rw[HZ.out] at h;cases h)⟩,((Ext.refl _).alloc _).trans' hx⟩
theorem jkw (v:Value) (xs:List GT) (x:GT) (w:World) {S:Nat→Prop} (hv:jae S w v xs) :
  Calls Tryz.prog 281 #[v,.agg #[.bool x.v,.string x.n]] w fun e w'=>e=.returned (.bool (hasT xs x))∧Ext w w':=by
 obtain⟨A,c,rfl,hc1,hc2⟩:=jaa.form hv;have HV:=zh (hv.ext ((Ext.refl w).alloc (.cells #[.bool x.v,.string x.n] 60)));rw[j0a];clear hv;cases ha:xs.all (notT x)
 · have HA:=zh ha
   clear ha
   go_enter Tryz.func281,Tryz.ntmps281;go_wp2_with (go_at_call 310;refine (jip _ xs x _ HV.out).mono ?_;rintro e w1 ⟨⟨z,rfl,h1,h2⟩,hx1⟩;have hz:=h2 HA.out;clear h1 h2)
   go_ret;exact⟨ja6 (by first|(simp;done)|(simp;omega)),((Ext.refl _).alloc _).trans' hx1⟩
 have HA:=zh ha;clear ha
 go_enter Tryz.func281,Tryz.ntmps281;go_wp2_with (go_at_call 310;refine (jip _ xs x _ HV.out).mono ?_;rintro e w1 ⟨⟨z,rfl,h1,h2⟩,hx1⟩;have hz:=h1 HA.out;clear h1 h2)
 go_ret;exact⟨ja6 (by first|(simp;done)|(simp;omega)),((Ext.refl _).alloc _).trans' hx1⟩
theorem jyn (xs:List GT) (x:ByteArray):hasT xs ⟨true,x⟩=memS x ((xs.filter (·.v)).map (·.n)):=by
 unfold hasT memS
 induction xs with
 | nil=>rfl
 | cons y xs ih =>
   rw[List.any_cons,ih,List.filter_cons];obtain⟨b,n⟩:=y;cases b
   · simp[isT]
   simp[isT]
def jrr (x:ByteArray) (p:GP):Bool:= !p.no && memS x (jc2 p.atom)
def freeP (x:ByteArray) (p:GP):Bool:= !jrr x p
theorem jwc (body:List GP) (x:ByteArray):jcb body x = !body.all (freeP x):=by
 unfold jcb freeP
 induction body with
 | nil=>rfl
 | cons y xs ih=>rw[List.any_cons,List.all_cons,ih,show (!y.no && memS x (jc2 y.atom))=jrr x y from rfl];cases jrr x y<;>rfl
theorem jtc (v:Value) (body:List GP) (x:ByteArray) (w:World) {S:Nat→Prop} (hv:jao S w v body) :
  Calls Tryz.prog 220 #[v,.string x] w fun e w'=>e=.returned (.bool (jcb body x))∧Ext w w':=by
 obtain⟨A,c,rfl,hc1,hc2⟩:=jaa.form hv;have HV:=zh hv;clear hv;rw[jwc]
 go_enter Tryz.func220,Tryz.ntmps220;go_wp2;go_loopw [9] (fun i wr=>∃ k:Nat,k≤body.length∧i=.int .i64 k∧Hid ((body.take k).all (freeP x)=true)∧Ext w wr) (fun i _=>body.length-(intOf i).toNat)
 case atStart=>exact⟨0,Nat.zero_le _,rfl,rfl,Ext.refl _⟩
 case round =>
  obtain⟨k,hk,rfl,hp,hx⟩:=hrel;by_cases hlt:k<body.length
  · obtain ⟨b,off,y,z,rfl,hb,hxk,hxs,htx,p0,p1,p2⟩:=jao.at_ (HV.out.ext hx) hlt
    obtain⟨C,e,rfl,he1,he2⟩:=jaa.form htx;have HK:=zh hxk;have HW:=zh (jkw _ y.atom.args ⟨true,x⟩ _ (htx.ext ((Ext.refl wr).alloc (.cells #[.bool y.no,.string y.atom.n,.slice C y.atom.args.length e] 112))));clear hxk htx;cases hno:y.no
    · cases hm:memS x (jc2 y.atom)
      · have hw:=(jai HW.out).2 (by rw[jyn];exact hm)
        have HP:=zh (show (body.take (k+1)).all (freeP x)=true from by rw[jbo _ _ k y HK.out,hp.out];unfold freeP jrr;rw[hno,hm];rfl);rw[hno] at p0 hw;have HW1:=zh hw;clear hw HW;go_wp2_with (go_at_call 281;refine HW1.out.mono ?_;rintro e w1 ⟨rfl,hx1⟩)
        go_roundw
        case rel=>exact⟨k+1,by omega,by go_num,HP,(hx.alloc _).trans' hx1⟩
        case measure=>simp[intOf];omega
      have hw:=(jai HW.out).1 (by rw[jyn];exact hm);have HZ:=zh (jbf (freeP x) _ k y HK.out (by unfold freeP jrr;rw[hno,hm];rfl));rw[hno] at p0 hw;have HW1:=zh hw;clear hw HW;go_wp2_with (go_at_call 281;refine HW1.out.mono ?_;rintro e w1 ⟨rfl,hx1⟩)
      go_ret;exact⟨by rw[HZ.out];rfl,(hx.alloc _).trans' hx1⟩
    have HP:=zh (show (body.take (k+1)).all (freeP x)=true from by rw[jbo _ _ k y HK.out,hp.out];unfold freeP jrr;rw[hno];rfl);rw[hno] at p0;clear HW;go_wp2;go_roundw
    case rel=>exact⟨k+1,by omega,by go_num,HP,hx.alloc _⟩
    case measure=>simp[intOf];omega
  have HZ:=zh (jbm _ _ k hlt hp.out);go_wp2;go_ret;exact⟨by rw[HZ.out];rfl,hx⟩
def jiq (body:List GP) (t:GT):Bool:= !t.v || jcb body t.n
theorem j0b (body:List GP) (a:GA):(jc2 a).all (jcb body)=a.args.all (jiq body):=by
 unfold jc2 jiq
 induction a.args with
 | nil=>rfl
 | cons y xs ih =>
   rw[List.all_cons,← ih,List.filter_cons];cases y.v<;>simp
@[go_sem] theorem as_wv (v:Value) (w:World):(Instr.typeAssert (.iface 335 v) 268 265 true).run Tryz.prog w=.ok (.tuple #[.string ⟨#[]⟩,.bool false]) w:=by kernel_rfl
theorem jel (s:ByteArray) (w:World) :
  (Calls Tryz.prog 219 #[.agg #[.bool false,.string s]] w fun e w'=>e=.returned (.iface 335 (.string s))∧Ext w w')∧(Calls Tryz.prog 219 #[.agg #[.bool true,.string s]] w fun e w'=>e=.returned (.iface 265 (.string s))∧Ext w w') :=
 ⟨jiz ⟨false,s⟩ w,jiz ⟨true,s⟩ w⟩
theorem jko (v u:Value) (body:List GP) (a:GA) (w:World) {S T:Nat→Prop} (hv:jao S w v body) (hu:jae T w u a.args) :
  Calls Tryz.prog 166 #[v,.agg #[.string a.n,u]] w fun e w'=>e=.returned (.bool ((jc2 a).all (jcb body)))∧Ext w w':=by
 obtain⟨A,c,rfl,hc1,hc2⟩:=jaa.form hv;obtain⟨B,d,rfl,hd1,hd2⟩:=jaa.form hu;have HV:=zh (hv.ext ((Ext.refl w).alloc (.cells #[.string a.n,.slice B a.args.length d] 43)));have HU:=zh (hu.ext ((Ext.refl w).alloc (.cells #[.string a.n,.slice B a.args.length d] 43)));clear hv hu;rw[j0b]
 go_enter Tryz.func166,Tryz.ntmps166;go_wp2;go_loopw [12] (fun i wr=>∃ k:Nat,k≤a.args.length∧i=.int .i64 k∧Hid ((a.args.take k).all (jiq body)=true)∧Ext (w.alloc (.cells #[.string a.n,.slice B a.args.length d] 43)) wr) (fun i _=>a.args.length-(intOf i).toNat)
 case atStart=>exact⟨0,Nat.zero_le _,rfl,rfl,Ext.refl _⟩
 case round =>
  obtain⟨k,hk,rfl,hp,hx⟩:=hrel;by_cases hlt:k<a.args.length
  · obtain ⟨b,off,y,rfl,hb,hxk,hxs,p0,p1⟩:=jae.at_ (HU.out.ext hx) hlt
    have HK:=zh hxk;clear hxk;cases hv:y.v
    · have HP:=zh (show (a.args.take (k+1)).all (jiq body)=true from by rw[jbo _ _ k y HK.out,hp.out];unfold jiq;rw[hv];rfl)
      rw[hv] at p0;go_wp2_with (go_at_call 219;refine (jel y.n _).1.mono ?_;rintro e w1 ⟨rfl,hx1⟩)
      go_roundw
      case rel=>exact⟨k+1,by omega,by go_num,HP,(hx.alloc _).trans' hx1⟩
      case measure=>simp[intOf];omega
    rw[hv] at p0;have HB:=zh (fun W (hW:Ext wr W)=>jai (jtc _ body y.n W ((HV.out.ext hx).ext hW)));cases hm:jcb body y.n
    · have HZ:=zh (jbf (jiq body) _ k y HK.out (by unfold jiq;rw[hv,hm];rfl))
      have HM:=zh hm;clear hv hm
      go_wp2_with (first
       | (go_at_call 219;refine (jel y.n _).2.mono ?_;rintro e w1 ⟨rfl,hx1⟩;have HX1:=zh (((Ext.refl wr).alloc _).trans' hx1);clear hx1)
       | (go_at_call 221;refine (jc4 y.n _).mono ?_;rintro e w2 ⟨rfl,rfl⟩)
       | (go_at_call 220;refine ((HB.out _ HX1.out).2 HM.out).mono ?_;rintro e w3 ⟨rfl,hx3⟩))
      go_ret;exact⟨by rw[HZ.out];rfl,((Ext.refl _).alloc _).trans' ((hx.trans' HX1.out).trans' hx3)⟩
    have HP:=zh (show (a.args.take (k+1)).all (jiq body)=true from by rw[jbo _ _ k y HK.out,hp.out];unfold jiq;rw[hv,hm];rfl);have HM:=zh hm;clear hv hm
    go_wp2_with (first
     | (go_at_call 219;refine (jel y.n _).2.mono ?_;rintro e w1 ⟨rfl,hx1⟩;have HX1:=zh (((Ext.refl wr).alloc _).trans' hx1);clear hx1)
     | (go_at_call 221;refine (jc4 y.n _).mono ?_;rintro e w2 ⟨rfl,rfl⟩)
     | (go_at_call 220;refine ((HB.out _ HX1.out).1 HM.out).mono ?_;rintro e w3 ⟨rfl,hx3⟩))
    go_roundw
    case rel=>exact⟨k+1,by omega,by go_num,HP,(hx.trans' HX1.out).trans' hx3⟩
    case measure=>simp[intOf];omega
  have HZ:=zh (jbm _ _ k hlt hp.out);go_wp2;go_ret;exact⟨by rw[HZ.out];rfl,((Ext.refl _).alloc _).trans' hx⟩
def jn6 (body:List GP) (p:GP):Bool:=(jc2 p.atom).all (jcb body)
theorem jyo (r:GR):jce r=((jc2 r.head).all (jcb r.body) && r.body.all (jn6 r.body)):=by
 unfold jce jbh;rw[List.all_cons,List.all_map]
 rfl
theorem jpf (v:Value) (body:List GP) (w:World) {S:Nat→Prop} (hv:jao S w v body) :
  Calls Tryz.prog 117 #[v] w fun e w'=>e=.returned (.bool (!body.all (jn6 body)))∧Ext w w':=by
 obtain⟨A,c,rfl,hc1,hc2⟩:=jaa.form hv;have HV:=zh hv;clear hv
 go_enter Tryz.func117,Tryz.ntmps117;go_wp2;go_loopw [7] (fun i wr=>∃ k:Nat,k≤body.length∧i=.int .i64 k∧Hid ((body.take k).all (jn6 body)=true)∧Ext w wr) (fun i _=>body.length-(intOf i).toNat)
 case atStart=>exact⟨0,Nat.zero_le _,rfl,rfl,Ext.refl _⟩
 case round =>
  obtain⟨k,hk,rfl,hp,hx⟩:=hrel;by_cases hlt:k<body.length
  · obtain ⟨b,off,y,z,rfl,hb,hxk,hxs,htx,p0,p1,p2⟩:=jao.at_ (HV.out.ext hx) hlt
    obtain⟨C,e,rfl,he1,he2⟩:=jaa.form htx;have HK:=zh hxk;have hw:=jai (jko _ _ body y.atom _ ((HV.out.ext hx).ext ((Ext.refl wr).alloc (.cells #[.bool y.no,.string y.atom.n,.slice C y.atom.args.length e] 112))) (htx.ext ((Ext.refl wr).alloc (.cells #[.bool y.no,.string y.atom.n,.slice C y.atom.args.length e] 112))));clear hxk htx;cases hm:jn6 body y
    · have HZ:=zh (jbf (jn6 body) _ k y HK.out hm)
      have HW:=zh (hw.2 hm);clear hw hm;go_wp2_with (go_at_call 166;refine HW.out.mono ?_;rintro e w1 ⟨rfl,hx1⟩)
      go_ret;exact⟨by rw[HZ.out];rfl,(hx.alloc _).trans' hx1⟩
    have HP:=zh (show (body.take (k+1)).all (jn6 body)=true from by rw[jbo _ _ k y HK.out,hp.out,hm];rfl);have HW:=zh (hw.1 hm);clear hw hm;go_wp2_with (go_at_call 166;refine HW.out.mono ?_;rintro e w1 ⟨rfl,hx1⟩)
    go_roundw
    case rel=>exact⟨k+1,by omega,by go_num,HP,(hx.alloc _).trans' hx1⟩
    case measure=>simp[intOf];omega
  have HZ:=zh (jbm _ _ k hlt hp.out);go_wp2;go_ret;exact⟨by rw[HZ.out];rfl,hx⟩
theorem jpg (r:GR) (v u:Value) (w:World) {S T:Nat→Prop} (hv:jae S w v r.head.args) (hu:jao T w u r.body) :
  Calls Tryz.prog 180 #[.agg #[.string r.head.n,v,u]] w fun e w'=>e=.returned (.bool (!jce r))∧Ext w w':=by
 obtain⟨A,c,rfl,hc1,hc2⟩:=jaa.form hv;obtain⟨B,d,rfl,hd1,hd2⟩:=jaa.form hu;have HV:=zh (hv.ext ((Ext.refl w).alloc (.cells #[.string r.head.n,.slice A r.head.args.length c,.slice B r.body.length d] 45)));have HU:=zh (hu.ext ((Ext.refl w).alloc (.cells #[.string r.head.n,.slice A r.head.args.length c,.slice B r.body.length d] 45)));have HB:=zh (Blk.new w 45 #[.string r.head.n,.slice A r.head.args.length c,.slice B r.body.length d]);have hw:=jai (jko _ _ r.body r.head _ HU.out HV.out);clear hv hu;rw[jyo];cases hm:(jc2 r.head).all (jcb r.body)
 · have HW:=zh (hw.2 hm)
   clear hw hm
   go_enter Tryz.func180,Tryz.ntmps180;go_wp2_with (go_at_call 166;refine HW.out.mono ?_;rintro e w1 ⟨rfl,hx1⟩)
   go_ret;exact⟨rfl,((Ext.refl _).alloc _).trans' hx1⟩
 have HW:=zh (hw.1 hm);have HQ:=zh (fun W hW=>jpf _ r.body W (HU.out.ext hW));clear hw hm
 go_enter Tryz.func180,Tryz.ntmps180
 go_wp2_with (first
  | (go_at_call 166;refine HW.out.mono ?_;rintro e w1 ⟨rfl,hx1⟩;have HX1:=zh hx1;have hb1:=HB.out.ext hx1;have q2:=hb1.cell 2;have hl1:=hb1.lt;clear hx1 hb1)
  | (go_at_call 117;refine (HQ.out _ HX1.out).mono ?_;rintro e w2 ⟨rfl,hx2⟩))
 go_ret;exact⟨rfl,((Ext.refl _).alloc _).trans' (HX1.out.trans' hx2)⟩
theorem jg4 (v:Value) (xs:List GR) (w:World) {S:Nat→Prop} (hv:jal S w v xs) :
  Calls Tryz.prog 246 #[v,.func (.func 180) #[] #[]] w fun e w'=>(∃ z:Int,e=.returned (.int .i64 z)∧(xs.all jce=true→z<0)∧(xs.all jce=false→0≤z))∧Ext w w':=by
 obtain⟨A,c,rfl,hc1,hc2⟩:=jaa.form hv;have HV:=zh hv;clear hv
 go_enter Tryz.func246,Tryz.ntmps246;go_wp2;go_loopw [8] (fun i wr=>∃ k:Nat,k≤xs.length∧i=.int .i64 k∧Hid ((xs.take k).all jce=true)∧Ext w wr) (fun i _=>xs.length-(intOf i).toNat)
 case atStart=>exact⟨0,Nat.zero_le _,rfl,rfl,Ext.refl _⟩
 case round =>
  obtain⟨k,hk,rfl,hp,hx⟩:=hrel;by_cases hlt:k<xs.length
  · obtain ⟨b,off,x,v1,u1,rfl,hb,hxk,hxs,ht,hu,p0,p1,p2⟩:=jal.at_ (HV.out.ext hx) hlt
    obtain⟨C,e,rfl,he1,he2⟩:=jaa.form ht;obtain⟨D,f,rfl,hf1,hf2⟩:=jaa.form hu;have HK:=zh hxk;have hw:=jpg x _ _ wr ht hu;clear hxk ht hu;cases hm:jce x
    · have HZ:=zh (jbf jce _ k x HK.out hm)
      have HW:=zh ((jai hw).1 (by rw[hm];rfl));clear hw hm;go_wp2_with (go_at_call 180;refine HW.out.mono ?_;rintro e w1 ⟨rfl,hx1⟩)
      go_ret;exact⟨⟨k,rfl,fun h=>(by rw[HZ.out] at h;cases h),fun _=>Int.natCast_nonneg _⟩,hx.trans' hx1⟩
    have HP:=zh (show (xs.take (k+1)).all jce=true from by rw[jbo _ _ k x HK.out,hp.out,hm];rfl);have HW:=zh ((jai hw).2 (by rw[hm];rfl));clear hw hm;go_wp2_with (go_at_call 180;refine HW.out.mono ?_;rintro e w1 ⟨rfl,hx1⟩)
    go_roundw
    case rel=>exact⟨k+1,by omega,by go_num,HP,hx.trans' hx1⟩
    case measure=>simp[intOf];omega
  have HZ:=zh (jbm _ _ k hlt hp.out);go_wp2;go_ret;exact⟨⟨-1,rfl,fun _=>by decide,fun h=>(by rw[HZ.out] at h;cases h)⟩,hx⟩
theorem jjv (v:Value) (xs:List GR) (w:World) {S:Nat→Prop} (hv:jal S w v xs) :
  Calls Tryz.prog 179 #[v,.func (.func 180) #[] #[]] w fun e w'=>e=.returned (.bool (!xs.all jce))∧Ext w w':=by
 obtain⟨A,c,rfl,hc1,hc2⟩:=jaa.form hv;have HV:=zh hv;clear hv;cases ha:xs.all jce
 · have HA:=zh ha
   clear ha
   go_enter Tryz.func179,Tryz.ntmps179;go_wp2_with (go_at_call 246;refine (jg4 _ xs _ HV.out).mono ?_;rintro e w1 ⟨⟨z,rfl,h1,h2⟩,hx1⟩;have hz:=h2 HA.out;clear h1 h2)
   go_ret;exact⟨ja6 (by first|(simp;done)|(simp;omega)),hx1⟩
 have HA:=zh ha;clear ha
 go_enter Tryz.func179,Tryz.ntmps179;go_wp2_with (go_at_call 246;refine (jg4 _ xs _ HV.out).mono ?_;rintro e w1 ⟨⟨z,rfl,h1,h2⟩,hx1⟩;have hz:=h1 HA.out;clear h1 h2)
 go_ret;exact⟨ja6 (by first|(simp;done)|(simp;omega)),hx1⟩
theorem jph (r:GR):jbd r=((decide (r.body.length≤4) && r.body.all jct) && jat r.head):=by
 rw[jfd];cases decide (r.body.length≤4)<;>cases r.body.all jct<;>cases jat r.head<;>rfl
theorem jwd (v:Value) (body:List GP) (w:World) {S:Nat→Prop} (hv:jao S w v body) :
  Calls Tryz.prog 116 #[v] w fun e w'=>e=.returned (.bool (decide (body.length≤4) && body.all jct))∧Ext w w':=by
 obtain⟨A,c,rfl,hc1,hc2⟩:=jaa.form hv;have HV:=zh hv;clear hv;by_cases h4:body.length≤4
 · have HF:=zh (show (decide (body.length≤4) && body.all jct)=body.all jct from by simp[h4])
   go_enter Tryz.func116,Tryz.ntmps116;go_wp2;go_loopw [10] (fun i wr=>∃ k:Nat,k≤body.length∧i=.int .i64 k∧Hid ((body.take k).all jct=true)∧Ext w wr) (fun i _=>body.length-(intOf i).toNat)
   case atStart=>exact⟨0,Nat.zero_le _,rfl,rfl,Ext.refl _⟩
   case round =>
    obtain⟨k,hk,rfl,hp,hx⟩:=hrel;by_cases hlt:k<body.length
    · obtain ⟨b,off,y,z,rfl,hb,hxk,hxs,htx,p0,p1,p2⟩:=jao.at_ (HV.out.ext hx) hlt
      obtain⟨C,e,rfl,he1,he2⟩:=jaa.form htx;have HK:=zh hxk;have hw:=jai (ji0 y.atom _ _ hxs (htx.ext ((Ext.refl wr).alloc (.cells #[.bool y.no,.string y.atom.n,.slice C y.atom.args.length e] 112))));clear hxk htx;cases hm:jat y.atom
      · have HZ:=zh (jbf jct _ k y HK.out hm)
        have HW:=zh (hw.2 hm);clear hw hm;go_wp2_with (go_at_call 165;refine HW.out.mono ?_;rintro e w1 ⟨rfl,hx1⟩)
        go_ret;exact⟨by rw[HF.out,HZ.out];rfl,(hx.alloc _).trans' hx1⟩
      have HP:=zh (show (body.take (k+1)).all jct=true from by rw[jbo _ _ k y HK.out,hp.out,show jct y=true from hm];rfl);have HW:=zh (hw.1 hm);clear hw hm;go_wp2_with (go_at_call 165;refine HW.out.mono ?_;rintro e w1 ⟨rfl,hx1⟩)
      go_roundw
      case rel=>exact⟨k+1,by omega,by go_num,HP,(hx.alloc _).trans' hx1⟩
      case measure=>simp[intOf];omega
    have HZ:=zh (jbm _ _ k hlt hp.out);go_wp2;go_ret;exact⟨by rw[HF.out,HZ.out];rfl,hx⟩
 have HF:=zh (show (decide (body.length≤4) && body.all jct)=false from by simp[h4])
 go_enter Tryz.func116,Tryz.ntmps116;go_wp2;go_ret;exact⟨by rw[HF.out];rfl,Ext.refl _⟩
end Go.Proofs.YthdojieomhighaaGreatDoor
