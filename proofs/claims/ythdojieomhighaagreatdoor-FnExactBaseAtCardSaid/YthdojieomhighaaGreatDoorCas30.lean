/- Own texts, joined. -/
import Derived.Test.YthdojieomhighaaGreatDoorCas28
import Derived.Test.YthdojieomhighaaGreatDoorCas18
import Derived.Test.YthdojieomhighaaGreatDoorCas01
import Derived.Test.YthdojieomhighaaGreatDoorChecked
import Derived.LaidEql
import Derived.Stop.Asserts
import Derived.RowKitTokens
import Derived.Test.YthdojieomhighaaGreatDoorCas23
import Derived.Test.YthdojieomhighaaGreatDoorCas29
import Derived.Test.YthdojieomhighaaGreatDoorCas02
import Derived.Test.YthdojieomhighaaGreatDoorCas22
set_option linter.unusedSimpArgs false
set_option linter.unusedVariables false
set_option maxHeartbeats 8000000
set_option maxRecDepth 100000
namespace Go.Proofs.YthdojieomhighaaGreatDoor
open Go.RowKit
theorem jwl {l:List GR} {k:Nat} {r:GR} (h:l[k]? = some r):heads (l.take (k+1))=if (idxB (heads (l.take k)) r.head.n).isSome then heads (l.take k) else heads (l.take k)++[r.head.n]:=by
 obtain⟨hk,rfl⟩:=List.getElem?_eq_some_iff.1 h;rw[List.take_succ_eq_append_getElem hk,jvh]
theorem jm2 (v:Value) (l:List GR) (w:World) {S:Nat→Prop} (hv:jal S w v l) (hl:l.length≤8) :
  Calls Tryz.prog 207 #[v] w fun e w'=>(e=.returned (.map (some w.heap.size))∧MapN w' w.heap.size (heads l).length (idxB (heads l)))∧Ext w w':=by
 obtain⟨A,c,rfl,hc1,hc2⟩:=jaa.form hv;have HV:=zh (show jal (fun b=>b<w.heap.size) w (.slice A l.length c) l from ListK.sub (k:=kRule) (ListK.low (k:=kRule) hv) (fun b hb=>hb.2));have hmm:= @run_makeMap Tryz.prog;clear hv
 go_enter Tryz.func207,Tryz.ntmps207;go_wp2;clear hmm;go_loopw [11] (fun i wr=>∃ k:Nat,k≤l.length∧i=.int .i64 k∧Hid (MapN wr w.heap.size (heads (l.take k)).length (idxB (heads (l.take k))))∧Ext w wr) (fun i _=>l.length-(intOf i).toNat)
 case atStart=>exact⟨0,Nat.zero_le _,rfl,(MapN.made w).same (fun _=>rfl),(Ext.refl _).alloc _⟩
 case round =>
  obtain⟨k,hk,rfl,hm,hx⟩:=hrel;have hk0:(0:Int)≤(k:Int):=by omega
  by_cases hlt:k<l.length
  · have hk1:(k:Int)<(l.length:Int):=by omega
    obtain⟨b,off,r,v1,u1,rfl,hb,hrk,hrs,ht,hu,p0,p1,p2⟩:=jal.at_ HV.out hlt;obtain⟨C,e,rfl,he1,he2⟩:=jaa.form ht;obtain⟨D,f,rfl,hf1,hf2⟩:=jaa.form hu;have r0:=(hx.cells.1 b (off+k*3) hb).trans p0;have r1:=(hx.cells.1 b (off+k*3+1) hb).trans p1;have r2:=(hx.cells.1 b (off+k*3+2) hb).trans p2;have hle:=jqd (l.take k);have hlk:(l.take k).length≤k:=List.length_take_le _ _;have hnx:=jwl hrk;clear p0 p1 p2 hrk ht hu;have hlm:=hm.out.lt
    cases hf:idxB (heads (l.take k)) r.head.n with
    | none =>
      rw[hf] at hnx;obtain⟨n,hn⟩:∃ n,n=(heads (l.take k)).length:=⟨_,rfl⟩
      have HN:=zh (show n+1=(heads (l.take (k+1))).length from by rw[hnx,hn];simp)
      have HFN:=zh (show ∀ x,(if x=r.head.n then some n else idxB (heads (l.take k)) x)=idxB (heads (l.take (k+1))) x from fun x=>by
       rw[hnx,hn];simp only[Option.isSome_none,Bool.false_eq_true,if_false];rw[jia];by_cases e:x=r.head.n
       · rw[if_pos e,e,hf,if_pos rfl]
       rw[if_neg e,if_neg (fun h=>e h.symm)];cases idxB (heads (l.take k)) x<;>rfl)
      have HF:=zh hf;rw[← hn] at hm hle;clear hf hnx hn
      go_wp2_with (first
       | (at_lookup;refine jb8 _ rfl _ _ rfl w.heap.size n (idxB (heads (l.take k))) rfl (hm.out.alloc _) r.head.n rfl hrs HF.out ?_)
       | (at_len;refine jbr _ rfl _ rfl w.heap.size n (idxB (heads (l.take k))) rfl (hm.out.alloc _) ?_)
       | (at_mapUpdate;refine jef _ rfl _ _ _ rfl w.heap.size n (idxB (heads (l.take k))) rfl (hm.out.alloc _) (by omega) r.head.n rfl hrs n rfl (by omega) ?_;intro w1 hm1 hg1;have HM1:=zh hm1;have HG1:=zh hg1;clear hm1 hg1))
      go_roundw
      case rel =>
       have hm1:=HM1.out;rw[HF.out] at hm1;refine⟨k+1,by omega,by go_num,zh (by rw[← HN.out];exact hm1.same HFN.out),Below.trans (hx.alloc _) (jg9 HG1.out (fun g hg=>?_) (by go_size))⟩;injection hg with hg
       omega
      case measure=>simp[intOf];omega
    | some m =>
      rw[hf] at hnx;have HE:=zh (show heads (l.take k)=heads (l.take (k+1)) from by rw[hnx];simp);have HF:=zh hf;clear hf hnx;go_wp2_with (at_lookup;refine ja5 _ rfl _ _ rfl w.heap.size _ (idxB (heads (l.take k))) rfl (hm.out.alloc _) r.head.n rfl hrs m HF.out ?_)
      go_roundw
      case rel=>exact⟨k+1,by omega,by go_num,zh (by rw[← HE.out];exact hm.out.alloc _),hx.alloc _⟩
      case measure=>simp[intOf];omega
  have hke:k=l.length:=by omega
  subst hke;rw[List.take_length] at hm;go_wp2;go_ret;exact⟨⟨rfl,hm.out⟩,hx⟩
section
open Go.RowKit
def sumAt (w:World) (g:Nat):Nat:=match w.heap[g]? with
 | some (.cells cs _ _)=>(cs.toList.map fun v=>(intOf v).toNat).sum
 | _=>0
theorem ju4:∀ o:List Nat,o.map ((fun v=>(intOf v).toNat) ∘ fun x=>Value.int .i64 ((x:Nat):Int))=o
 | []=>rfl
 | x :: o=>by rw[List.map_cons,ju4 o];rfl
theorem jn9 {w:World} {g:Nat} {o:List Nat} (h:Blk w g 3 (ints o)):sumAt w g=o.sum:=by
 unfold sumAt;unfold Blk at h;rw[h];unfold ints;simp only[List.map_map];rw[ju4]
def jhs (l:List GR) (o:List Nat):List Nat:=l.map fun r=>at0 o ((idxB (heads l) r.head.n).getD 0)
structure AtO (w:World) (g:Nat) (l:List GR) (wr:World) (o:List Nat):Prop where
 blk:Blk wr g 3 (ints o)
 low:Low l o
 map:MapN wr w.heap.size (heads l).length (idxB (heads l))
 ext:Ext w wr
theorem AtO.alloc {w wr:World} {g:Nat} {l:List GR} {o:List Nat} (h:AtO w g l wr o) (b:Obj):AtO w g l (wr.alloc b) o:=⟨h.blk.alloc _,h.low,h.map.alloc _,h.ext.alloc _⟩
theorem AtO.set {w wr:World} {g:Nat} {l:List GR} {o:List Nat} (h:AtO w g l wr o) (hg:w.heap.size<g) (i v:Nat) (hl:Low l (o.set i v)):AtO w g l (wr.setCell ⟨g,i,none⟩ (.int .i64 ((v:Nat):Int))) (o.set i v) :=
 ⟨h.blk.intSet i v,hl,h.map.setCell (show w.heap.size≠g by omega) _,h.ext.setNew (show w.heap.size≤g by omega) _⟩
theorem AtO.far {w wr:World} {g:Nat} {l:List GR} {o:List Nat} (h:AtO w g l wr o) {p:Addr} (hp:g≠p.block) (hq:w.heap.size<p.block) (u:Value):AtO w g l (wr.setCell p u) o :=
 ⟨h.blk.far hp u,h.low,h.map.setCell (Nat.ne_of_lt hq) u,h.ext.setNew (Nat.le_of_lt hq) u⟩
def jwm (w w':World) (l:List GR) (e:Ending):Prop :=
 (∃ o,Low l o∧(∀ r∈l,∀ p∈r.body,metB l o r p)∧∃ g,e=.returned (.tuple #[.slice (some ⟨g,0,none⟩) l.length l.length,.nilIface])∧w.heap.size<g∧Blk w' g 3 (ints (jhs l o)))
  ∨ (jdk l=true∧∃ g,e=.returned (.tuple #[.slice none 0 0,.iface 218 (.pointer (some ⟨g,0,none⟩))]))
theorem jyx {l:List GR} {o:List Nat} {r:GR} {p:GP} (h:idxB (heads l) p.atom.n=none):metB l o r p:=fun j own h1 _=>by rw[h] at h1;cases h1
theorem jru {l:List GR} {o:List Nat} {r:GR} {p:GP} {j own:Nat} (h:idxB (heads l) p.atom.n=some j) (k:idxB (heads l) r.head.n=some own) (hle:at0 o j+one p.no≤at0 o own):metB l o r p:=fun j' own' h1 h2=>by
 have e1:=Option.some.inj (h.symm.trans h1);have e2:=Option.some.inj (k.symm.trans h2);rw[← e1,← e2];exact hle
def fillL (xs:List Nat) (k:Nat):List Nat:=xs.take k++List.replicate (xs.length-k) 0
theorem jwn (xs:List Nat):List.replicate xs.length 0=fillL xs 0:=by simp[fillL]
theorem jyy (xs:List Nat):fillL xs xs.length=xs:=by simp[fillL]
theorem jyz {xs:List Nat} {k v:Nat} (h:xs[k]? = some v):(fillL xs k).set k v=fillL xs (k+1):=by
 obtain⟨hk,rfl⟩:=List.getElem?_eq_some_iff.1 h;unfold fillL;have h1:(xs.take k).length=k:=by rw[List.length_take];omega
 rw[List.set_append,if_neg (by omega),h1,Nat.sub_self,List.take_succ_eq_append_getElem hk,List.append_assoc,show xs.length-k=(xs.length-(k+1))+1 from by omega,List.replicate_succ,List.set_cons_zero]
 rfl
theorem jy0 {xs:List Nat} {k:Nat} (h:k≤xs.length):(fillL xs k).length=xs.length:=by
 unfold fillL;rw[List.length_append,List.length_take,List.length_replicate];omega
def jtg (m:Value):Bool:=match m with
 | .bool b=>b
 | _=>false
theorem jkt (v:Value) (l:List GR) (w:World) {S:Nat→Prop} (hv:jal S w v l) (hl:l.length≤8) :
  Calls Tryz.prog 159 #[v] w fun e w'=>jwm w w' l e∧Ext w w':=by
 have HP:=zh (jm2 v l w hv hl);obtain⟨A,c,rfl,hc1,hc2⟩:=jaa.form hv;have HV:=zh (show jal (fun b=>b<w.heap.size) w (.slice A l.length c) l from ListK.sub (k:=kRule) (ListK.low (k:=kRule) hv) (fun b hb=>hb.2));obtain⟨n,hn⟩:∃ n,n=(heads l).length:=⟨_,rfl⟩
 have hn8:n≤8:=by rw[hn];exact Nat.le_trans (jqd l) hl
 have hmk:=jk6 n (by omega);have HMK2:=zh (jk6 l.length (by omega));have HN:=zh hn;rw[← hn] at HP;clear hv hn
 go_enter Tryz.func159,Tryz.ntmps159
 go_wp2_with (first
  | (go_at_call 207;refine HP.out.mono ?_;rintro e w1 ⟨⟨rfl,hm1⟩,hx1⟩;have hz1:=hm1.lt;have HM1:=zh hm1;have HX1:=zh hx1;clear hm1 hx1)
  | (at_len;refine jbr _ rfl _ rfl w.heap.size n (idxB (heads l)) rfl HM1.out ?_))
 clear hmk;go_loopw [6] (fun m wr=>∃ (o:List Nat) (b:Bool),m=.bool b∧Hid (AtO w w1.heap.size l wr o)∧Hid (b=false→∀ r∈l,∀ p∈r.body,metB l o r p)) (fun m wr=>if jtg m then 100-sumAt wr w1.heap.size else 0)
 case atStart =>
  refine⟨List.replicate n 0,true,rfl,zh ⟨Blk.new _ _ _,?_,?_,HX1.out.alloc _⟩,zh (fun h=>by cases h)⟩
  · rw[HN.out];exact Low.start l
  rw[← HN.out];exact HM1.out.alloc _
 case round =>
  obtain⟨o0,b0,rfl,hat,hmet⟩:=hrel;have HS0:=zh (jn9 hat.out.blk);have HL0:=zh hat.out.low.sum_le
  cases b0 with
  | true =>
    go_wp2;go_loopw [6,26] (fun m i wr=>∃ (k:Nat) (o:List Nat) (b:Bool),k≤l.length∧i=.int .i64 k∧m=.bool b∧Hid (AtO w w1.heap.size l wr o)∧Hid (Pass l o0 o b k 0)) (fun _ i _=>l.length-(intOf i).toNat)
    case atStart=>exact⟨0,o0,false,Nat.zero_le _,rfl,rfl,hat,Pass.start l o0⟩
    case round =>
     obtain⟨k,o,b,hk,rfl,rfl,hat,hps⟩:=hrel;have hk0:(0:Int)≤(k:Int):=by omega
     by_cases hlt:k<l.length
     · have hk1 : (k:Int)<(l.length:Int):=by omega
       obtain⟨b,off,r,v1,u1,rfl,hb,hrk,hrs,ht,hu,p0,p1,p2⟩:=jal.at_ HV.out hlt;obtain⟨C,e,rfl,he1,he2⟩:=jaa.form ht;obtain⟨D,f,rfl,hf1,hf2⟩:=jaa.form hu;have r0:=(hat.out.ext.cells.1 b (off+k*3) hb).trans p0;have r1:=(hat.out.ext.cells.1 b (off+k*3+1) hb).trans p1;have r2:=(hat.out.ext.cells.1 b (off+k*3+2) hb).trans p2;clear p0 p1 p2;obtain⟨own,hown⟩:=jcp (jcr.2 ⟨r,List.mem_of_getElem? hrk,rfl⟩);have hon:=jc6 hown;have HRK:=zh hrk;have hlw:=hat.out.blk.lt;have HOWN:=zh hown;have HU:=zh hu;have HT:=zh ht;have hon2:own<n:=by rw[HN.out];exact hon
       have HMA:=zh (show MapN wr w.heap.size n (idxB (heads l)) from by rw[HN.out];exact hat.out.map);clear hrk hown hu ht hon;go_wp2_with (at_lookup;refine jg5 _ rfl _ _ rfl w.heap.size n (idxB (heads l)) rfl (HMA.out.alloc _) r.head.n rfl hrs own HOWN.out ?_)
       go_loopw [6,38] (fun m i wq=>∃ (q:Nat) (o:List Nat) (b:Bool),q≤r.body.length∧i=.int .i64 q∧m=.bool b∧Hid (AtO w w1.heap.size l wq o)∧Hid (Pass l o0 o b k q)∧Hid (Blk wq wr.heap.size 45 #[.string r.head.n,.slice C r.head.args.length e,.slice D r.body.length f])) (fun _ i _=>r.body.length-(intOf i).toNat)
       case atStart=>exact⟨0,o,_,Nat.zero_le _,rfl,rfl,zh (hat.out.alloc _),hps.out,Blk.new _ _ _⟩
       case round =>
        obtain⟨q,o,b,hq,rfl,rfl,hat,hpass,hrb⟩:=hrel;have hq0:(0:Int)≤(q:Int):=by omega
        by_cases hqt:q<r.body.length
        · have hq1 : (q:Int)<(r.body.length:Int):=by omega
          obtain⟨b2,off2,p,v2,rfl,hb2,hpk,hps2,htp,z0,z1,z2⟩:=jao.at_ HU.out hqt;obtain⟨E2,g2,rfl,_,_⟩:=jaa.form htp;have s0:=(hat.out.ext.cells.1 b2 (off2+q*3) hb2).trans z0;have s1:=(hat.out.ext.cells.1 b2 (off2+q*3+1) hb2).trans z1;have s2:=(hat.out.ext.cells.1 b2 (off2+q*3+2) hb2).trans z2;have HPK:=zh hpk;have HQA:=zh (hat.out.alloc (.cells #[.bool p.no,.string p.atom.n,.slice E2 p.atom.args.length g2] 112));have HQB:=zh (hrb.out.alloc (.cells #[.bool p.no,.string p.atom.n,.slice E2 p.atom.args.length g2] 112));have HQM:=zh (show MapN _ w.heap.size n (idxB (heads l)) from by rw[HN.out];exact HQA.out.map);have hol:o.length=n:=by rw[HN.out];exact hat.out.low.1
          have HOL:=zh (show own<o.length by omega);clear z0 z1 z2 hpk htp
          cases hfj:idxB (heads l) p.atom.n with
          | none =>
            have HM:=zh (jyx (o:=o) (r:=r) hfj);have HFJ:=zh hfj;clear hfj;go_wp2_with (at_lookup;refine jb8 _ rfl _ _ rfl w.heap.size n (idxB (heads l)) rfl HQM.out p.atom.n rfl hps2 HFJ.out ?_)
            go_roundw
            case rel=>exact⟨q+1,o,b,by omega,by go_num,rfl,HQA.out,hpass.out.part HRK.out HPK.out HM.out,HQB.out⟩
            case measure=>simp[intOf];omega
          | some j2 =>
            have hj2:j2<n:=by rw[HN.out];exact jc6 hfj
            have HFJ:=zh hfj;obtain⟨x,hx2⟩:∃ x,x=at0 o j2:=⟨_,rfl⟩
            obtain⟨y,hy2⟩:∃ y,y=at0 o own:=⟨_,rfl⟩
            have cj:=HQA.out.blk.int (i:=j2) (by omega);have co:=HQA.out.blk.int (i:=own) (by omega);have fo:=HQA.out.blk.frozen own;rw[← hx2] at cj;rw[← hy2] at co;have hxb:x<8:=by have:=hat.out.low.2.1 j2 (by omega);omega
            have hyb:y<8:=by have:=hat.out.low.2.1 own (by omega);omega
            have HX2:=zh hx2;have HY2:=zh hy2;have hlg:=HQA.out.blk.lt;clear hx2 hy2 hfj;cases hno:p.no
            · rw [hno] at s0 HQA HQB HQM cj co fo hlg
              have hq0:(0:Int)≤(x:Int):=by omega
              by_cases hge:x≤y
              · have hg1:decide ((y:Int)≥(x:Int))=true:=decide_eq_true (by omega)
                have HM:=zh (jru (p:=p) HFJ.out HOWN.out (show at0 o j2+one p.no≤at0 o own from by rw[hno,← HX2.out,← HY2.out];exact hge));clear hno;go_wp2_with (at_lookup;refine ja5 _ rfl _ _ rfl w.heap.size n (idxB (heads l)) rfl HQM.out p.atom.n rfl hps2 j2 HFJ.out ?_)
                go_roundw
                case rel=>exact⟨q+1,o,b,by omega,by go_num,rfl,HQA.out,hpass.out.part HRK.out HPK.out HM.out,HQB.out⟩
                case measure=>simp[intOf];omega
              have hg1:decide ((y:Int)≥(x:Int))=false:=decide_eq_false (by omega);by_cases hbig:n≤x
              · have hg2:decide ((x:Int)≥(n:Int))=true:=decide_eq_true (by omega)
                have HCY:=zh (hat.out.low.cycle (p:=p) (r:=r) (j:=j2) (List.mem_of_getElem? HRK.out) (List.mem_of_getElem? HPK.out) HFJ.out (by rw[hno,← HX2.out,← HN.out];exact hbig));clear hno
                go_wp2_with (first
                 | (at_lookup;refine ja5 _ rfl _ _ rfl w.heap.size n (idxB (heads l)) rfl HQM.out p.atom.n rfl hps2 j2 HFJ.out ?_)
                 | (at_len;refine jbr _ rfl _ rfl w.heap.size n (idxB (heads l)) rfl HQM.out ?_))
                have rc0:=HQB.out.cell 0
                go_region
                go_wp2;go_ret2;exact⟨.inr ⟨HCY.out,_,rfl⟩,((hat.out.ext.alloc _).alloc _).drew⟩
              have hg2:decide ((x:Int)≥(n:Int))=false:=decide_eq_false (by omega);have HLOW:=zh (hat.out.low.set (p:=p) (r:=r) (j:=j2) (own:=own) (List.mem_of_getElem? HRK.out) (List.mem_of_getElem? HPK.out) HFJ.out HOWN.out (by rw[hno,← HX2.out,← HN.out];exact Nat.lt_of_not_le hbig));have HMV:=zh (hpass.out.moved (own:=own) (v:=at0 o j2+one p.no) HOL.out (by rw[hno,← HX2.out,← HY2.out];exact Nat.lt_of_not_le hge));rw[hno,← HX2.out] at HLOW HMV;clear hno
              go_wp2_with (first
               | (at_lookup;refine ja5 _ rfl _ _ rfl w.heap.size n (idxB (heads l)) rfl HQM.out p.atom.n rfl hps2 j2 HFJ.out ?_)
               | (at_len;refine jbr _ rfl _ rfl w.heap.size n (idxB (heads l)) rfl HQM.out ?_))
              go_roundw
              case rel=>exact⟨q+1,o.set own (x+0),true,by omega,by go_num,rfl,zh (by simpa using HQA.out.set hz1 own (x+0) HLOW.out),HMV.out,zh (HQB.out.far (p:=⟨w1.heap.size,own,none⟩) (by show _≠w1.heap.size;omega) _)⟩
              case measure=>simp[intOf];omega
            rw[hno] at s0 HQA HQB HQM cj co fo hlg;have hq0:(0:Int)≤(x:Int):=by omega
            by_cases hge:x+1≤y
            · have hg1:decide ((y:Int)≥(x:Int)+1)=true:=decide_eq_true (by omega)
              have HM:=zh (jru (p:=p) HFJ.out HOWN.out (show at0 o j2+one p.no≤at0 o own from by rw[hno,← HX2.out,← HY2.out];exact hge));clear hno;go_wp2_with (at_lookup;refine ja5 _ rfl _ _ rfl w.heap.size n (idxB (heads l)) rfl HQM.out p.atom.n rfl hps2 j2 HFJ.out ?_)
              go_roundw
              case rel=>exact⟨q+1,o,b,by omega,by go_num,rfl,HQA.out,hpass.out.part HRK.out HPK.out HM.out,HQB.out⟩
              case measure=>simp[intOf];omega
            have hg1:decide ((y:Int)≥(x:Int)+1)=false:=decide_eq_false (by omega);by_cases hbig:n≤x+1
            · have hg2:decide ((x:Int)+1≥(n:Int))=true:=decide_eq_true (by omega)
              have HCY:=zh (hat.out.low.cycle (p:=p) (r:=r) (j:=j2) (List.mem_of_getElem? HRK.out) (List.mem_of_getElem? HPK.out) HFJ.out (by rw[hno,← HX2.out,← HN.out];exact hbig));clear hno
              go_wp2_with (first
               | (at_lookup;refine ja5 _ rfl _ _ rfl w.heap.size n (idxB (heads l)) rfl HQM.out p.atom.n rfl hps2 j2 HFJ.out ?_)
               | (at_len;refine jbr _ rfl _ rfl w.heap.size n (idxB (heads l)) rfl HQM.out ?_))
              have rc0:=HQB.out.cell 0
              go_region
              go_wp2;go_ret2;exact⟨.inr ⟨HCY.out,_,rfl⟩,((hat.out.ext.alloc _).alloc _).drew⟩
            have hg2:decide ((x:Int)+1≥(n:Int))=false:=decide_eq_false (by omega);have HLOW:=zh (hat.out.low.set (p:=p) (r:=r) (j:=j2) (own:=own) (List.mem_of_getElem? HRK.out) (List.mem_of_getElem? HPK.out) HFJ.out HOWN.out (by rw[hno,← HX2.out,← HN.out];exact Nat.lt_of_not_le hbig));have HMV:=zh (hpass.out.moved (own:=own) (v:=at0 o j2+one p.no) HOL.out (by rw[hno,← HX2.out,← HY2.out];exact Nat.lt_of_not_le hge));rw[hno,← HX2.out] at HLOW HMV;clear hno
            go_wp2_with (first
             | (at_lookup;refine ja5 _ rfl _ _ rfl w.heap.size n (idxB (heads l)) rfl HQM.out p.atom.n rfl hps2 j2 HFJ.out ?_)
             | (at_len;refine jbr _ rfl _ rfl w.heap.size n (idxB (heads l)) rfl HQM.out ?_))
            go_roundw
            case rel=>exact⟨q+1,o.set own (x+1),true,by omega,by go_num,rfl,zh (by simpa using HQA.out.set hz1 own (x+1) HLOW.out),HMV.out,zh (HQB.out.far (p:=⟨w1.heap.size,own,none⟩) (by show _≠w1.heap.size;omega) _)⟩
            case measure=>simp[intOf];omega
        have hje:r.body.length≤q:=by omega
        go_wp2;go_roundw
        case rel=>exact⟨k+1,o,b,by omega,by go_num,rfl,hat,hpass.out.rule HRK.out hje⟩
        case measure=>simp[intOf];omega
     · have hkl:l.length≤k:=by omega
       have HS1:=zh (jn9 hat.out.blk);go_wp2;go_roundw
       case rel =>
        refine⟨o,b,rfl,hat,zh (fun hb=>?_)⟩;subst hb;exact (hps.out.done hkl).2
       case measure =>
        have h1:=HS0.out;have h2:=HL0.out;have h3:=HS1.out;rw[← HN.out] at h2;have h6:n*n≤8*8:=Nat.mul_le_mul hn8 hn8;have h4:o.sum≤64:=Nat.le_trans hat.out.low.sum_le (by rw[← HN.out];exact Nat.mul_le_mul hn8 hn8)
        cases b with
        | true =>
          have h5:=hps.out.1 rfl;simp only[jtg,if_true];omega
        | false =>
          simp[jtg];omega
  | false =>
    have HM:=zh (hmet.out rfl);have hmk2:=HMK2.out;have HSN:=zh (show (jhs l o0).length=l.length from List.length_map _);have hlw:=hat.out.blk.lt;go_wp2;clear hmk2;go_loopw [87] (fun i wq=>∃ k:Nat,k≤l.length∧i=.int .i64 k∧Hid (AtO w w1.heap.size l wq o0)∧Hid (Blk wq wr.heap.size 3 (ints (fillL (jhs l o0) k)))) (fun i _=>l.length-(intOf i).toNat)
    case atStart =>
     refine⟨0,Nat.zero_le _,rfl,zh (hat.out.alloc _),?_⟩;rw[← jwn,HSN.out];exact Blk.new _ _ _
    case round =>
     obtain⟨k,hk,rfl,hat2,hst⟩:=hrel;have hk0:(0:Int)≤(k:Int):=by omega
     by_cases hlt:k<l.length
     · have hk1:(k:Int)<(l.length:Int):=by omega
       obtain⟨b,off,r,v1,u1,rfl,hb,hrk,hrs,ht,hu,p0,p1,p2⟩:=jal.at_ HV.out hlt;obtain⟨C,e,rfl,he1,he2⟩:=jaa.form ht;obtain⟨D,f,rfl,hf1,hf2⟩:=jaa.form hu;have r0:=(hat2.out.ext.cells.1 b (off+k*3) hb).trans p0;have r1:=(hat2.out.ext.cells.1 b (off+k*3+1) hb).trans p1;have r2:=(hat2.out.ext.cells.1 b (off+k*3+2) hb).trans p2;clear p0 p1 p2 ht hu;obtain⟨own,hown⟩:=jcp (jcr.2 ⟨r,List.mem_of_getElem? hrk,rfl⟩);have hon:=jc6 hown;have hon2:own<n:=by rw[HN.out];exact hon
       have HOWN:=zh hown;have HSK:=zh (show (jhs l o0)[k]? = some (at0 o0 own) from by unfold jhs;rw[List.getElem?_map,hrk];simp[hown]);have HQA:=zh (hat2.out.alloc (.cells #[.string r.head.n,.slice C r.head.args.length e,.slice D r.body.length f] 45));have HQS:=zh (hst.out.alloc (.cells #[.string r.head.n,.slice C r.head.args.length e,.slice D r.body.length f] 45));have HQM:=zh (show MapN _ w.heap.size n (idxB (heads l)) from by rw[HN.out];exact HQA.out.map);have hol:o0.length=n:=by rw[HN.out];exact hat2.out.low.1
       have hfl:=jy0 (xs:=jhs l o0) (k:=k) (by rw[HSN.out];exact hk);rw[HSN.out] at hfl;obtain⟨x,hx2⟩:∃ x,x=at0 o0 own:=⟨_,rfl⟩
       have co:=HQA.out.blk.int (i:=own) (by omega);rw[← hx2] at co HSK;have cs:=HQS.out.int (i:=k) (by omega);have fs:=HQS.out.frozen k;have hls:=HQS.out.lt;clear hrk hown hon hx2 hfl;go_wp2_with (at_lookup;refine jg5 _ rfl _ _ rfl w.heap.size n (idxB (heads l)) rfl HQM.out r.head.n rfl hrs own HOWN.out ?_)
       go_roundw
       case rel=>exact⟨k+1,by omega,by go_num,zh (HQA.out.far (p:=⟨_,k,none⟩) (Nat.ne_of_lt hlw) (Nat.lt_trans hz1 hlw) _),zh (by rw[← jyz HSK.out];exact HQS.out.intSet k x)⟩
       case measure=>simp[intOf];omega
     have hke:k=l.length:=by omega
     subst hke;have HF:=zh (show Blk wr _ 3 (ints (jhs l o0)) from by have h:=hst.out;rw[← HSN.out,jyy] at h;exact h);go_wp2;go_ret2;exact⟨.inl ⟨o0,hat2.out.low,HM.out,_,rfl,by show w.heap.size<_;omega,HF.out⟩,hat2.out.ext⟩
end
end Go.Proofs.YthdojieomhighaaGreatDoor
namespace Go.Proofs.YthdojieomhighaaGreatDoor
open Go.RowKit Go.Extern.Stop Go.Stop Go.Extern
theorem j1k (t:Value) (w:World) :
  Calls Tryz.prog 181 #[.nilIface,t] w fun e w'=>e=.returned (.bool false)∧w'=w:=by
 go_enter Tryz.func181,Tryz.ntmps181;go_wp2;go_ret;exact⟨rfl,rfl⟩
/-! ### What the model's entries for internal/reflectlite say at this program's types (lines of the kit's worked example toyas, turned to this claim) -/
theorem jrv (t:Addr) (w:World):(ReflectliteValue.unpack (.iface 220 (.pointer (some t)))).run Tryz.prog w
 = .ok (.agg #[.pointer (some ⟨2,220,none⟩),.pointer (some ⟨w.heap.size,0,none⟩),.int .u64 150]) (w.alloc (.cells #[.pointer (some t)] 220)):=by kernel_rfl
theorem jy1 (a:Addr) (w:World):(ReflectliteValue.methodAny (ReflectliteValue.valueError "reflectlite.Value.Type" 0) (fun t _ _ _=>ReflectliteType.toType t) #[.agg #[.pointer (some ⟨2,220,none⟩),.pointer (some a),.int .u64 150]]).run Tryz.prog w
 = .ok (.iface 346 (.agg #[.pointer (some ⟨2,220,none⟩)])) w:=by kernel_rfl
theorem jpj (h:Value) (w:World):(Go.method 416 346 (.agg #[h]) "Kind").run Tryz.prog w=.ok (332,h) w:=by kernel_rfl
theorem jy2 (w:World):((ReflectliteType.abiMethod fun t=>(fun a:Nat=>Value.int IntKind.u8 (a:Int)) <$> Rtype.kind t) #[.pointer (some ⟨2,220,none⟩)]).run Tryz.prog w=.ok (.int .u8 22) w:=by kernel_rfl
theorem jy3 (w:World):((ReflectliteType.abiMethod fun t=>(fun a:Nat=>Value.int IntKind.u8 (a:Int)) <$> Rtype.kind t) #[.pointer (some ⟨2,218,none⟩)]).run Tryz.prog w=.ok (.int .u8 22) w:=by kernel_rfl
/-! ### The entries that read or write memory -/
theorem rlm (z:Sem Value) (f:TypeId→Addr→Nat→Nat→Sem Value) (v:Value) :
 ReflectliteValue.method z f #[v]=(do match ← ReflectliteValue.parts v with|none=>z|some (t,a,fl)=>f t a fl (fl % 32)):=rfl
theorem joa (a:Addr) (w:World):(ReflectliteValue.parts (.agg #[.pointer (some ⟨2,220,none⟩),.pointer (some a),.int .u64 150])).run Tryz.prog w=.ok (some (220,a,150)) w:=by kernel_rfl
theorem jwo (a p:Addr) (W:World) (ha:W.cell? a=some (.pointer (some p))) :
  (ReflectliteValue.method (ReflectliteValue.valueError "reflectlite.Value.IsNil" 0) ReflectliteValue.isNil #[.agg #[.pointer (some ⟨2,220,none⟩),.pointer (some a),.int .u64 150]]).run Tryz.prog W=.ok (.bool false) W:=by
 rw[rlm];simp only[Sem.run_bind,joa,Result.andThen];simp[ReflectliteValue.isNil,loadVar,isAgg,underlying,Tryz.underlying220,ha,Result.andThen]
theorem jpk (h:Value) (w:World):(Go.method 416 346 (.agg #[h]) "Elem").run Tryz.prog w=.ok (345,.agg #[h]) w:=by kernel_rfl
theorem jht (h:Value) (w:World):(Go.method 416 346 (.agg #[h]) "Implements").run Tryz.prog w=.ok (346,.agg #[h]) w:=by kernel_rfl
theorem jgm (h:Value) (w:World):(Go.method 416 346 (.agg #[h]) "AssignableTo").run Tryz.prog w=.ok (343,.agg #[h]) w:=by kernel_rfl
theorem jy4 (w:World):(ReflectliteType.method ReflectliteType.elem #[.agg #[.pointer (some ⟨2,220,none⟩)]]).run Tryz.prog w=.ok (.iface 346 (.agg #[.pointer (some ⟨2,218,none⟩)])) w:=by kernel_rfl
theorem jmn (w:World):(ReflectliteType.relation "Implements" ReflectliteType.implements_ #[.agg #[.pointer (some ⟨2,218,none⟩)],.iface 346 (.agg #[.pointer (some ⟨2,199,none⟩)])]).run Tryz.prog w=.ok (.bool true) w:=by kernel_rfl
theorem jth (v:Value) (w:World):(ReflectliteType.typeOf #[.iface 218 v]).run Tryz.prog w=.ok (.iface 346 (.agg #[.pointer (some ⟨2,218,none⟩)])) w:=by kernel_rfl
theorem jmo (w:World):(ReflectliteType.relation "AssignableTo" ReflectliteType.assignableTo #[.agg #[.pointer (some ⟨2,218,none⟩)],.iface 346 (.agg #[.pointer (some ⟨2,218,none⟩)])]).run Tryz.prog w=.ok (.bool true) w:=by kernel_rfl
theorem jrw (e:Addr) (w:World):(ReflectliteValue.unpack (.iface 218 (.pointer (some e)))).run Tryz.prog w
 = .ok (.agg #[.pointer (some ⟨2,218,none⟩),.pointer (some ⟨w.heap.size,0,none⟩),.int .u64 150]) (w.alloc (.cells #[.pointer (some e)] 218)):=by kernel_rfl
theorem jti (w:World):(Rtype.elem? 220).run Tryz.prog w=.ok (some 218) w:=by kernel_rfl
theorem j06 (p:Addr) (w:World):(ReflectliteValue.mk 218 p ReflectliteValue.flagAddr).run Tryz.prog w=.ok (.agg #[.pointer (some ⟨2,218,none⟩),.pointer (some p),.int .u64 406]) w:=by kernel_rfl
theorem jwp (a p:Addr) (W:World) (ha:W.cell? a=some (.pointer (some p))) :
  (ReflectliteValue.method (ReflectliteValue.valueError "reflectlite.Value.Elem" 0) ReflectliteValue.elem #[.agg #[.pointer (some ⟨2,220,none⟩),.pointer (some a),.int .u64 150]]).run Tryz.prog W
   = .ok (.agg #[.pointer (some ⟨2,218,none⟩),.pointer (some p),.int .u64 406]) W:=by
 rw[rlm];simp only[Sem.run_bind,joa,Result.andThen];simp[ReflectliteValue.elem,loadVar,isAgg,underlying,Tryz.underlying220,ha,Result.andThen,jti,j06]
theorem rls (v x:Value):ReflectliteValue.set #[v,x]=(do
 let (some (dst,a,fl),some (src,b,_)):=(← ReflectliteValue.parts v,← ReflectliteValue.parts x)
  | unsupported (.noEntry "extern/(internal/reflectlite.Value).Set.zeroValue")
 if fl / ReflectliteValue.flagAddr % 2 == 0 then unsupported (.noEntry "extern/(internal/reflectlite.Value).Set.unaddressable")
 let val ← loadVar src b
 if ← Rtype.directlyAssignable dst src then storeVar dst a val
 else if ← Rtype.implements dst src then
  if (← Rtype.kind src) == 20 then
   match val with
   | .nilIface=>unsupported (.noEntry "extern/reflectlite: a nil value of one interface type handed on as a value of another")
   | _=>storeVar dst a val
  else storeVar dst a (.iface src val)
 else panicString ("reflectlite.Set: value of type " ++ (← Rtype.spelt src)++ " is not assignable to type " ++ (← Rtype.spelt dst))
 pure (.tuple #[])):=rfl
theorem jtj (a:Addr) (w:World):(ReflectliteValue.parts (.agg #[.pointer (some ⟨2,218,none⟩),.pointer (some a),.int .u64 406])).run Tryz.prog w=.ok (some (218,a,406)) w:=by kernel_rfl
theorem jwq (a:Addr) (w:World):(ReflectliteValue.parts (.agg #[.pointer (some ⟨2,218,none⟩),.pointer (some a),.int .u64 150])).run Tryz.prog w=.ok (some (218,a,150)) w:=by kernel_rfl
theorem jtk (w:World):(Rtype.directlyAssignable 218 218).run Tryz.prog w=.ok true w:=by kernel_rfl
theorem j0g (ta b e:Addr) (old:Value) (W:World) (hb:W.cell? b=some (.pointer (some e))) (ht:W.cell? ta=some old) (hf:W.frozen? ta=false) :
  (ReflectliteValue.set #[.agg #[.pointer (some ⟨2,218,none⟩),.pointer (some ta),.int .u64 406],.agg #[.pointer (some ⟨2,218,none⟩),.pointer (some b),.int .u64 150]]).run Tryz.prog W
   = .ok (.tuple #[]) (W.setCell ta (.pointer (some e))):=by
 rw[rls];simp only[Sem.run_bind,jtj,jwq,Result.andThen];simp[ReflectliteValue.flagAddr,loadVar,isAgg,underlying,Tryz.underlying218,hb,Result.andThen,jtk,storeVar,Value.cells,storeCells,Addr.add];rw[run_store Tryz.prog W ta _ _ (by rfl)];simp[ht,hf]
theorem j1l (e t:Addr) (old:Value) (w:World) (hg:w.cell? ⟨0,0,none⟩=some (.iface 346 (.agg #[.pointer (some ⟨2,199,none⟩)]))) (ht0:w.cell? t=some old) (hf0:w.frozen? t=false) :
  Calls Tryz.prog 181 #[.iface 218 (.pointer (some e)),.iface 220 (.pointer (some t))] w fun ev w'=>ev=.returned (.bool true)∧w'=((((w.alloc (.cells #[.pointer (some t)] 220)).alloc (.cells #[.pointer (some ⟨2,220,none⟩),.pointer (some ⟨w.heap.size,0,none⟩),.int .u64 150] 293)).alloc (.cells #[.pointer (some ⟨2,220,none⟩),.pointer (some ⟨w.heap.size,0,none⟩),.int .u64 150] 293)).alloc (.cells #[.pointer (some e)] 218)).setCell t (.pointer (some e)):=by
 have h6:= @run_callFunc_extern Tryz.prog 247 _ (fun args=>ReflectliteValue.unpack (args.getD 0 (.tuple #[]))) Tryz.func247 (by kernel_rfl) (by kernel_rfl) (by kernel_rfl) (by kernel_rfl)
 have h7:= @run_callFunc_extern Tryz.prog 248 _ (ReflectliteValue.methodAny (ReflectliteValue.valueError "reflectlite.Value.Type" 0) (fun t _ _ _=>ReflectliteType.toType t)) Tryz.func248 (by kernel_rfl) (by kernel_rfl) (by kernel_rfl) (by kernel_rfl)
 have h8:= @run_callFunc_extern Tryz.prog 249 _ (ReflectliteValue.method (ReflectliteValue.valueError "reflectlite.Value.IsNil" 0) ReflectliteValue.isNil) Tryz.func249 (by kernel_rfl) (by kernel_rfl) (by kernel_rfl) (by kernel_rfl)
 have h27:= @run_callFunc_extern Tryz.prog 332 _ (ReflectliteType.abiMethod fun t=>do pure (.int .u8 (← Rtype.kind t))) Tryz.func332 (by kernel_rfl) (by kernel_rfl) (by kernel_rfl) (by kernel_rfl);have h37:= @run_callFunc_extern Tryz.prog 345 _ (ReflectliteType.method ReflectliteType.elem) Tryz.func345 (by kernel_rfl) (by kernel_rfl) (by kernel_rfl) (by kernel_rfl)
 have h38:= @run_callFunc_extern Tryz.prog 346 _ (ReflectliteType.relation "Implements" ReflectliteType.implements_) Tryz.func346 (by kernel_rfl) (by kernel_rfl) (by kernel_rfl) (by kernel_rfl)
 have h10:= @run_callFunc_extern Tryz.prog 291 _ ReflectliteType.typeOf Tryz.func291 (by kernel_rfl) (by kernel_rfl) (by kernel_rfl) (by kernel_rfl)
 have h35:= @run_callFunc_extern Tryz.prog 343 _ (ReflectliteType.relation "AssignableTo" ReflectliteType.assignableTo) Tryz.func343 (by kernel_rfl) (by kernel_rfl) (by kernel_rfl) (by kernel_rfl)
 have h11:= @run_callFunc_extern Tryz.prog 292 _ (ReflectliteValue.method (ReflectliteValue.valueError "reflectlite.Value.Elem" 0) ReflectliteValue.elem) Tryz.func292 (by kernel_rfl) (by kernel_rfl) (by kernel_rfl) (by kernel_rfl)
 have h12:= @run_callFunc_extern Tryz.prog 293 _ ReflectliteValue.set Tryz.func293 (by kernel_rfl) (by kernel_rfl) (by kernel_rfl) (by kernel_rfl);have tO:=jth;have mA:=jgm;have a25:=jmo;have v25:=jrw;have f6:=jrv;have f7:=jy1;have mK:=jpj;have mE:=jpk;have mI:=jht;have k27:=jy2;have k25:=jy3;have e27:=jy4;have i25:=jmn;have n8:=jwo ⟨w.heap.size,0,none⟩ t ((w.alloc (.cells #[.pointer (some t)] 220)).alloc (.cells #[.pointer (some ⟨2,220,none⟩),.pointer (some ⟨w.heap.size,0,none⟩),.int .u64 150] 293)) (by simp)
 have hlt:0<w.heap.size:=by
  rcases Nat.lt_or_ge 0 w.heap.size with h|h
  · exact h
  simp[World.cell?,Array.getElem?_eq_none h] at hg
 have hg2:((w.alloc (.cells #[.pointer (some t)] 220)).alloc (.cells #[.pointer (some ⟨2,220,none⟩),.pointer (some ⟨w.heap.size,0,none⟩),.int .u64 150] 293)).cell? ⟨0,0,none⟩=some (.iface 346 (.agg #[.pointer (some ⟨2,199,none⟩)])):=by
  rw[World.cell?_alloc_lt _ _ ⟨0,0,none⟩ (by first|(simp;done)|(simp;omega)),World.cell?_alloc_lt _ _ ⟨0,0,none⟩ hlt];exact hg
 have htl:t.block<w.heap.size:=by
  rcases Nat.lt_or_ge t.block w.heap.size with h|h
  · exact h
  simp[World.cell?,Array.getElem?_eq_none h] at ht0
 have el:=jwp ⟨w.heap.size,0,none⟩ t (((w.alloc (.cells #[.pointer (some t)] 220)).alloc (.cells #[.pointer (some ⟨2,220,none⟩),.pointer (some ⟨w.heap.size,0,none⟩),.int .u64 150] 293)).alloc (.cells #[.pointer (some ⟨2,220,none⟩),.pointer (some ⟨w.heap.size,0,none⟩),.int .u64 150] 293)) (by rw[World.cell?_alloc_lt _ _ ⟨w.heap.size,0,none⟩ (by simp;omega)];simp)
 have st:=j0g t ⟨w.heap.size+1+1+1,0,none⟩ e old ((((w.alloc (.cells #[.pointer (some t)] 220)).alloc (.cells #[.pointer (some ⟨2,220,none⟩),.pointer (some ⟨w.heap.size,0,none⟩),.int .u64 150] 293)).alloc (.cells #[.pointer (some ⟨2,220,none⟩),.pointer (some ⟨w.heap.size,0,none⟩),.int .u64 150] 293)).alloc (.cells #[.pointer (some e)] 218))
  (by rw[World.cell?_alloc_at _ _ _ _ (by simp)];rfl)
  (by rw[World.cell?_alloc_lt _ _ t (by simp;omega),World.cell?_alloc_lt _ _ t (by simp;omega),World.cell?_alloc_lt _ _ t (by simp;omega),World.cell?_alloc_lt _ _ t htl];exact ht0)
  (by rw[World.frozen?_alloc_old _ _ t (by simp;omega),World.frozen?_alloc_old _ _ t (by simp;omega),World.frozen?_alloc_old _ _ t (by simp;omega),World.frozen?_alloc_old _ _ t (Nat.ne_of_lt htl)];exact hf0)
 go_enter Tryz.func181,Tryz.ntmps181;go_wp2;refine wp_loop_rounds 1 ?_;rw[rounds_succ];go_wp2;go_ret;exact⟨rfl,rfl⟩
end Go.Proofs.YthdojieomhighaaGreatDoor
namespace Go.Proofs.YthdojieomhighaaGreatDoor
open Go.RowKit
def ErrIs (w:World):Prop:=w.cell? ⟨0,0,none⟩=some (.iface 346 (.agg #[.pointer (some ⟨2,199,none⟩)]))
theorem ErrIs.ext {w w':World} (h:ErrIs w) (hx:Ext w w'):ErrIs w':=(hx.cells.1 _ _ (jcm h)).trans h
theorem jwr (e:Addr) (g:Nat) (old:Value) (w:World) (he:ErrIs w) (hb:Blk w g 218 #[old]) :
  Calls Tryz.prog 181 #[.iface 218 (.pointer (some e)),.iface 220 (.pointer (some ⟨g,0,none⟩))] w fun ev w'=>ev=.returned (.bool true)∧∀ w0,Ext w0 w→w0.heap.size≤g→Ext w0 w':=by
 refine (j1l e ⟨g,0,none⟩ old w he (by rw[hb.cell];rfl) (hb.frozen 0)).mono fun ev w' h=>⟨h.1,fun w0 hx hg=>?_⟩
 rw[h.2];exact Ext.setNew ((((hx.alloc _).alloc _).alloc _).alloc _) hg _
theorem jmp {r:GR} (h:jbd r=true):∀ a∈jbh r,a.args.length≤3:=by
 rw[jfd,Bool.and_eq_true,Bool.and_eq_true] at h
 have key:∀ a:GA,jat a=true→a.args.length≤3:=fun a ha=>by
  unfold jat at ha;simp only[Bool.and_eq_true,decide_eq_true_eq] at ha;exact ha.1.2
 intro a ha;rcases List.mem_cons.1 ha with rfl|ha
 · exact key _ h.2.1
 obtain⟨p,hp,rfl⟩:=List.mem_map.1 ha;exact key _ (List.all_eq_true.1 h.1 p hp)
theorem jpl (v:Value) (l:List GR) (w:World) {S:Nat→Prop} (hv:jal S w v l) (he:ErrIs w) :
  Calls Tryz.prog 134 #[v] w fun e w'=>e=.returned (.int .i64 ((jag l:Nat):Int))∧Ext w w':=by
 obtain⟨A,c,rfl,hc1,hc2⟩:=jaa.form hv;have HV:=zh hv;have HE:=zh he;clear hv he
 go_enter Tryz.func134,Tryz.ntmps134;go_wp2;go_loopw [12] (fun i wr=>∃ k:Nat,k≤l.length∧i=.int .i64 k∧Hid ((l.take k).all jbd=true)∧Ext w wr) (fun i _=>l.length-(intOf i).toNat)
 case atStart=>exact⟨0,Nat.zero_le _,rfl,rfl,Ext.refl _⟩
 case round =>
  obtain⟨k,hk,rfl,hp,hx⟩:=hrel;have hk0:(0:Int)≤(k:Int):=by omega
  by_cases hlt:k<l.length
  · obtain ⟨b,off,x,v1,u1,rfl,hb,hxk,hxs,ht,hu,p0,p1,p2⟩:=jal.at_ (HV.out.ext hx) hlt
    obtain⟨C,e,rfl,he1,he2⟩:=jaa.form ht;obtain⟨D,f,rfl,hf1,hf2⟩:=jaa.form hu;have hk1:(k:Int)<(l.length:Int):=by omega
    have HK:=zh hxk;have hx0:=(Ext.refl wr).alloc (.cells #[.string x.head.n,.slice C x.head.args.length e,.slice D x.body.length f] 45);have hwb:=jai (jwd _ x.body _ (hu.ext hx0));have hwa:=fun (W:World) (hW:Ext wr W)=>jai (ji0 x.head _ W hxs (ht.ext hW))
    have HRB:=zh (Blk.new wr 45 #[.string x.head.n,.slice C x.head.args.length e,.slice D x.body.length f]);have HX0:=zh hx0;have hro:=jph x;clear hxk ht hu hx0;cases hbo:(decide (x.body.length≤4) && x.body.all jct)
    · have HF:=zh (show jag l=1 from by unfold jag;rw[if_pos (jbf jbd _ k x HK.out (by rw[hro,hbo];rfl))])
      have HW:=zh (hwb.2 hbo);clear hwb hwa hro hbo;go_wp2_with (go_at_call 116;refine HW.out.mono ?_;rintro e w1 ⟨rfl,hx1⟩)
      go_ret;exact⟨by rw[HF.out];rfl,(hx.alloc _).trans' hx1⟩
    have HW:=zh (hwb.1 hbo);cases hao:jat x.head
    · have HF:=zh (show jag l=1 from by unfold jag;rw[if_pos (jbf jbd _ k x HK.out (by rw[hro,hbo,hao];rfl))])
      have HWA:=zh (fun (W:World) (hW:Ext wr W)=>(hwa W hW).2 hao);clear hwb hwa hro hbo hao
      go_wp2_with (first
       | (go_at_call 116;refine HW.out.mono ?_;rintro e w1 ⟨rfl,hx1⟩;have hrb:=HRB.out.ext hx1;have q0:=hrb.cell 0;have q1:=hrb.cell 1;have hl1:=hrb.lt;have HX1:=zh hx1;clear hx1 hrb)
       | (go_at_call 165;refine (HWA.out _ (HX0.out.trans' HX1.out)).mono ?_;rintro e w2 ⟨rfl,hx2⟩))
      go_ret;exact⟨by rw[HF.out];rfl,((hx.alloc _).trans' HX1.out).trans' hx2⟩
    have HP:=zh (show (l.take (k+1)).all jbd=true from by rw[jbo jbd _ k x HK.out,hp.out,hro,hbo,hao];rfl);have HWA:=zh (fun (W:World) (hW:Ext wr W)=>(hwa W hW).1 hao);clear hwb hwa hro hbo hao
    go_wp2_with (first
     | (go_at_call 116;refine HW.out.mono ?_;rintro e w1 ⟨rfl,hx1⟩;have hrb:=HRB.out.ext hx1;have q0:=hrb.cell 0;have q1:=hrb.cell 1;have hl1:=hrb.lt;have HX1:=zh hx1;clear hx1 hrb)
     | (go_at_call 165;refine (HWA.out _ (HX0.out.trans' HX1.out)).mono ?_;rintro e w2 ⟨rfl,hx2⟩;have HX2:=zh (((hx.alloc _).trans' HX1.out).trans' hx2);clear hx2))
    go_roundw
    case rel=>exact⟨k+1,by omega,by go_num,HP,HX2.out⟩
    case measure=>simp[intOf];omega
  have hall:=jbm jbd _ k hlt hp.out;have hno:¬ l.all jbd=false:=by rw[hall];simp
  have hke:k=l.length:=by omega
  subst hke;by_cases h8:8<l.length
  · have HF:=zh (show jag l=2 from by unfold jag;rw[if_neg hno,if_pos h8])
    clear hno hall hp;go_wp2;go_ret;exact⟨by rw[HF.out];rfl,hx⟩
  have hl8:l.length≤8:=by omega
  have hbody:∀ r∈l,r.body.length≤4:=fun r hr=>jik (List.all_eq_true.1 hall r hr)
  have hargsl:∀ r∈l,∀ a∈jbh r,a.args.length≤1000:=fun r hr a ha=>Nat.le_trans (jmp (List.all_eq_true.1 hall r hr) a ha) (by omega)
  have HA:=zh (jn8 _ l wr (HV.out.ext hx) hl8 hbody hargsl);clear hbody hall hp hargsl;cases hargs:argsB (jap l)
  · have HF:=zh (show jag l=3 from by unfold jag;rw[if_neg hno,if_neg h8,if_pos hargs])
    rw[hargs] at HA;clear hargs hno;go_wp2_with (go_at_call 77;refine HA.out.mono ?_;rintro e w1 ⟨⟨B,n,rfl,_,_,_⟩,hx1⟩)
    go_ret;exact⟨by rw[HF.out];rfl,hx.trans' hx1⟩
  have HN3:=zh (show ¬ argsB (jap l)=false from by rw[hargs];simp);have HN1:=zh hno;rw[hargs] at HA;have HLO:=zh (fun (W:World) (hW:Ext w W)=>jai (jjv _ l W (HV.out.ext hW)));clear hargs hno;cases ht:l.all jce
  · have HF:=zh (show jag l=4 from by unfold jag;rw[if_neg HN1.out,if_neg h8,if_neg HN3.out,if_pos ht])
    have HL:=zh (fun (W:World) (hW:Ext w W)=>(HLO.out W hW).1 (by rw[ht];rfl));clear ht
    go_wp2_with (first
     | (go_at_call 77;refine HA.out.mono ?_;rintro e w1 ⟨⟨B,n,rfl,_,_,_⟩,hx1⟩;have HX1:=zh (hx.trans' hx1);clear hx1)
     | (go_at_call 179;refine (HL.out _ HX1.out).mono ?_;rintro e w2 ⟨rfl,hx2⟩;have HX2:=zh (HX1.out.trans' hx2);clear hx2))
    go_ret;exact⟨by rw[HF.out];rfl,HX2.out⟩
  have HN4:=zh (show ¬ l.all jce=false from by rw[ht];simp);have HL:=zh (fun (W:World) (hW:Ext w W)=>(HLO.out W hW).2 (by rw[ht];rfl));have HS:=zh (fun (W:World) (hW:Ext w W)=>jkt _ l W (HV.out.ext hW) hl8);clear ht
  go_wp2_with (first
   | (go_at_call 77;refine HA.out.mono ?_;rintro e w1 ⟨⟨B,n,rfl,_,_,_⟩,hx1⟩;have HX1:=zh (hx.trans' hx1);clear hx1)
   | (go_at_call 179;refine (HL.out _ HX1.out).mono ?_;rintro e w2 ⟨rfl,hx2⟩;have HX2:=zh (HX1.out.trans' hx2);clear hx2)
   | (go_at_call 159;refine (HS.out _ HX2.out).mono ?_;rintro e w3 ⟨hs3,hx3⟩
      have HX3:=zh (HX2.out.trans' hx3);clear hx3;rcases hs3 with ⟨o,hlow,hmet,g,rfl,hg,hb3⟩|⟨hcy,g,rfl⟩))
  · have HF:=zh (show jag l=0 from by unfold jag;rw[if_neg HN1.out,if_neg h8,if_neg HN3.out,if_neg HN4.out,if_neg (by rw[jqe hmet];simp)])
    clear hlow hmet hb3;go_wp2_with (go_at_call 181;refine (j1k _ _).mono ?_;rintro e w4 ⟨rfl,rfl⟩)
    go_ret;exact⟨by rw[HF.out];rfl,HX3.out.alloc _⟩
  have HF:=zh (show jag l=5 from by unfold jag;rw[if_neg HN1.out,if_neg h8,if_neg HN3.out,if_neg HN4.out,if_pos hcy]);have hsz:=HX3.out.size;clear hcy;go_wp2_with (go_at_call 181;refine (jwr _ _ _ _ (HE.out.ext (HX3.out.alloc _)) (Blk.new _ _ _)).mono ?_;rintro e w4 ⟨rfl,hx4⟩)
  go_ret;exact⟨by rw[HF.out];rfl,hx4 w (HX3.out.alloc _) hsz⟩
def fitsN (f:ByteArray→Option Nat) (a:GA):Bool:=match f a.n with
 | none=>true
 | some k=>decide (k=a.args.length)
theorem jrx (a:GA) (v:Value) (mc k:Nat) (f:ByteArray→Option Nat) (w:World) {S:Nat→Prop} (hv:jae S w v a.args) (hn:a.n.size≤maxLen) (hm:MapN w mc k f) :
  Calls Tryz.prog 271 #[.map (some mc),.agg #[.string a.n,v]] w fun e w'=>e=.returned (.bool (fitsN f a))∧Ext w w':=by
 obtain⟨A,c,rfl,hc1,hc2⟩:=jaa.form hv;have HM:=zh hm;clear hv hm
 cases hx:f a.n with
 | none =>
   have HT:=zh (show fitsN f a=true from by unfold fitsN;rw[hx]);have HF:=zh hx;clear hx
   go_enter Tryz.func271,Tryz.ntmps271;go_wp2_with (first|(at_lookup;go_loud (refine jb8 _ rfl _ _ rfl mc k f rfl (HM.out.alloc _) a.n rfl hn HF.out ?_))|fail)
   go_ret;rw[HT.out];exact⟨ja6 rfl,(Ext.refl _).alloc _⟩
 | some q =>
   have HT:=zh (show fitsN f a=decide ((q:Int)=(a.args.length:Int)) from by unfold fitsN;rw[hx];simp;omega);have HF:=zh hx;clear hx
   go_enter Tryz.func271,Tryz.ntmps271;go_wp2_with (first|(at_lookup;go_loud (refine ja5 _ rfl _ _ rfl mc k f rfl (HM.out.alloc _) a.n rfl hn q HF.out ?_))|fail)
   go_ret;rw[HT.out];exact⟨ja6 (by first|rfl|simp),(Ext.refl _).alloc _⟩
theorem jtl (v:Value) (l:List GR) (w:World) {S:Nat→Prop} (hv:jal S w v l) (he:ErrIs w) :
  Calls Tryz.prog 76 #[v] w fun e w'=>e=.returned (.bool (decide (jag l=0)))∧Ext w w':=by
 obtain⟨A,c,rfl,hc1,hc2⟩:=jaa.form hv;have HP:=zh (jpl _ l w hv he);obtain⟨q,hq⟩:∃ q,q=jag l:=⟨_,rfl⟩
 rw[← hq] at HP ⊢;have HT:=zh (show decide (q=0)=decide ((q:Int)=0) from by simp);clear hv hq he;rw[HT.out]
 go_enter Tryz.func76,Tryz.ntmps76;go_wp2_with (go_at_call 134;refine HP.out.mono ?_;rintro e w1 ⟨rfl,hx1⟩)
 go_ret;exact⟨ja6 (by first|rfl|simp),hx1⟩
theorem j0h {rules:List GR} {xs:List GA} (h:argsB (jap rules)=true):fitB rules xs=xs.all (fitsN (jax (jap rules))):=by
 unfold fitB
 congr 1
 funext a
 rw[Bool.eq_iff_iff]
 constructor
 · intro h1
   unfold fitsN
   cases hx:jax (jap rules) a.n with
   | none=>rfl
   | some k =>
     obtain⟨b,hb,hn,hk⟩:=jfo hx;have h2:=List.all_eq_true.1 h1 b hb;simp[hn] at h2;exact decide_eq_true (by omega)
 intro h1;refine List.all_eq_true.2 fun b hb=>?_
 by_cases hn:b.n=a.n
 · have hl:=of_decide_eq_true (List.all_eq_true.1 h b hb)
   rw[hn] at hl;unfold fitsN at h1;rw[hl] at h1;have h2:=of_decide_eq_true h1;simp[h2]
 simp[hn]
theorem j0i {l:List GR} (h:jag l=0):l.all jbd=true:=by
 cases ha:l.all jbd with
 | true=>rfl
 | false=>unfold jag at h;rw[if_pos ha] at h;cases h
theorem jry (v u:Value) (l:List GR) (xs:List GA) (w:World) {S T:Nat→Prop} (hv:jal S w v l) (hu:jac T w u xs) (he:ErrIs w) :
  Calls Tryz.prog 205 #[v,u] w fun e w'=>e=.returned (.bool (decide (jag l=0) && jbe xs 300 && fitB l xs))∧Ext w w':=by
 obtain⟨A,c,rfl,hc1,hc2⟩:=jaa.form hv;obtain⟨B,d,rfl,hd1,hd2⟩:=jaa.form hu;have HPF:=zh (jai (jtl _ l w hv he));have HFO:=zh (fun (W:World) (hW:Ext w W)=>jai (jfk _ xs W (hu.ext hW)));have HV:=zh hv;have HU:=zh hu;clear hv hu he;cases hp:decide (jag l=0)
 · have HP:=zh (HPF.out.2 hp)
   clear hp HPF
   go_enter Tryz.func205,Tryz.ntmps205;go_wp2_with (go_at_call 76;refine HP.out.mono ?_;rintro e w1 ⟨rfl,hx1⟩)
   go_ret;exact⟨ja6 (by first|rfl|simp),hx1⟩
 have HP:=zh (HPF.out.1 hp);have hp0:=of_decide_eq_true hp;have hc:=jhn hp0;have hok:=j0i hp0;have hbody:∀ r∈l,r.body.length≤4:=fun r hr=>jik (List.all_eq_true.1 hok r hr)
 have hargsl:∀ r∈l,∀ a∈jbh r,a.args.length≤1000:=fun r hr a ha=>Nat.le_trans (jmp (List.all_eq_true.1 hok r hr) a ha) (by omega)
 have HA:=zh (fun (W:World) (hW:Ext w W)=>jn8 _ l W (HV.out.ext hW) hc.2.1 hbody hargsl);rw[j0h hc.2.2.1];have hargs:=hc.2.2.1;obtain⟨F,hF⟩:∃ F,F=jax (jap l):=⟨_,rfl⟩
 rw[← hF];rw[← hF,hargs] at HA;obtain⟨fb,hfb⟩:∃ fb,fb=xs.all (fitsN F):=⟨_,rfl⟩
 rw[← hfb];have HB:=zh hfb;clear hp HPF hp0 hc hok hbody hargsl hF hfb hargs;cases hf:jbe xs 300
 · have HFF:=zh (fun W hW=>(HFO.out W hW).2 hf)
   clear hf HFO
   go_enter Tryz.func205,Tryz.ntmps205
   go_wp2_with (first
    | (go_at_call 76;refine HP.out.mono ?_;rintro e w1 ⟨rfl,hx1⟩)
    | (go_at_call 79;refine (HFF.out _ hx1).mono ?_;rintro e w2 ⟨rfl,hx2⟩))
   go_ret;exact⟨ja6 (by first|rfl|simp),hx1.trans' hx2⟩
 have HFF:=zh (fun W hW=>(HFO.out W hW).1 hf);clear hf HFO
 go_enter Tryz.func205,Tryz.ntmps205
 go_wp2_with (first
  | (go_at_call 76;refine HP.out.mono ?_;rintro e w1 ⟨rfl,hx1⟩)
  | (go_at_call 79;refine (HFF.out _ hx1).mono ?_;rintro e w2 ⟨rfl,hx2⟩)
  | (go_at_call 77;refine (HA.out _ (hx1.trans' hx2)).mono ?_;rintro e w3 ⟨⟨mc,n,rfl,hmc,hn40,hm⟩,hx3⟩;have HM:=zh hm;have HX3:=zh ((hx1.trans' hx2).trans' hx3);clear hm))
 go_loopw [24] (fun i wr=>∃ k:Nat,k≤xs.length∧i=.int .i64 k∧Hid ((xs.take k).all (fitsN F)=true)∧Ext w3 wr) (fun i _=>xs.length-(intOf i).toNat)
 case atStart=>exact⟨0,Nat.zero_le _,rfl,zh rfl,Ext.refl _⟩
 case round =>
  obtain⟨k,hk,rfl,hq,hx⟩:=hrel;have hk0:(0:Int)≤(k:Int):=by omega
  by_cases hlt:k<xs.length
  · obtain ⟨b,off,x,v1,rfl,hb,hxk,hxs,ht,p0,p1⟩:=jac.at_ (HU.out.ext (HX3.out.trans' hx)) hlt
    obtain⟨C,e,rfl,he1,he2⟩:=jaa.form ht;have hk1:(k:Int)<(xs.length:Int):=by omega
    obtain⟨tb,htb⟩:∃ tb,tb=fitsN F x:=⟨_,rfl⟩
    have HW:=zh (fun (W:World) (hW:Ext wr W)=>jrx x _ mc n F W (ht.ext hW) hxs (HM.out.ext ((hx.trans' hW).block _ HM.out.lt)));rw[← htb] at HW;have HTS:=zh (show (xs.take (k+1)).all (fitsN F)=tb from by rw[List.take_add_one,hxk,List.all_append,hq.out,htb];simp);have HTA:=zh (show tb=false→fb=false from fun h=>HB.out.trans (jbf (fitsN F) _ k x hxk (by rw[← htb];exact h)));clear hxk ht htb;cases tb
    · have HTZ:=HTA.out rfl
      clear HTA HTS;subst HTZ;go_wp2_with (go_at_call 271;refine (HW.out _ ((Ext.refl _).alloc _)).mono ?_;rintro e w4 ⟨rfl,hx4⟩)
      go_ret;exact⟨ja6 (by first|rfl|simp),HX3.out.trans' (hx.trans' (((Ext.refl _).alloc _).trans' hx4))⟩
    clear HTA;go_wp2_with (go_at_call 271;refine (HW.out _ ((Ext.refl _).alloc _)).mono ?_;rintro e w4 ⟨rfl,hx4⟩)
    go_roundw
    case rel=>exact⟨k+1,by omega,by go_num,HTS,hx.trans' (((Ext.refl _).alloc _).trans' hx4)⟩
    case measure=>simp[intOf];omega
  have HZ:=jbm (fitsN F) _ k hlt hq.out;have HZZ:=HB.out.trans HZ;clear HZ;subst HZZ;go_wp2;go_ret;exact⟨ja6 (by first|rfl|simp),HX3.out.trans' hx⟩
theorem jws (l:List GR) (xs:List GA):jbx l xs=(decide (xs.length≤40) && (decide (jag l=0) && jbe xs 300 && fitB l xs)):=by
 unfold jbx jbe;by_cases h:xs.length≤40
 · have h3:xs.length≤300:=by omega
   simp[h,h3]
 simp[h]
theorem jm3 (v u:Value) (l:List GR) (xs:List GA) (w:World) {S T:Nat→Prop} (hv:jal S w v l) (hu:jac T w u xs) (he:ErrIs w) :
  Calls Tryz.prog 157 #[v,u] w fun e w'=>e=.returned (.bool (jbx l xs))∧Ext w w':=by
 obtain⟨A,c,rfl,hc1,hc2⟩:=jaa.form hv;obtain⟨B,d,rfl,hd1,hd2⟩:=jaa.form hu;rw[jws];have HFF:=zh (jry _ _ l xs w hv hu he);obtain⟨q,hq⟩:∃ q,q=(decide (jag l=0) && jbe xs 300 && fitB l xs):=⟨_,rfl⟩
 rw[← hq] at HFF ⊢;clear hv hu he hq;by_cases h:xs.length≤40
 · have hg:decide (xs.length≤40)=true:=decide_eq_true h
   rw[hg];have hz:(xs.length:Int)≤40:=by omega
   clear h hg
   go_enter Tryz.func157,Tryz.ntmps157;go_wp2_with (go_at_call 205;refine HFF.out.mono ?_;rintro e w1 ⟨rfl,hx1⟩)
   go_ret;exact⟨ja6 (by first|rfl|simp),hx1⟩
 have hg:decide (xs.length≤40)=false:=decide_eq_false h;rw[hg];have hz:¬ (xs.length:Int)≤40:=by omega
 clear h hg
 go_enter Tryz.func157,Tryz.ntmps157;go_wp2;go_ret;exact⟨ja6 (by first|rfl|simp),Ext.refl _⟩
end Go.Proofs.YthdojieomhighaaGreatDoor
