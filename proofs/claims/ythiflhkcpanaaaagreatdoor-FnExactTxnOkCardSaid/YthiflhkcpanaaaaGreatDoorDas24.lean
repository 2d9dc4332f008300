/- Own texts, joined. -/
import Derived.Test.YthiflhkcpanaaaaGreatDoorDas23
import Derived.Laws.StructEq
set_option linter.unusedSimpArgs false
set_option linter.unusedVariables false
set_option maxHeartbeats 8000000
set_option maxRecDepth 100000
namespace Go.Proofs.YthiflhkcpanaaaaGreatDoor
open Go.RowKit
theorem jxf {l:List GR} {k:Nat} {r:GR} (h:l[k]? = some r):heads (l.take (k+1))=if (idxB (heads (l.take k)) r.head.n).isSome then heads (l.take k) else heads (l.take k)++[r.head.n]:=by
 obtain⟨hk,rfl⟩:=List.getElem?_eq_some_iff.1 h;rw[List.take_succ_eq_append_getElem hk,jwm]
theorem jnk (v:Value) (l:List GR) (w:World) {S:Nat->Prop} (hv:jam S w v l) (hl:l.length<=8) :
  Calls Tryz.prog 231 #[v] w fun e w'=>(e=.returned (.map (some w.heap.size))/\MapN w' w.heap.size (heads l).length (idxB (heads l)))/\Ext w w':=by
 obtain⟨A,c,rfl,hc1,hc2⟩:=jaa.form hv;have HV:=zh (show jam (fun b=>b<w.heap.size) w (.slice A l.length c) l from ListK.sub (k:=kRule) (ListK.low (k:=kRule) hv) (fun b hb=>hb.2));have hmm:= @run_makeMap Tryz.prog;clear hv
 go_in;go_wp2;clear hmm;go_loopw [11] (fun i wr=>∃ k:Nat,k<=l.length/\i=.int .i64 k/\J1 (MapN wr w.heap.size (heads (l.take k)).length (idxB (heads (l.take k))))/\Ext w wr) (fun i _=>l.length-(intOf i).toNat)
 case atStart=>exact⟨0,Nat.zero_le _,rfl,(MapN.made w).same (fun _=>rfl),(Ext.refl _).alloc _⟩
 case round =>
  obtain⟨k,hk,rfl,hm,hx⟩:=hrel;have hk0:(0:Int)<=(k:Int):=by omega
  by_cases hlt:k<l.length
  . have hk1:(k:Int)<(l.length:Int):=by omega
    obtain⟨b,off,r,v1,u1,rfl,hb,hrk,hrs,ht,hu,p0,p1,p2⟩:=jam.at_ HV.o hlt;obtain⟨C,e,rfl,he1,he2⟩:=jaa.form ht;obtain⟨D,f,rfl,hf1,hf2⟩:=jaa.form hu;have r0:=(hx.cells.1 b (off+k*3) hb).trans p0;have r1:=(hx.cells.1 b (off+k*3+1) hb).trans p1;have r2:=(hx.cells.1 b (off+k*3+2) hb).trans p2;have hle:=jq6 (l.take k);have hlk:(l.take k).length<=k:=List.length_take_le _ _;have hnx:=jxf hrk;clear p0 p1 p2 hrk ht hu;have hlm:=hm.o.lt
    cases hf:idxB (heads (l.take k)) r.head.n with
    | none =>
      rw[hf] at hnx;obtain⟨n,hn⟩:=nm ((heads (l.take k)).length);have HN:=zh (show n+1=(heads (l.take (k+1))).length from by rw[hnx,hn];simp)
      have HFN:=zh (show ∀ x,(if x=r.head.n then some n else idxB (heads (l.take k)) x)=idxB (heads (l.take (k+1))) x from fun x=>by
       rw[hnx,hn];simp only[Option.isSome_none,Bool.false_eq_true,if_false];rw[jih];by_cases e:x=r.head.n
       . rw[if_pos e,e,hf,if_pos rfl]
       rw[if_neg e,if_neg (fun h=>e h.symm)];cases idxB (heads (l.take k)) x<;>rfl)
      have HF:=zh hf;rw[<- hn] at hm hle;clear hf hnx hn
      go_wp2_with (first
       | (at_lookup;refine jb8 _ rfl _ _ rfl w.heap.size n (idxB (heads (l.take k))) rfl (hm.o.alloc _) r.head.n rfl hrs HF.o ?_)
       | (at_len;refine jbr _ rfl _ rfl w.heap.size n (idxB (heads (l.take k))) rfl (hm.o.alloc _) ?_)
       | (at_mapUpdate;refine jen _ rfl _ _ _ rfl w.heap.size n (idxB (heads (l.take k))) rfl (hm.o.alloc _) (by omega) r.head.n rfl hrs n rfl (by omega) ?_;intro w1 hm1 hg1;have HM1:=zh hm1;have HG1:=zh hg1;clear hm1 hg1))
      go_roundw
      case rel =>
       have hm1:=HM1.o;rw[HF.o] at hm1;refine⟨k+1,by omega,by go_num,zh (by rw[<- HN.o];exact hm1.same HFN.o),Below.trans (hx.alloc _) (jhi HG1.o (fun g hg=>?_) (by go_size))⟩;injection hg with hg
       omega
      case measure=>simp[intOf];omega
    | some m =>
      rw[hf] at hnx;have HE:=zh (show heads (l.take k)=heads (l.take (k+1)) from by rw[hnx];simp);have HF:=zh hf;clear hf hnx;go_wp2_with (at_lookup;refine ja5 _ rfl _ _ rfl w.heap.size _ (idxB (heads (l.take k))) rfl (hm.o.alloc _) r.head.n rfl hrs m HF.o ?_)
      go_roundw
      case rel=>exact⟨k+1,by omega,by go_num,zh (by rw[<- HE.o];exact hm.o.alloc _),hx.alloc _⟩
      case measure=>simp[intOf];omega
  have hke:k=l.length:=by omega
  subst hke;rw[List.take_length] at hm;go_wp2;go_ret;exact⟨⟨rfl,hm.o⟩,hx⟩
section
open Go.RowKit
def sumAt (w:World) (g:Nat):Nat:=match w.heap[g]? with
 | some (.cells cs _ _)=>(cs.toList.map fun v=>(intOf v).toNat).sum
 | _=>0
theorem jv0:∀ o:List Nat,o.map ((fun v=>(intOf v).toNat) ∘ fun x=>Value.int .i64 ((x:Nat):Int))=o
 | []=>rfl
 | x :: o=>by rw[List.map_cons,jv0 o];rfl
theorem jor {w:World} {g:Nat} {o:List Nat} (h:Blk w g 3 (ints o)):sumAt w g=o.sum:=by
 unfold sumAt;unfold Blk at h;rw[h];unfold ints;simp only[List.map_map];rw[jv0]
def jhy (l:List GR) (o:List Nat):List Nat:=l.map fun r=>at0 o ((idxB (heads l) r.head.n).getD 0)
structure AtO (w:World) (g:Nat) (l:List GR) (wr:World) (o:List Nat):Prop where
 blk:Blk wr g 3 (ints o)
 low:Low l o
 map:MapN wr w.heap.size (heads l).length (idxB (heads l))
 ext:Ext w wr
theorem AtO.alloc {w wr:World} {g:Nat} {l:List GR} {o:List Nat} (h:AtO w g l wr o) (b:Obj):AtO w g l (wr.alloc b) o:=⟨h.blk.alloc _,h.low,h.map.alloc _,h.ext.alloc _⟩
theorem AtO.set {w wr:World} {g:Nat} {l:List GR} {o:List Nat} (h:AtO w g l wr o) (hg:w.heap.size<g) (i v:Nat) (hl:Low l (o.set i v)):AtO w g l (wr.setCell ⟨g,i,none⟩ (.int .i64 ((v:Nat):Int))) (o.set i v) :=
 ⟨h.blk.intSet i v,hl,h.map.setCell (show w.heap.size≠g by omega) _,h.ext.setNew (show w.heap.size<=g by omega) _⟩
theorem AtO.far {w wr:World} {g:Nat} {l:List GR} {o:List Nat} (h:AtO w g l wr o) {p:Addr} (hp:g≠p.block) (hq:w.heap.size<p.block) (u:Value):AtO w g l (wr.setCell p u) o :=
 ⟨h.blk.far hp u,h.low,h.map.setCell (Nat.ne_of_lt hq) u,h.ext.setNew (Nat.le_of_lt hq) u⟩
def jxg (w w':World) (l:List GR) (e:Ending):Prop :=
 (∃ o,Low l o/\(∀ r∈l,∀ p∈r.body,metB l o r p)/\∃ g,e=.returned (.tuple #[.slice (some ⟨g,0,none⟩) l.length l.length,.nilIface])/\w.heap.size<g/\Blk w' g 3 (ints (jhy l o)))
  ∨ (jdp l=true/\∃ g,e=.returned (.tuple #[.slice none 0 0,.iface 271 (.pointer (some ⟨g,0,none⟩))]))
theorem jzu {l:List GR} {o:List Nat} {r:GR} {p:GP} (h:idxB (heads l) p.atom.n=none):metB l o r p:=fun j own h1 _=>by rw[h] at h1;cases h1
theorem jsk {l:List GR} {o:List Nat} {r:GR} {p:GP} {j own:Nat} (h:idxB (heads l) p.atom.n=some j) (k:idxB (heads l) r.head.n=some own) (hle:at0 o j+one p.no<=at0 o own):metB l o r p:=fun j' own' h1 h2=>by
 have e1:=Option.some.inj (h.symm.trans h1);have e2:=Option.some.inj (k.symm.trans h2);rw[<- e1,<- e2];exact hle
def fillL (xs:List Nat) (k:Nat):List Nat:=xs.take k++List.replicate (xs.length-k) 0
theorem jxh (xs:List Nat):List.replicate xs.length 0=fillL xs 0:=by simp[fillL]
theorem jzv (xs:List Nat):fillL xs xs.length=xs:=by simp[fillL]
theorem jzw {xs:List Nat} {k v:Nat} (h:xs[k]? = some v):(fillL xs k).set k v=fillL xs (k+1):=by
 obtain⟨hk,rfl⟩:=List.getElem?_eq_some_iff.1 h;unfold fillL;have h1:(xs.take k).length=k:=by rw[List.length_take];omega
 rw[List.set_append,if_neg (by omega),h1,Nat.sub_self,List.take_succ_eq_append_getElem hk,List.append_assoc,show xs.length-k=(xs.length-(k+1))+1 from by omega,List.replicate_succ,List.set_cons_zero]
 rfl
theorem jzx {xs:List Nat} {k:Nat} (h:k<=xs.length):(fillL xs k).length=xs.length:=by
 unfold fillL;rw[List.length_append,List.length_take,List.length_replicate];omega
def juj (m:Value):Bool:=match m with
 | .bool b=>b
 | _=>false
theorem jkv (v:Value) (l:List GR) (w:World) {S:Nat->Prop} (hv:jam S w v l) (hl:l.length<=8) :
  Calls Tryz.prog 191 #[v] w fun e w'=>jxg w w' l e/\Ext w w':=by
 have HP:=zh (jnk v l w hv hl);obtain⟨A,c,rfl,hc1,hc2⟩:=jaa.form hv;have HV:=zh (show jam (fun b=>b<w.heap.size) w (.slice A l.length c) l from ListK.sub (k:=kRule) (ListK.low (k:=kRule) hv) (fun b hb=>hb.2));obtain⟨n,hn⟩:=nm ((heads l).length);have hn8:n<=8:=by rw[hn];exact Nat.le_trans (jq6 l) hl
 have hmk:=jlh n (by omega);have HMK2:=zh (jlh l.length (by omega));have HN:=zh hn;rw[<- hn] at HP;clear hv hn
 go_in
 go_wp2_with (first
  | (go_at_call 231;refine HP.o.mono ?_;rintro e w1 ⟨⟨rfl,hm1⟩,hx1⟩;have hz1:=hm1.lt;have HM1:=zh hm1;have HX1:=zh hx1;clear hm1 hx1)
  | (at_len;refine jbr _ rfl _ rfl w.heap.size n (idxB (heads l)) rfl HM1.o ?_))
 clear hmk;go_loopw [6] (fun m wr=>∃ (o:List Nat) (b:Bool),m=.bool b/\J1 (AtO w w1.heap.size l wr o)/\J1 (b=false->∀ r∈l,∀ p∈r.body,metB l o r p)) (fun m wr=>if juj m then 100-sumAt wr w1.heap.size else 0)
 case atStart =>
  refine⟨List.replicate n 0,true,rfl,zh ⟨Blk.new _ _ _,?_,?_,HX1.o.alloc _⟩,zh (fun h=>by cases h)⟩
  . rw[HN.o];exact Low.start l
  rw[<- HN.o];exact HM1.o.alloc _
 case round =>
  obtain⟨o0,b0,rfl,hat,hmet⟩:=hrel;have HS0:=zh (jor hat.o.blk);have HL0:=zh hat.o.low.sum_le
  cases b0 with
  | true =>
    go_wp2;go_loopw [6,26] (fun m i wr=>∃ (k:Nat) (o:List Nat) (b:Bool),k<=l.length/\i=.int .i64 k/\m=.bool b/\J1 (AtO w w1.heap.size l wr o)/\J1 (Pass l o0 o b k 0)) (fun _ i _=>l.length-(intOf i).toNat)
    case atStart=>exact⟨0,o0,false,Nat.zero_le _,rfl,rfl,hat,Pass.start l o0⟩
    case round =>
     obtain⟨k,o,b,hk,rfl,rfl,hat,hps⟩:=hrel;have hk0:(0:Int)<=(k:Int):=by omega
     by_cases hlt:k<l.length
     . have hk1 : (k:Int)<(l.length:Int):=by omega
       obtain⟨b,off,r,v1,u1,rfl,hb,hrk,hrs,ht,hu,p0,p1,p2⟩:=jam.at_ HV.o hlt;obtain⟨C,e,rfl,he1,he2⟩:=jaa.form ht;obtain⟨D,f,rfl,hf1,hf2⟩:=jaa.form hu;have r0:=(hat.o.ext.cells.1 b (off+k*3) hb).trans p0;have r1:=(hat.o.ext.cells.1 b (off+k*3+1) hb).trans p1;have r2:=(hat.o.ext.cells.1 b (off+k*3+2) hb).trans p2;clear p0 p1 p2;obtain⟨own,hown⟩:=jcq (jcs.2 ⟨r,List.mem_of_getElem? hrk,rfl⟩);have hon:=jc9 hown;have HRK:=zh hrk;have hlw:=hat.o.blk.lt;have HOWN:=zh hown;have HU:=zh hu;have HT:=zh ht;have hon2:own<n:=by rw[HN.o];exact hon
       have HMA:=zh (show MapN wr w.heap.size n (idxB (heads l)) from by rw[HN.o];exact hat.o.map);clear hrk hown hu ht hon;go_wp2_with (at_lookup;refine jhf _ rfl _ _ rfl w.heap.size n (idxB (heads l)) rfl (HMA.o.alloc _) r.head.n rfl hrs own HOWN.o ?_)
       go_loopw [6,38] (fun m i wq=>∃ (q:Nat) (o:List Nat) (b:Bool),q<=r.body.length/\i=.int .i64 q/\m=.bool b/\J1 (AtO w w1.heap.size l wq o)/\J1 (Pass l o0 o b k q)/\J1 (Blk wq wr.heap.size 178 #[.string r.head.n,.slice C r.head.args.length e,.slice D r.body.length f])) (fun _ i _=>r.body.length-(intOf i).toNat)
       case atStart=>exact⟨0,o,_,Nat.zero_le _,rfl,rfl,zh (hat.o.alloc _),hps.o,Blk.new _ _ _⟩
       case round =>
        obtain⟨q,o,b,hq,rfl,rfl,hat,hpass,hrb⟩:=hrel;have hq0:(0:Int)<=(q:Int):=by omega
        by_cases hqt:q<r.body.length
        . have hq1 : (q:Int)<(r.body.length:Int):=by omega
          obtain⟨b2,off2,p,v2,rfl,hb2,hpk,hps2,htp,z0,z1,z2⟩:=jao.at_ HU.o hqt;obtain⟨E2,g2,rfl,_,_⟩:=jaa.form htp;have s0:=(hat.o.ext.cells.1 b2 (off2+q*3) hb2).trans z0;have s1:=(hat.o.ext.cells.1 b2 (off2+q*3+1) hb2).trans z1;have s2:=(hat.o.ext.cells.1 b2 (off2+q*3+2) hb2).trans z2;have HPK:=zh hpk;have HQA:=zh (hat.o.alloc (.cells #[.bool p.no,.string p.atom.n,.slice E2 p.atom.args.length g2] 137));have HQB:=zh (hrb.o.alloc (.cells #[.bool p.no,.string p.atom.n,.slice E2 p.atom.args.length g2] 137));have HQM:=zh (show MapN _ w.heap.size n (idxB (heads l)) from by rw[HN.o];exact HQA.o.map);have hol:o.length=n:=by rw[HN.o];exact hat.o.low.1
          have HOL:=zh (show own<o.length by omega);clear z0 z1 z2 hpk htp
          cases hfj:idxB (heads l) p.atom.n with
          | none =>
            have HM:=zh (jzu (o:=o) (r:=r) hfj);have HFJ:=zh hfj;clear hfj;go_wp2_with (at_lookup;refine jb8 _ rfl _ _ rfl w.heap.size n (idxB (heads l)) rfl HQM.o p.atom.n rfl hps2 HFJ.o ?_)
            go_roundw
            case rel=>exact⟨q+1,o,b,by omega,by go_num,rfl,HQA.o,hpass.o.part HRK.o HPK.o HM.o,HQB.o⟩
            case measure=>simp[intOf];omega
          | some j2 =>
            have hj2:j2<n:=by rw[HN.o];exact jc9 hfj
            have HFJ:=zh hfj;obtain⟨x,hx2⟩:=nm (at0 o j2);obtain⟨y,hy2⟩:=nm (at0 o own);have cj:=HQA.o.blk.int (i:=j2) (by omega);have co:=HQA.o.blk.int (i:=own) (by omega);have fo:=HQA.o.blk.frozen own;rw[<- hx2] at cj;rw[<- hy2] at co;have hxb:x<8:=by have:=hat.o.low.2.1 j2 (by omega);omega
            have hyb:y<8:=by have:=hat.o.low.2.1 own (by omega);omega
            have HX2:=zh hx2;have HY2:=zh hy2;have hlg:=HQA.o.blk.lt;clear hx2 hy2 hfj;cases hno:p.no
            . rw [hno] at s0 HQA HQB HQM cj co fo hlg
              have hq0:(0:Int)<=(x:Int):=by omega
              by_cases hge:x<=y
              . have hg1:decide ((y:Int)>=(x:Int))=true:=decide_eq_true (by omega)
                have HM:=zh (jsk (p:=p) HFJ.o HOWN.o (show at0 o j2+one p.no<=at0 o own from by rw[hno,<- HX2.o,<- HY2.o];exact hge));clear hno;go_wp2_with (at_lookup;refine ja5 _ rfl _ _ rfl w.heap.size n (idxB (heads l)) rfl HQM.o p.atom.n rfl hps2 j2 HFJ.o ?_)
                go_roundw
                case rel=>exact⟨q+1,o,b,by omega,by go_num,rfl,HQA.o,hpass.o.part HRK.o HPK.o HM.o,HQB.o⟩
                case measure=>simp[intOf];omega
              have hg1:decide ((y:Int)>=(x:Int))=false:=decide_eq_false (by omega);by_cases hbig:n<=x
              . have hg2:decide ((x:Int)>=(n:Int))=true:=decide_eq_true (by omega)
                have HCY:=zh (hat.o.low.cycle (p:=p) (r:=r) (j:=j2) (List.mem_of_getElem? HRK.o) (List.mem_of_getElem? HPK.o) HFJ.o (by rw[hno,<- HX2.o,<- HN.o];exact hbig));clear hno
                go_wp2_with (first
                 | (at_lookup;refine ja5 _ rfl _ _ rfl w.heap.size n (idxB (heads l)) rfl HQM.o p.atom.n rfl hps2 j2 HFJ.o ?_)
                 | (at_len;refine jbr _ rfl _ rfl w.heap.size n (idxB (heads l)) rfl HQM.o ?_))
                have rc0:=HQB.o.cell 0
                go_region
                go_wp2;go_ret2;exact⟨.inr ⟨HCY.o,_,rfl⟩,((hat.o.ext.alloc _).alloc _).drew⟩
              have hg2:decide ((x:Int)>=(n:Int))=false:=decide_eq_false (by omega);have HLOW:=zh (hat.o.low.set (p:=p) (r:=r) (j:=j2) (own:=own) (List.mem_of_getElem? HRK.o) (List.mem_of_getElem? HPK.o) HFJ.o HOWN.o (by rw[hno,<- HX2.o,<- HN.o];exact Nat.lt_of_not_le hbig));have HMV:=zh (hpass.o.moved (own:=own) (v:=at0 o j2+one p.no) HOL.o (by rw[hno,<- HX2.o,<- HY2.o];exact Nat.lt_of_not_le hge));rw[hno,<- HX2.o] at HLOW HMV;clear hno
              go_wp2_with (first
               | (at_lookup;refine ja5 _ rfl _ _ rfl w.heap.size n (idxB (heads l)) rfl HQM.o p.atom.n rfl hps2 j2 HFJ.o ?_)
               | (at_len;refine jbr _ rfl _ rfl w.heap.size n (idxB (heads l)) rfl HQM.o ?_))
              go_roundw
              case rel=>exact⟨q+1,o.set own (x+0),true,by omega,by go_num,rfl,zh (by simpa using HQA.o.set hz1 own (x+0) HLOW.o),HMV.o,zh (HQB.o.far (p:=⟨w1.heap.size,own,none⟩) (by show _≠w1.heap.size;omega) _)⟩
              case measure=>simp[intOf];omega
            rw[hno] at s0 HQA HQB HQM cj co fo hlg;have hq0:(0:Int)<=(x:Int):=by omega
            by_cases hge:x+1<=y
            . have hg1:decide ((y:Int)>=(x:Int)+1)=true:=decide_eq_true (by omega)
              have HM:=zh (jsk (p:=p) HFJ.o HOWN.o (show at0 o j2+one p.no<=at0 o own from by rw[hno,<- HX2.o,<- HY2.o];exact hge));clear hno;go_wp2_with (at_lookup;refine ja5 _ rfl _ _ rfl w.heap.size n (idxB (heads l)) rfl HQM.o p.atom.n rfl hps2 j2 HFJ.o ?_)
              go_roundw
              case rel=>exact⟨q+1,o,b,by omega,by go_num,rfl,HQA.o,hpass.o.part HRK.o HPK.o HM.o,HQB.o⟩
              case measure=>simp[intOf];omega
            have hg1:decide ((y:Int)>=(x:Int)+1)=false:=decide_eq_false (by omega);by_cases hbig:n<=x+1
            . have hg2:decide ((x:Int)+1>=(n:Int))=true:=decide_eq_true (by omega)
              have HCY:=zh (hat.o.low.cycle (p:=p) (r:=r) (j:=j2) (List.mem_of_getElem? HRK.o) (List.mem_of_getElem? HPK.o) HFJ.o (by rw[hno,<- HX2.o,<- HN.o];exact hbig));clear hno
              go_wp2_with (first
               | (at_lookup;refine ja5 _ rfl _ _ rfl w.heap.size n (idxB (heads l)) rfl HQM.o p.atom.n rfl hps2 j2 HFJ.o ?_)
               | (at_len;refine jbr _ rfl _ rfl w.heap.size n (idxB (heads l)) rfl HQM.o ?_))
              have rc0:=HQB.o.cell 0
              go_region
              go_wp2;go_ret2;exact⟨.inr ⟨HCY.o,_,rfl⟩,((hat.o.ext.alloc _).alloc _).drew⟩
            have hg2:decide ((x:Int)+1>=(n:Int))=false:=decide_eq_false (by omega);have HLOW:=zh (hat.o.low.set (p:=p) (r:=r) (j:=j2) (own:=own) (List.mem_of_getElem? HRK.o) (List.mem_of_getElem? HPK.o) HFJ.o HOWN.o (by rw[hno,<- HX2.o,<- HN.o];exact Nat.lt_of_not_le hbig));have HMV:=zh (hpass.o.moved (own:=own) (v:=at0 o j2+one p.no) HOL.o (by rw[hno,<- HX2.o,<- HY2.o];exact Nat.lt_of_not_le hge));rw[hno,<- HX2.o] at HLOW HMV;clear hno
            go_wp2_with (first
             | (at_lookup;refine ja5 _ rfl _ _ rfl w.heap.size n (idxB (heads l)) rfl HQM.o p.atom.n rfl hps2 j2 HFJ.o ?_)
             | (at_len;refine jbr _ rfl _ rfl w.heap.size n (idxB (heads l)) rfl HQM.o ?_))
            go_roundw
            case rel=>exact⟨q+1,o.set own (x+1),true,by omega,by go_num,rfl,zh (by simpa using HQA.o.set hz1 own (x+1) HLOW.o),HMV.o,zh (HQB.o.far (p:=⟨w1.heap.size,own,none⟩) (by show _≠w1.heap.size;omega) _)⟩
            case measure=>simp[intOf];omega
        have hje:r.body.length<=q:=by omega
        go_wp2;go_roundw
        case rel=>exact⟨k+1,o,b,by omega,by go_num,rfl,hat,hpass.o.rule HRK.o hje⟩
        case measure=>simp[intOf];omega
     . have hkl:l.length<=k:=by omega
       have HS1:=zh (jor hat.o.blk);go_wp2;go_roundw
       case rel =>
        refine⟨o,b,rfl,hat,zh (fun hb=>?_)⟩;subst hb;exact (hps.o.done hkl).2
       case measure =>
        have h1:=HS0.o;have h2:=HL0.o;have h3:=HS1.o;rw[<- HN.o] at h2;have h6:n*n<=8*8:=Nat.mul_le_mul hn8 hn8;have h4:o.sum<=64:=Nat.le_trans hat.o.low.sum_le (by rw[<- HN.o];exact Nat.mul_le_mul hn8 hn8)
        cases b with
        | true =>
          have h5:=hps.o.1 rfl;simp only[juj,if_true];omega
        | false =>
          simp[juj];omega
  | false =>
    have HM:=zh (hmet.o rfl);have hmk2:=HMK2.o;have HSN:=zh (show (jhy l o0).length=l.length from List.length_map _);have hlw:=hat.o.blk.lt;go_wp2;clear hmk2;go_loopw [87] (fun i wq=>∃ k:Nat,k<=l.length/\i=.int .i64 k/\J1 (AtO w w1.heap.size l wq o0)/\J1 (Blk wq wr.heap.size 3 (ints (fillL (jhy l o0) k)))) (fun i _=>l.length-(intOf i).toNat)
    case atStart =>
     refine⟨0,Nat.zero_le _,rfl,zh (hat.o.alloc _),?_⟩;rw[<- jxh,HSN.o];exact Blk.new _ _ _
    case round =>
     obtain⟨k,hk,rfl,hat2,hst⟩:=hrel;have hk0:(0:Int)<=(k:Int):=by omega
     by_cases hlt:k<l.length
     . have hk1:(k:Int)<(l.length:Int):=by omega
       obtain⟨b,off,r,v1,u1,rfl,hb,hrk,hrs,ht,hu,p0,p1,p2⟩:=jam.at_ HV.o hlt;obtain⟨C,e,rfl,he1,he2⟩:=jaa.form ht;obtain⟨D,f,rfl,hf1,hf2⟩:=jaa.form hu;have r0:=(hat2.o.ext.cells.1 b (off+k*3) hb).trans p0;have r1:=(hat2.o.ext.cells.1 b (off+k*3+1) hb).trans p1;have r2:=(hat2.o.ext.cells.1 b (off+k*3+2) hb).trans p2;clear p0 p1 p2 ht hu;obtain⟨own,hown⟩:=jcq (jcs.2 ⟨r,List.mem_of_getElem? hrk,rfl⟩);have hon:=jc9 hown;have hon2:own<n:=by rw[HN.o];exact hon
       have HOWN:=zh hown;have HSK:=zh (show (jhy l o0)[k]? = some (at0 o0 own) from by unfold jhy;rw[List.getElem?_map,hrk];simp[hown]);have HQA:=zh (hat2.o.alloc (.cells #[.string r.head.n,.slice C r.head.args.length e,.slice D r.body.length f] 178));have HQS:=zh (hst.o.alloc (.cells #[.string r.head.n,.slice C r.head.args.length e,.slice D r.body.length f] 178));have HQM:=zh (show MapN _ w.heap.size n (idxB (heads l)) from by rw[HN.o];exact HQA.o.map);have hol:o0.length=n:=by rw[HN.o];exact hat2.o.low.1
       have hfl:=jzx (xs:=jhy l o0) (k:=k) (by rw[HSN.o];exact hk);rw[HSN.o] at hfl;obtain⟨x,hx2⟩:=nm (at0 o0 own);have co:=HQA.o.blk.int (i:=own) (by omega);rw[<- hx2] at co HSK;have cs:=HQS.o.int (i:=k) (by omega);have fs:=HQS.o.frozen k;have hls:=HQS.o.lt;clear hrk hown hon hx2 hfl;go_wp2_with (at_lookup;refine jhf _ rfl _ _ rfl w.heap.size n (idxB (heads l)) rfl HQM.o r.head.n rfl hrs own HOWN.o ?_)
       go_roundw
       case rel=>exact⟨k+1,by omega,by go_num,zh (HQA.o.far (p:=⟨_,k,none⟩) (Nat.ne_of_lt hlw) (Nat.lt_trans hz1 hlw) _),zh (by rw[<- jzw HSK.o];exact HQS.o.intSet k x)⟩
       case measure=>simp[intOf];omega
     have hke:k=l.length:=by omega
     subst hke;have HF:=zh (show Blk wr _ 3 (ints (jhy l o0)) from by have h:=hst.o;rw[<- HSN.o,jzv] at h;exact h);go_wp2;go_ret2;exact⟨.inl ⟨o0,hat2.o.low,HM.o,_,rfl,by show w.heap.size<_;omega,HF.o⟩,hat2.o.ext⟩
end
end Go.Proofs.YthiflhkcpanaaaaGreatDoor
namespace Go.Proofs.YthiflhkcpanaaaaGreatDoor
open Go.RowKit
def isT (x y:GT):Bool:=decide (y.v=x.v/\y.n=x.n)
def hasT (xs:List GT) (x:GT):Bool:=xs.any (isT x)
def notT (x y:GT):Bool:= !isT x y
theorem j1g (xs:List GT) (x:GT):hasT xs x = !xs.all (notT x):=by
 unfold hasT notT
 induction xs with
 | nil=>rfl
 | cons y xs ih=>rw[List.any_cons,List.all_cons,ih];cases isT x y<;>rfl
theorem j2t (x y:GT):isT x y=((x.v == y.v) && (x.n.toList == y.n.toList)):=by
 unfold isT;cases h:x.v == y.v
 . have:¬ y.v=x.v:=fun e=>by rw[e] at h;simp at h
   simp[this]
 have e:y.v=x.v:=(eq_of_beq h).symm;by_cases h2:y.n=x.n
 . simp[e,h2]
 have:(x.n.toList == y.n.toList)=false:=jdh (fun e=>h2 e.symm);simp[this,h2]
theorem j19 (x y:GT) (w:World):(binOp .eql 157 (.agg #[.bool x.v,.string x.n]) (.agg #[.bool y.v,.string y.n])).run Tryz.prog w=.ok (.bool (isT x y)) w:=by
 rw[j2t];have hu:Tryz.prog.underlying 157=some (.struct (Tryz.prog.fieldsOf 157)):=by kernel_rfl
 rw[run_eql_struct,run_equalIn_struct _ 9999 _ _ _ hu (by kernel_rfl)];simp[Program.fieldsOf,Tryz.underlying157,Op.eqFields,go_sem];by_cases h1:x.v=y.v<;>by_cases h2:x.n.toList=y.n.toList<;>simp[h1,h2]
theorem jxi (x y:GT) (p q:Operand) (w:World):(eqGuard .eql 157 p q (.agg #[.bool x.v,.string x.n]) (.agg #[.bool y.v,.string y.n])).run Tryz.prog w=.ok () w:=run_eqGuard_agg _ _ _ _ _ _ _ (by kernel_rfl)
theorem jit (v:Value) (xs:List GT) (x:GT) (w:World) {S:Nat->Prop} (hv:jad S w v xs) :
  Calls Tryz.prog 316 #[v,.agg #[.bool x.v,.string x.n]] w fun e w'=>(∃ z:Int,e=.returned (.int .i64 z)/\(xs.all (notT x)=true->z<0)/\(xs.all (notT x)=false->0<=z))/\Ext w w':=by
 obtain⟨A,c,rfl,hc1,hc2⟩:=jaa.form hv;have HV:=zh (hv.ext ((Ext.refl w).alloc (.cells #[.bool x.v,.string x.n] 157)));have HB:=zh (Blk.new w 157 #[.bool x.v,.string x.n]);clear hv
 go_in;go_wp2;go_loopw [8] (fun i wr=>∃ k:Nat,k<=xs.length/\i=.int .i64 k/\J1 ((xs.take k).all (notT x)=true)/\Ext (w.alloc (.cells #[.bool x.v,.string x.n] 157)) wr) (fun i _=>xs.length-(intOf i).toNat)
 case atStart=>exact⟨0,Nat.zero_le _,rfl,rfl,Ext.refl _⟩
 case round =>
  obtain⟨k,hk,rfl,hp,hx⟩:=hrel;by_cases hlt:k<xs.length
  . obtain ⟨b,off,y,rfl,hb,hxk,hxs,hc0,hc1⟩:=jad.at_ (HV.o.ext hx) hlt
    have hb1:=HB.o.ext hx;have q0:=hb1.cell 0;have q1:=hb1.cell 1;have hk0:(0:Int)<=(k:Int):=Int.natCast_nonneg _;have hk1:(k:Int)<(xs.length:Int):=by omega
    clear hb1;have he:=j19 x y;have hg:=jxi x y;have HK:=zh hxk;clear hxk;cases ht:isT x y
    . have HP:=zh (show (xs.take (k+1)).all (notT x)=true from by rw[jbo _ _ k y HK.o,hp.o];unfold notT;rw[ht];rfl)
      rw[ht] at he;clear ht;go_wp2_with fail
      go_quiet (fail)
      go_wp2;go_roundw
      case rel=>exact⟨k+1,by omega,by go_num,HP,hx.drewN _⟩
      case measure=>simp[intOf];omega
    have HZ:=zh (jbc (notT x) _ k y HK.o (by unfold notT;rw[ht];rfl));rw[ht] at he;clear ht;go_wp2_with fail
    go_quiet (fail)
    go_wp2;go_ret;exact⟨⟨k,rfl,fun h=>(by rw[HZ.o] at h;cases h),fun _=>Int.natCast_nonneg _⟩,((Ext.refl _).alloc _).t (hx.drewN _)⟩
  have HZ:=zh (jbl _ _ k hlt hp.o);go_wp2;go_ret;exact⟨⟨-1,rfl,fun _=>by decide,fun h=>(by rw[HZ.o] at h;cases h)⟩,((Ext.refl _).alloc _).t hx⟩
theorem jk8 (v:Value) (xs:List GT) (x:GT) (w:World) {S:Nat->Prop} (hv:jad S w v xs) :
  Calls Tryz.prog 289 #[v,.agg #[.bool x.v,.string x.n]] w fun e w'=>e=.returned (.bool (hasT xs x))/\Ext w w':=by
 obtain⟨A,c,rfl,hc1,hc2⟩:=jaa.form hv;have HV:=zh (hv.ext ((Ext.refl w).alloc (.cells #[.bool x.v,.string x.n] 157)));rw[j1g];clear hv;cases ha:xs.all (notT x)
 . have HA:=zh ha
   clear ha
   go_in;go_wp2_with (go_at_call 316;refine (jit _ xs x _ HV.o).mono ?_;rintro e w1 ⟨⟨z,rfl,h1,h2⟩,hx1⟩;have hz:=h2 HA.o;clear h1 h2)
   go_ret;exact⟨ja6 (by first|(simp;done)|(simp;omega)),((Ext.refl _).alloc _).t hx1⟩
 have HA:=zh ha;clear ha
 go_in;go_wp2_with (go_at_call 316;refine (jit _ xs x _ HV.o).mono ?_;rintro e w1 ⟨⟨z,rfl,h1,h2⟩,hx1⟩;have hz:=h1 HA.o;clear h1 h2)
 go_ret;exact⟨ja6 (by first|(simp;done)|(simp;omega)),((Ext.refl _).alloc _).t hx1⟩
theorem jzy (xs:List GT) (x:ByteArray):hasT xs ⟨true,x⟩=memS x ((xs.filter (·.v)).map (·.n)):=by
 unfold hasT memS
 induction xs with
 | nil=>rfl
 | cons y xs ih =>
   rw[List.any_cons,ih,List.filter_cons];obtain⟨b,n⟩:=y;cases b
   . simp[isT]
   simp[isT]
def jos (x:ByteArray) (p:GP):Bool:= !p.no && memS x (jc4 p.atom)
def freeP (x:ByteArray) (p:GP):Bool:= !jos x p
theorem jxj (body:List GP) (x:ByteArray):jce body x = !body.all (freeP x):=by
 unfold jce freeP
 induction body with
 | nil=>rfl
 | cons y xs ih=>rw[List.any_cons,List.all_cons,ih,show (!y.no && memS x (jc4 y.atom))=jos x y from rfl];cases jos x y<;>rfl
theorem juk (v:Value) (body:List GP) (x:ByteArray) (w:World) {S:Nat->Prop} (hv:jao S w v body) :
  Calls Tryz.prog 256 #[v,.string x] w fun e w'=>e=.returned (.bool (jce body x))/\Ext w w':=by
 obtain⟨A,c,rfl,hc1,hc2⟩:=jaa.form hv;have HV:=zh hv;clear hv;rw[jxj]
 go_in;go_wp2;go_loopw [9] (fun i wr=>∃ k:Nat,k<=body.length/\i=.int .i64 k/\J1 ((body.take k).all (freeP x)=true)/\Ext w wr) (fun i _=>body.length-(intOf i).toNat)
 case atStart=>exact⟨0,Nat.zero_le _,rfl,rfl,Ext.refl _⟩
 case round =>
  obtain⟨k,hk,rfl,hp,hx⟩:=hrel;by_cases hlt:k<body.length
  . obtain ⟨b,off,y,z,rfl,hb,hxk,hxs,htx,p0,p1,p2⟩:=jao.at_ (HV.o.ext hx) hlt
    obtain⟨C,e,rfl,he1,he2⟩:=jaa.form htx;have HK:=zh hxk;have HW:=zh (jk8 _ y.atom.args ⟨true,x⟩ _ (htx.ext ((Ext.refl wr).alloc (.cells #[.bool y.no,.string y.atom.n,.slice C y.atom.args.length e] 137))));clear hxk htx;cases hno:y.no
    . cases hm:memS x (jc4 y.atom)
      . have hw:=(jai HW.o).2 (by rw[jzy];exact hm)
        have HP:=zh (show (body.take (k+1)).all (freeP x)=true from by rw[jbo _ _ k y HK.o,hp.o];unfold freeP jos;rw[hno,hm];rfl);rw[hno] at p0 hw;have HW1:=zh hw;clear hw HW;go_wp2_with (go_at_call 289;refine HW1.o.mono ?_;rintro e w1 ⟨rfl,hx1⟩)
        go_roundw
        case rel=>exact⟨k+1,by omega,by go_num,HP,(hx.alloc _).t hx1⟩
        case measure=>simp[intOf];omega
      have hw:=(jai HW.o).1 (by rw[jzy];exact hm);have HZ:=zh (jbc (freeP x) _ k y HK.o (by unfold freeP jos;rw[hno,hm];rfl));rw[hno] at p0 hw;have HW1:=zh hw;clear hw HW;go_wp2_with (go_at_call 289;refine HW1.o.mono ?_;rintro e w1 ⟨rfl,hx1⟩)
      go_ret;exact⟨by rw[HZ.o];rfl,(hx.alloc _).t hx1⟩
    have HP:=zh (show (body.take (k+1)).all (freeP x)=true from by rw[jbo _ _ k y HK.o,hp.o];unfold freeP jos;rw[hno];rfl);rw[hno] at p0;clear HW;go_wp2;go_roundw
    case rel=>exact⟨k+1,by omega,by go_num,HP,hx.alloc _⟩
    case measure=>simp[intOf];omega
  have HZ:=zh (jbl _ _ k hlt hp.o);go_wp2;go_ret;exact⟨by rw[HZ.o];rfl,hx⟩
def jiu (body:List GP) (t:GT):Bool:= !t.v || jce body t.n
theorem j1h (body:List GP) (a:GA):(jc4 a).all (jce body)=a.args.all (jiu body):=by
 unfold jc4 jiu
 induction a.args with
 | nil=>rfl
 | cons y xs ih =>
   rw[List.all_cons,<- ih,List.filter_cons];cases y.v<;>simp
@[go_sem] theorem as_wv (v:Value) (w:World):(Instr.typeAssert (.iface 325 v) 291 288 true).run Tryz.prog w=.ok (.tuple #[.string ⟨#[]⟩,.bool false]) w:=by kernel_rfl
theorem jev (s:ByteArray) (w:World) :
  (Calls Tryz.prog 255 #[.agg #[.bool false,.string s]] w fun e w'=>e=.returned (.iface 325 (.string s))/\Ext w w')/\(Calls Tryz.prog 255 #[.agg #[.bool true,.string s]] w fun e w'=>e=.returned (.iface 288 (.string s))/\Ext w w') :=
 ⟨ji7 ⟨false,s⟩ w,ji7 ⟨true,s⟩ w⟩
theorem jkw (v u:Value) (body:List GP) (a:GA) (w:World) {S T:Nat->Prop} (hv:jao S w v body) (hu:jad T w u a.args) :
  Calls Tryz.prog 218 #[v,.agg #[.string a.n,u]] w fun e w'=>e=.returned (.bool ((jc4 a).all (jce body)))/\Ext w w':=by
 obtain⟨A,c,rfl,hc1,hc2⟩:=jaa.form hv;obtain⟨B,d,rfl,hd1,hd2⟩:=jaa.form hu;have HV:=zh (hv.ext ((Ext.refl w).alloc (.cells #[.string a.n,.slice B a.args.length d] 69)));have HU:=zh (hu.ext ((Ext.refl w).alloc (.cells #[.string a.n,.slice B a.args.length d] 69)));clear hv hu;rw[j1h]
 go_in;go_wp2;go_loopw [12] (fun i wr=>∃ k:Nat,k<=a.args.length/\i=.int .i64 k/\J1 ((a.args.take k).all (jiu body)=true)/\Ext (w.alloc (.cells #[.string a.n,.slice B a.args.length d] 69)) wr) (fun i _=>a.args.length-(intOf i).toNat)
 case atStart=>exact⟨0,Nat.zero_le _,rfl,rfl,Ext.refl _⟩
 case round =>
  obtain⟨k,hk,rfl,hp,hx⟩:=hrel;by_cases hlt:k<a.args.length
  . obtain ⟨b,off,y,rfl,hb,hxk,hxs,p0,p1⟩:=jad.at_ (HU.o.ext hx) hlt
    have HK:=zh hxk;clear hxk;cases hv:y.v
    . have HP:=zh (show (a.args.take (k+1)).all (jiu body)=true from by rw[jbo _ _ k y HK.o,hp.o];unfold jiu;rw[hv];rfl)
      rw[hv] at p0;go_wp2_with (go_at_call 255;refine (jev y.n _).1.mono ?_;rintro e w1 ⟨rfl,hx1⟩)
      go_roundw
      case rel=>exact⟨k+1,by omega,by go_num,HP,(hx.alloc _).t hx1⟩
      case measure=>simp[intOf];omega
    rw[hv] at p0;have HB:=zh (fun W (hW:Ext wr W)=>jai (juk _ body y.n W ((HV.o.ext hx).ext hW)));cases hm:jce body y.n
    . have HZ:=zh (jbc (jiu body) _ k y HK.o (by unfold jiu;rw[hv,hm];rfl))
      have HM:=zh hm;clear hv hm
      go_wp2_with (first
       | (go_at_call 255;refine (jev y.n _).2.mono ?_;rintro e w1 ⟨rfl,hx1⟩;have HX1:=zh (((Ext.refl wr).alloc _).t hx1);clear hx1)
       | (go_at_call 257;refine (jc7 y.n _).mono ?_;rintro e w2 ⟨rfl,rfl⟩)
       | (go_at_call 256;refine ((HB.o _ HX1.o).2 HM.o).mono ?_;rintro e w3 ⟨rfl,hx3⟩))
      go_ret;exact⟨by rw[HZ.o];rfl,((Ext.refl _).alloc _).t ((hx.t HX1.o).t hx3)⟩
    have HP:=zh (show (a.args.take (k+1)).all (jiu body)=true from by rw[jbo _ _ k y HK.o,hp.o];unfold jiu;rw[hv,hm];rfl);have HM:=zh hm;clear hv hm
    go_wp2_with (first
     | (go_at_call 255;refine (jev y.n _).2.mono ?_;rintro e w1 ⟨rfl,hx1⟩;have HX1:=zh (((Ext.refl wr).alloc _).t hx1);clear hx1)
     | (go_at_call 257;refine (jc7 y.n _).mono ?_;rintro e w2 ⟨rfl,rfl⟩)
     | (go_at_call 256;refine ((HB.o _ HX1.o).1 HM.o).mono ?_;rintro e w3 ⟨rfl,hx3⟩))
    go_roundw
    case rel=>exact⟨k+1,by omega,by go_num,HP,(hx.t HX1.o).t hx3⟩
    case measure=>simp[intOf];omega
  have HZ:=zh (jbl _ _ k hlt hp.o);go_wp2;go_ret;exact⟨by rw[HZ.o];rfl,((Ext.refl _).alloc _).t hx⟩
def jot (body:List GP) (p:GP):Bool:=(jc4 p.atom).all (jce body)
theorem jzz (r:GR):jca r=((jc4 r.head).all (jce r.body) && r.body.all (jot r.body)):=by
 unfold jca jbd;rw[List.all_cons,List.all_map]
 rfl
theorem jp2 (v:Value) (body:List GP) (w:World) {S:Nat->Prop} (hv:jao S w v body) :
  Calls Tryz.prog 167 #[v] w fun e w'=>e=.returned (.bool (!body.all (jot body)))/\Ext w w':=by
 obtain⟨A,c,rfl,hc1,hc2⟩:=jaa.form hv;have HV:=zh hv;clear hv
 go_in;go_wp2;go_loopw [7] (fun i wr=>∃ k:Nat,k<=body.length/\i=.int .i64 k/\J1 ((body.take k).all (jot body)=true)/\Ext w wr) (fun i _=>body.length-(intOf i).toNat)
 case atStart=>exact⟨0,Nat.zero_le _,rfl,rfl,Ext.refl _⟩
 case round =>
  obtain⟨k,hk,rfl,hp,hx⟩:=hrel;by_cases hlt:k<body.length
  . obtain ⟨b,off,y,z,rfl,hb,hxk,hxs,htx,p0,p1,p2⟩:=jao.at_ (HV.o.ext hx) hlt
    obtain⟨C,e,rfl,he1,he2⟩:=jaa.form htx;have HK:=zh hxk;have hw:=jai (jkw _ _ body y.atom _ ((HV.o.ext hx).ext ((Ext.refl wr).alloc (.cells #[.bool y.no,.string y.atom.n,.slice C y.atom.args.length e] 137))) (htx.ext ((Ext.refl wr).alloc (.cells #[.bool y.no,.string y.atom.n,.slice C y.atom.args.length e] 137))));clear hxk htx;cases hm:jot body y
    . have HZ:=zh (jbc (jot body) _ k y HK.o hm)
      have HW:=zh (hw.2 hm);clear hw hm;go_wp2_with (go_at_call 218;refine HW.o.mono ?_;rintro e w1 ⟨rfl,hx1⟩)
      go_ret;exact⟨by rw[HZ.o];rfl,(hx.alloc _).t hx1⟩
    have HP:=zh (show (body.take (k+1)).all (jot body)=true from by rw[jbo _ _ k y HK.o,hp.o,hm];rfl);have HW:=zh (hw.1 hm);clear hw hm;go_wp2_with (go_at_call 218;refine HW.o.mono ?_;rintro e w1 ⟨rfl,hx1⟩)
    go_roundw
    case rel=>exact⟨k+1,by omega,by go_num,HP,(hx.alloc _).t hx1⟩
    case measure=>simp[intOf];omega
  have HZ:=zh (jbl _ _ k hlt hp.o);go_wp2;go_ret;exact⟨by rw[HZ.o];rfl,hx⟩
theorem jp3 (r:GR) (v u:Value) (w:World) {S T:Nat->Prop} (hv:jad S w v r.head.args) (hu:jao T w u r.body) :
  Calls Tryz.prog 323 #[.agg #[.string r.head.n,v,u]] w fun e w'=>e=.returned (.bool (!jca r))/\Ext w w':=by
 obtain⟨A,c,rfl,hc1,hc2⟩:=jaa.form hv;obtain⟨B,d,rfl,hd1,hd2⟩:=jaa.form hu;have HV:=zh (hv.ext ((Ext.refl w).alloc (.cells #[.string r.head.n,.slice A r.head.args.length c,.slice B r.body.length d] 178)));have HU:=zh (hu.ext ((Ext.refl w).alloc (.cells #[.string r.head.n,.slice A r.head.args.length c,.slice B r.body.length d] 178)));have HB:=zh (Blk.new w 178 #[.string r.head.n,.slice A r.head.args.length c,.slice B r.body.length d]);have hw:=jai (jkw _ _ r.body r.head _ HU.o HV.o);clear hv hu;rw[jzz];cases hm:(jc4 r.head).all (jce r.body)
 . have HW:=zh (hw.2 hm)
   clear hw hm
   go_in;go_wp2_with (go_at_call 218;refine HW.o.mono ?_;rintro e w1 ⟨rfl,hx1⟩)
   go_ret;exact⟨rfl,((Ext.refl _).alloc _).t hx1⟩
 have HW:=zh (hw.1 hm);have HQ:=zh (fun W hW=>jp2 _ r.body W (HU.o.ext hW));clear hw hm
 go_in
 go_wp2_with (first
  | (go_at_call 218;refine HW.o.mono ?_;rintro e w1 ⟨rfl,hx1⟩;have HX1:=zh hx1;have hb1:=HB.o.ext hx1;have q2:=hb1.cell 2;have hl1:=hb1.lt;clear hx1 hb1)
  | (go_at_call 167;refine (HQ.o _ HX1.o).mono ?_;rintro e w2 ⟨rfl,hx2⟩))
 go_ret;exact⟨rfl,((Ext.refl _).alloc _).t (HX1.o.t hx2)⟩
theorem jhg (v:Value) (xs:List GR) (w:World) {S:Nat->Prop} (hv:jam S w v xs) :
  Calls Tryz.prog 337 #[v,.func (.func 323) #[] #[]] w fun e w'=>(∃ z:Int,e=.returned (.int .i64 z)/\(xs.all jca=true->z<0)/\(xs.all jca=false->0<=z))/\Ext w w':=by
 obtain⟨A,c,rfl,hc1,hc2⟩:=jaa.form hv;have HV:=zh hv;clear hv
 go_in;go_wp2;go_loopw [8] (fun i wr=>∃ k:Nat,k<=xs.length/\i=.int .i64 k/\J1 ((xs.take k).all jca=true)/\Ext w wr) (fun i _=>xs.length-(intOf i).toNat)
 case atStart=>exact⟨0,Nat.zero_le _,rfl,rfl,Ext.refl _⟩
 case round =>
  obtain⟨k,hk,rfl,hp,hx⟩:=hrel;by_cases hlt:k<xs.length
  . obtain ⟨b,off,x,v1,u1,rfl,hb,hxk,hxs,ht,hu,p0,p1,p2⟩:=jam.at_ (HV.o.ext hx) hlt
    obtain⟨C,e,rfl,he1,he2⟩:=jaa.form ht;obtain⟨D,f,rfl,hf1,hf2⟩:=jaa.form hu;have HK:=zh hxk;have hw:=jp3 x _ _ wr ht hu;clear hxk ht hu;cases hm:jca x
    . have HZ:=zh (jbc jca _ k x HK.o hm)
      have HW:=zh ((jai hw).1 (by rw[hm];rfl));clear hw hm;go_wp2_with (go_at_call 323;refine HW.o.mono ?_;rintro e w1 ⟨rfl,hx1⟩)
      go_ret;exact⟨⟨k,rfl,fun h=>(by rw[HZ.o] at h;cases h),fun _=>Int.natCast_nonneg _⟩,hx.t hx1⟩
    have HP:=zh (show (xs.take (k+1)).all jca=true from by rw[jbo _ _ k x HK.o,hp.o,hm];rfl);have HW:=zh ((jai hw).2 (by rw[hm];rfl));clear hw hm;go_wp2_with (go_at_call 323;refine HW.o.mono ?_;rintro e w1 ⟨rfl,hx1⟩)
    go_roundw
    case rel=>exact⟨k+1,by omega,by go_num,HP,hx.t hx1⟩
    case measure=>simp[intOf];omega
  have HZ:=zh (jbl _ _ k hlt hp.o);go_wp2;go_ret;exact⟨⟨-1,rfl,fun _=>by decide,fun h=>(by rw[HZ.o] at h;cases h)⟩,hx⟩
theorem jj5 (v:Value) (xs:List GR) (w:World) {S:Nat->Prop} (hv:jam S w v xs) :
  Calls Tryz.prog 322 #[v,.func (.func 323) #[] #[]] w fun e w'=>e=.returned (.bool (!xs.all jca))/\Ext w w':=by
 obtain⟨A,c,rfl,hc1,hc2⟩:=jaa.form hv;have HV:=zh hv;clear hv;cases ha:xs.all jca
 . have HA:=zh ha
   clear ha
   go_in;go_wp2_with (go_at_call 337;refine (jhg _ xs _ HV.o).mono ?_;rintro e w1 ⟨⟨z,rfl,h1,h2⟩,hx1⟩;have hz:=h2 HA.o;clear h1 h2)
   go_ret;exact⟨ja6 (by first|(simp;done)|(simp;omega)),hx1⟩
 have HA:=zh ha;clear ha
 go_in;go_wp2_with (go_at_call 337;refine (jhg _ xs _ HV.o).mono ?_;rintro e w1 ⟨⟨z,rfl,h1,h2⟩,hx1⟩;have hz:=h1 HA.o;clear h1 h2)
 go_ret;exact⟨ja6 (by first|(simp;done)|(simp;omega)),hx1⟩
theorem jp4 (r:GR):jba r=((decide (r.body.length<=4) && r.body.all jcu) && jat r.head):=by
 rw[jfg];cases decide (r.body.length<=4)<;>cases r.body.all jcu<;>cases jat r.head<;>rfl
theorem jxk (v:Value) (body:List GP) (w:World) {S:Nat->Prop} (hv:jao S w v body) :
  Calls Tryz.prog 166 #[v] w fun e w'=>e=.returned (.bool (decide (body.length<=4) && body.all jcu))/\Ext w w':=by
 obtain⟨A,c,rfl,hc1,hc2⟩:=jaa.form hv;have HV:=zh hv;clear hv;by_cases h4:body.length<=4
 . have HF:=zh (show (decide (body.length<=4) && body.all jcu)=body.all jcu from by simp[h4])
   go_in;go_wp2;go_loopw [10] (fun i wr=>∃ k:Nat,k<=body.length/\i=.int .i64 k/\J1 ((body.take k).all jcu=true)/\Ext w wr) (fun i _=>body.length-(intOf i).toNat)
   case atStart=>exact⟨0,Nat.zero_le _,rfl,rfl,Ext.refl _⟩
   case round =>
    obtain⟨k,hk,rfl,hp,hx⟩:=hrel;by_cases hlt:k<body.length
    . obtain ⟨b,off,y,z,rfl,hb,hxk,hxs,htx,p0,p1,p2⟩:=jao.at_ (HV.o.ext hx) hlt
      obtain⟨C,e,rfl,he1,he2⟩:=jaa.form htx;have HK:=zh hxk;have hw:=jai (ji8 y.atom _ _ hxs (htx.ext ((Ext.refl wr).alloc (.cells #[.bool y.no,.string y.atom.n,.slice C y.atom.args.length e] 137))));clear hxk htx;cases hm:jat y.atom
      . have HZ:=zh (jbc jcu _ k y HK.o hm)
        have HW:=zh (hw.2 hm);clear hw hm;go_wp2_with (go_at_call 199;refine HW.o.mono ?_;rintro e w1 ⟨rfl,hx1⟩)
        go_ret;exact⟨by rw[HF.o,HZ.o];rfl,(hx.alloc _).t hx1⟩
      have HP:=zh (show (body.take (k+1)).all jcu=true from by rw[jbo _ _ k y HK.o,hp.o,show jcu y=true from hm];rfl);have HW:=zh (hw.1 hm);clear hw hm;go_wp2_with (go_at_call 199;refine HW.o.mono ?_;rintro e w1 ⟨rfl,hx1⟩)
      go_roundw
      case rel=>exact⟨k+1,by omega,by go_num,HP,(hx.alloc _).t hx1⟩
      case measure=>simp[intOf];omega
    have HZ:=zh (jbl _ _ k hlt hp.o);go_wp2;go_ret;exact⟨by rw[HF.o,HZ.o];rfl,hx⟩
 have HF:=zh (show (decide (body.length<=4) && body.all jcu)=false from by simp[h4])
 go_in;go_wp2;go_ret;exact⟨by rw[HF.o];rfl,Ext.refl _⟩
end Go.Proofs.YthiflhkcpanaaaaGreatDoor
