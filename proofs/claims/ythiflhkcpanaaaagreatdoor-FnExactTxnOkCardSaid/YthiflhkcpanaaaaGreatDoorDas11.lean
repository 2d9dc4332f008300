/- Own texts, joined. -/
import Derived.Test.YthiflhkcpanaaaaGreatDoorDas10
set_option linter.unusedSimpArgs false
set_option linter.unusedVariables false
set_option maxHeartbeats 8000000
set_option maxRecDepth 100000
namespace Go.Proofs.YthiflhkcpanaaaaGreatDoor
open Go.RowKit
/-! ### Numbers in a block -/
def ints (o:List Nat):Array Value:=(o.map fun x=>Value.int .i64 ((x:Nat):Int)).toArray
theorem jyq {o:List Nat} {i:Nat} (h:i<o.length):(ints o)[i]? = some (.int .i64 ((at0 o i:Nat):Int)):=by
 unfold ints;rw[List.getElem?_toArray,List.getElem?_map,jdg h];rfl
theorem j0w (o:List Nat) (i v:Nat):(ints o).setIfInBounds i (.int .i64 ((v:Nat):Int))=ints (o.set i v):=by
 unfold ints;rw[List.setIfInBounds_toArray,List.map_set]
theorem jyr (n:Nat):madeCells #[.int .i64 0] n=ints (List.replicate n 0):=by
 apply Array.toList_inj.1
 rw[toList_madeCells_one];unfold ints;simp
theorem j0x:(Tryz.prog.info? 3).map (fun i=>(i.zero,i.size,i.bytes))=some (some (.int .i64 0),1,8):=by kernel_rfl
theorem jlh (n:Nat) (hn:n<=1000000) (W:World):(Instr.makeSlice 149 (.int .i64 (n:Int)) (.int .i64 (n:Int))).run Tryz.prog W=.ok (.slice (some ⟨W.heap.size,0,none⟩) n n) (W.alloc (.cells (ints (List.replicate n 0)) 3)):=by
 obtain⟨i0,hi0,hz0,hz1,hz2⟩:=info_parts j0x;have hr:=run_make (P:=Tryz.prog) W 149 3 i0 _ Tryz.underlying149 hi0 hz0 .i64 .i64 n n (by omega) (by omega) (by rw[hz2];omega) (by omega);simp only[Int.toNat_natCast] at hr;rw[hz1,Nat.mul_one] at hr;rw[<- jyr];exact hr
/-! ### Levels stay small -/
def Bd (b:Nat) (o:List Nat):Prop:=∀ i,at0 o i<=b
theorem Bd.le {b c:Nat} {o:List Nat} (h:Bd b o) (hc:b<=c):Bd c o:=fun i=>Nat.le_trans (h i) hc
theorem Bd.set {b i v:Nat} {o:List Nat} (h:Bd b o) (hv:v<=b):Bd b (o.set i v):=fun j=>by
 by_cases hi:i<o.length
 . rw [jfs hi];split
   . exact hv
   exact h j
 rw[List.set_eq_of_length_le (by omega)];exact h j
theorem Bd.sH {b:Nat} {o:List Nat} (h:Bd b o) (x y:GR) (i k:Nat):Bd b (stepH x y i k o):=by
 unfold stepH;split
 . exact h.set (h k)
 exact h
theorem j2j (b:Bool):one b<=1:=by cases b<;>decide
theorem Bd.sJ {b:Nat} {o:List Nat} (h:Bd b o) (n:Nat) (y:GR) (i k:Nat) (p:GP):Bd (b+1) (stepJ n y i k o p):=by
 unfold stepJ;split
 . exact (h.le (by omega)).set (by have:=h k;have:=j2j p.no;omega)
 exact h.le (by omega)
def iterJ (l:List GR) (a b:GR) (i k:Nat) (o:List Nat) (j:Nat):List Nat:=(a.body.take j).foldl (stepJ l.length b i k) (stepH a b i k o)
theorem jme (l:List GR) (a b:GR) (i k:Nat) (o:List Nat) (j:Nat):(iterJ l a b i k o j).length=o.length :=
 ((je5 (jg2 l.length b i k) _ _).1).trans (jlc a b i k o).1
theorem jji {l:List GR} {a b:GR} {i k:Nat} {o:List Nat} {j:Nat} {p:GP} (h:a.body[j]? = some p):iterJ l a b i k o (j+1)=stepJ l.length b i k (iterJ l a b i k o j) p:=by
 obtain⟨hj,rfl⟩:=List.getElem?_eq_some_iff.1 h;unfold iterJ;rw[List.take_succ_eq_append_getElem hj,List.foldl_append];rfl
theorem jmf {l:List GR} {a b:GR} {i k:Nat} {o:List Nat} {j:Nat} (hb:l[k]? = some b) (hj:a.body.length<=j):iterJ l a b i k o j=stepK l a i o k:=by
 unfold iterJ stepK;rw[hb,List.take_of_length_le hj]
def iterK (l:List GR) (a:GR) (i:Nat) (o:List Nat) (k:Nat):List Nat:=(List.range k).foldl (stepK l a i) o
theorem jjj (l:List GR) (a:GR) (i:Nat) (o:List Nat) (k:Nat):iterK l a i o (k+1)=stepK l a i (iterK l a i o k) k:=by
 unfold iterK;rw[List.range_succ,List.foldl_append];rfl
theorem jys (l:List GR) (a:GR) (i:Nat) (o:List Nat) (k:Nat):(iterK l a i o k).length=o.length:=(je5 (jld l a i) _ _).1
theorem jyt {l:List GR} {a:GR} {i:Nat} {o:List Nat} (ha:l[i]? = some a):iterK l a i o l.length=stepI l o i:=by
 unfold iterK stepI;rw[ha]
def iterI (l:List GR) (o:List Nat) (i:Nat):List Nat:=(List.range i).foldl (stepI l) o
theorem jwt (l:List GR) (o:List Nat) (i:Nat):iterI l o (i+1)=stepI l (iterI l o i) i:=by
 unfold iterI;rw[List.range_succ,List.foldl_append];rfl
theorem jyu (l:List GR) (o:List Nat) (i:Nat):(iterI l o i).length=o.length:=(je5 (jle l) _ _).1
theorem jyv (l:List GR) (o:List Nat):iterI l o l.length=passL l o:=rfl
theorem Blk.int {w:World} {g:Nat} {o:List Nat} (h:Blk w g 3 (ints o)) {i:Nat} (hi:i<o.length):w.cell? ⟨g,i,none⟩=some (.int .i64 ((at0 o i:Nat):Int)):=by
 rw[h.cell,jyq hi]
theorem Blk.intSet {w:World} {g:Nat} {o:List Nat} (h:Blk w g 3 (ints o)) (i v:Nat):Blk (w.setCell ⟨g,i,none⟩ (.int .i64 ((v:Nat):Int))) g 3 (ints (o.set i v)):=by
 have:=h.set_ i (.int .i64 ((v:Nat):Int))
 rwa [j0w] at this
theorem jkp (v : Value) (l:List GR) (w:World) {S:Nat->Prop} (hv:jam S w v l) (hl:l.length<=8) (hb:∀ r∈l,r.body.length<=4) :
  Calls Tryz.prog 212 #[v] w fun e w'=>(∃ g,e=.returned (.slice (some ⟨g,0,none⟩) l.length l.length)/\Blk w' g 3 (ints (jap l)))/\Ext w w':=by
 obtain⟨A,c,rfl,hc1,hc2⟩:=jaa.form hv;have HV:=zh hv;have HBD:=zh hb;obtain⟨M,hM⟩:=nm ((l.length+1)*(l.length+2))
 have hM1:M<=90:=by
  rw[hM];exact Nat.mul_le_mul (show l.length+1<=9 by omega) (show l.length+2<=10 by omega)
 have hMi:((l.length:Int)+1)*((l.length:Int)+2)=(M:Int):=by rw[hM];simp
 have hMw:IntKind.i64.wrap (((l.length:Int)+1)*((l.length:Int)+2))=(M:Int):=by rw[hMi,IntKind.wrap_i64];omega
 have HM:=zh hM;have hmk:=jlh l.length (by omega);clear hv hb hM
 go_in;go_wp2;clear hmk;go_loopw [4] (fun x wr=>∃ n:Nat,n<=M/\x=.int .i64 n/\J1 (Blk wr w.heap.size 3 (ints (ja0 l n)))/\J1 (Bd (320*n) (ja0 l n))/\Ext w wr) (fun x _=>M-(intOf x).toNat)
 case atStart=>exact⟨0,Nat.zero_le _,rfl,Blk.new _ _ _,fun i=>by show at0 (List.replicate l.length 0) i<=_;unfold at0;rw[List.getD_eq_getElem?_getD,List.getElem?_replicate];split<;>simp,(Ext.refl _).alloc _⟩
 case round =>
  obtain⟨n,hn,rfl,ho,hbd,hx⟩:=hrel;have hn0:(0:Int)<=(n:Int):=by omega
  by_cases hnt:n<M
  . have hn1 : (n : Int) < (M:Int):=by omega
    go_wp2;try simp only[show decide ((n:Int)<(M:Int))=true from decide_eq_true hn1]
    go_loopw [5] (fun x wr=>∃ i:Nat,i<=l.length/\x=.int .i64 i/\J1 (Blk wr w.heap.size 3 (ints (iterI l (ja0 l n) i)))/\J1 (Bd (320*n+40*i) (iterI l (ja0 l n) i))/\Ext w wr) (fun x _=>l.length-(intOf x).toNat)
    case atStart=>exact⟨0,Nat.zero_le _,rfl,ho,hbd,hx⟩
    case round =>
     obtain⟨i,hi,rfl,ho,hbd,hx⟩:=hrel;have hi0:(0:Int)<=(i:Int):=by omega
     by_cases hit:i<l.length
     . have hi1 : (i : Int)<(l.length:Int):=by omega
       obtain⟨b,off,a,v1,u1,rfl,hb,hak,has,hta,hua,pa0,pa1,pa2⟩:=jam.at_ HV.o hit;obtain⟨C1,e1,rfl,_,_⟩:=jaa.form hta;obtain⟨D1,f1,rfl,hf11,hf12⟩:=jaa.form hua;have HAK:=zh hak;have HA4:=zh (HBD.o a (List.mem_of_getElem? hak));have HUA:=zh hua;have PA0:=zh pa0;have PA2:=zh pa2;clear hak hta hua pa0 pa1 pa2;go_wp2;try simp only[show decide ((i:Int)<(l.length:Int))=true from decide_eq_true hi1]
       go_loopw [6] (fun x wr=>∃ k:Nat,k<=l.length/\x=.int .i64 k/\J1 (Blk wr w.heap.size 3 (ints (iterK l a i (iterI l (ja0 l n) i) k)))/\J1 (Bd (320*n+40*i+5*k) (iterK l a i (iterI l (ja0 l n) i) k))/\Ext w wr) (fun x _=>l.length-(intOf x).toNat)
       case atStart=>exact⟨0,Nat.zero_le _,rfl,ho,hbd,hx⟩
       case round =>
        obtain⟨k,hk,rfl,ho,hbd,hx⟩:=hrel;have hk0:(0:Int)<=(k:Int):=by omega
        by_cases hkt:k<l.length
        . have hk1 : (k : Int)<(l.length:Int):=by omega
          obtain⟨b',off',y,v2,u2,hA',hb',hyk,hys,hty,huy,py0,py1,py2⟩:=jam.at_ HV.o hkt;injection hA' with hA'
          injection hA' with q1 q2
          subst q1;subst q2;clear huy hty;obtain⟨o,hoo⟩:=nm (iterK l a i (iterI l (ja0 l n) i) k);rw[<- hoo] at ho hbd;have hol:o.length=l.length:=by rw[hoo,jys,jyu,jcp]
          have ra0:=(hx.cells.1 b (off+i*3) hb).trans PA0.o;have ry0:=(hx.cells.1 b (off+k*3) hb').trans py0;obtain⟨xi,hxi⟩:=nm (at0 o i);obtain⟨xk,hxk⟩:=nm (at0 o k);have ci:=Blk.int ho.o (i:=i) (by omega);have ck:=Blk.int ho.o (i:=k) (by omega);rw[<- hxi] at ci;rw[<- hxk] at ck;have hbi:xi<=320*n+40*i+5*k:=hxi▸hbd.o i;have hbk:xk<=320*n+40*i+5*k:=hxk▸hbd.o k;have hfi:=ho.o.frozen i;have hlt0:=ho.o.lt
          have hsame:y.head.n=a.head.n->xi<xk->stepH a y i k o=o.set i xk:=fun h1 h2=>by
           unfold stepH;rw[if_pos ⟨h1,by rw[<- hxi,<- hxk];exact h2⟩,<- hxk]
          have helse:(¬ (y.head.n=a.head.n/\xi<xk))->stepH a y i k o=o:=fun h=>by
           unfold stepH;rw[if_neg (by rw[<- hxi,<- hxk];exact h)]
          have PY0:=zh py0;have HO:=zh hoo;have HOL:=zh hol;have HYK:=zh hyk;have HXK:=zh (Bd.sH hbd.o a y i k);clear py0 py1 py2 hyk hoo hol hxi hxk;by_cases hn2:y.head.n=a.head.n
          . have hn3 : (y.head.n.toList == a.head.n.toList)=true:=by rw[hn2];exact beq_self_eq_true _
            by_cases hlt:xi<xk
            . have HS := zh (hsame hn2 hlt)
              have hg:decide ((xi:Int)<(xk:Int))=true:=decide_eq_true (by omega);clear hsame helse hn2;go_wp2_with fail
              go_quiet (fail)
              go_wp2;try simp only[show decide ((k:Int)<(l.length:Int))=true from decide_eq_true hk1]
              go_loopw [7] (fun x wr=>∃ j:Nat,j<=a.body.length/\x=.int .i64 j/\J1 (Blk wr w.heap.size 3 (ints (iterJ l a y i k o j)))/\J1 (Bd (320*n+40*i+5*k+j) (iterJ l a y i k o j))/\Ext w wr) (fun x _=>a.body.length-(intOf x).toNat)
              case atStart=>exact⟨0,Nat.zero_le _,rfl,zh (show Blk _ _ _ (ints (stepH a y i k o)) from by rw[HS.o];exact Blk.intSet (ho.o.drewN _) i xk),zh (HXK.o.le (by omega)),Ext.setNew (hx.drewN _) (Nat.le_refl _) _⟩
              case round =>
               obtain⟨j,hj,rfl,ho2,hbd2,hx⟩:=hrel;have hj0:(0:Int)<=(j:Int):=by omega
               have ra2:=(hx.cells.1 b (off+i*3+2) hb).trans PA2.o;have ry0:=(hx.cells.1 b (off+k*3) hb').trans PY0.o;have hltr:w.heap.size<wr.heap.size:=ho2.o.lt;by_cases hjt:j<a.body.length
               . have hj1 : (j:Int)<(a.body.length:Int):=by omega
                 obtain⟨b3,off3,p,v3,rfl,hb3,hpk,hps,htp,z0,z1,z2⟩:=jao.at_ HUA.o hjt;obtain⟨E2,g2,rfl,_,_⟩:=jaa.form htp;have s0:=(hx.cells.1 b3 (off3+j*3) hb3).trans z0;have s1:=(hx.cells.1 b3 (off3+j*3+1) hb3).trans z1;have s2:=(hx.cells.1 b3 (off3+j*3+2) hb3).trans z2;have ry1:=((hx.alloc (.cells #[.bool p.no,.string p.atom.n,.slice E2 p.atom.args.length g2] 137)).cells.1 b (off+k*3) hb').trans PY0.o;have HNX:=zh (jji (l:=l) (b:=y) (i:=i) (k:=k) (o:=o) hpk);obtain⟨o2,hoo2⟩:=nm (iterJ l a y i k o j);have hol2:o2.length=l.length:=by rw[hoo2,jme];exact HOL.o
                 rw[<- hoo2] at ho2 hbd2 HNX;obtain⟨zi,hzi⟩:=nm (at0 o2 i);obtain⟨zk,hzk⟩:=nm (at0 o2 k);have ci:=Blk.int (ho2.o.alloc (.cells #[.bool p.no,.string p.atom.n,.slice E2 p.atom.args.length g2] 137)) (i:=i) (by omega);have ck:=Blk.int (ho2.o.alloc (.cells #[.bool p.no,.string p.atom.n,.slice E2 p.atom.args.length g2] 137)) (i:=k) (by omega);rw[<- hzi] at ci;rw[<- hzk] at ck;have hbi:zi<=320*n+40*i+5*k+j:=hzi▸hbd2.o i;have hbk:zk<=320*n+40*i+5*k+j:=hzk▸hbd2.o k;have hfi:=(ho2.o.alloc (.cells #[.bool p.no,.string p.atom.n,.slice E2 p.atom.args.length g2] 137)).frozen i
                 have hset:p.atom.n=y.head.n->zi<zk+one p.no->zi<=l.length->stepJ l.length y i k o2 p=o2.set i (zk+one p.no):=fun h1 h2 h3=>by
                  unfold stepJ;rw[<- hzi,<- hzk,if_pos ⟨h1,h2,h3⟩]
                 have hskip:(¬ (p.atom.n=y.head.n/\zi<zk+one p.no/\zi<=l.length))->stepJ l.length y i k o2 p=o2:=fun h=>by
                  unfold stepJ;rw[<- hzi,<- hzk,if_neg h]
                 have hb4:=HA4.o;clear hpk htp z0 z1 z2 hoo2 hol2 hzi hzk;by_cases hpn:p.atom.n=y.head.n
                 . have hpn3:(p.atom.n.toList == y.head.n.toList)=true:=by rw[hpn];exact beq_self_eq_true _
                   cases hno:p.no
                   . rw [hno] at s0 ry1 ci ck hfi hset hskip
                     simp only[one,Bool.false_eq_true,if_false,Nat.add_zero] at hset hskip;by_cases h1:zi<zk
                     . have gd1:decide ((zi:Int)<(zk:Int))=true:=decide_eq_true (by omega)
                       by_cases h2:zi<=l.length
                       . have gd2:decide ((zi:Int)<=(l.length:Int))=true:=decide_eq_true (by omega)
                         have HS:=zh (hset hpn h1 h2);clear hset hskip hpn;go_wp2_with fail
                         go_quiet (fail)
                         go_wp2;go_roundw
                         case rel=>exact⟨j+1,by omega,by go_num,zh (by rw[HNX.o,HS.o];simpa using Blk.intSet ((ho2.o.alloc (.cells #[.bool false,.string p.atom.n,.slice E2 p.atom.args.length g2] 137)).drewN _) i zk),zh (by rw[HNX.o];exact (Bd.sJ hbd2.o _ _ _ _ _).le (by omega)),Ext.setNew ((hx.alloc _).drewN _) (Nat.le_refl _) _⟩
                         case measure=>simp[intOf];omega
                       have gd2:decide ((zi:Int)<=(l.length:Int))=false:=decide_eq_false (by omega);have HS:=zh (hskip (by rintro ⟨_,_,h⟩;exact h2 h));clear hset hskip hpn;go_wp2_with fail
                       go_quiet (fail)
                       go_wp2;go_roundw
                       case rel=>exact⟨j+1,by omega,by go_num,zh (by rw[HNX.o,HS.o];exact (ho2.o.alloc (.cells #[.bool false,.string p.atom.n,.slice E2 p.atom.args.length g2] 137)).drewN _),zh (by rw[HNX.o];exact (Bd.sJ hbd2.o _ _ _ _ _).le (by omega)),(hx.alloc _).drewN _⟩
                       case measure=>simp[intOf];omega
                     have gd1:decide ((zi:Int)<(zk:Int))=false:=decide_eq_false (by omega);have HS:=zh (hskip (by rintro ⟨_,h,_⟩;exact h1 h));clear hset hskip hpn;go_wp2_with fail
                     go_quiet (fail)
                     go_wp2;go_roundw
                     case rel=>exact⟨j+1,by omega,by go_num,zh (by rw[HNX.o,HS.o];exact (ho2.o.alloc (.cells #[.bool false,.string p.atom.n,.slice E2 p.atom.args.length g2] 137)).drewN _),zh (by rw[HNX.o];exact (Bd.sJ hbd2.o _ _ _ _ _).le (by omega)),(hx.alloc _).drewN _⟩
                     case measure=>simp[intOf];omega
                   rw[hno] at s0 ry1 ci ck hfi hset hskip;simp only[one,if_true] at hset hskip;by_cases h1:zi<(zk+1)
                   . have gd1:decide ((zi:Int)<(zk:Int)+1)=true:=decide_eq_true (by omega)
                     by_cases h2:zi<=l.length
                     . have gd2:decide ((zi:Int)<=(l.length:Int))=true:=decide_eq_true (by omega)
                       have HS:=zh (hset hpn h1 h2);clear hset hskip hpn;go_wp2_with fail
                       go_quiet (fail)
                       go_wp2;go_roundw
                       case rel=>exact⟨j+1,by omega,by go_num,zh (by rw[HNX.o,HS.o];simpa using Blk.intSet ((ho2.o.alloc (.cells #[.bool true,.string p.atom.n,.slice E2 p.atom.args.length g2] 137)).drewN _) i (zk+1)),zh (by rw[HNX.o];exact (Bd.sJ hbd2.o _ _ _ _ _).le (by omega)),Ext.setNew ((hx.alloc _).drewN _) (Nat.le_refl _) _⟩
                       case measure=>simp[intOf];omega
                     have gd2:decide ((zi:Int)<=(l.length:Int))=false:=decide_eq_false (by omega);have HS:=zh (hskip (by rintro ⟨_,_,h⟩;exact h2 h));clear hset hskip hpn;go_wp2_with fail
                     go_quiet (fail)
                     go_wp2;go_roundw
                     case rel=>exact⟨j+1,by omega,by go_num,zh (by rw[HNX.o,HS.o];exact (ho2.o.alloc (.cells #[.bool true,.string p.atom.n,.slice E2 p.atom.args.length g2] 137)).drewN _),zh (by rw[HNX.o];exact (Bd.sJ hbd2.o _ _ _ _ _).le (by omega)),(hx.alloc _).drewN _⟩
                     case measure=>simp[intOf];omega
                   have gd1:decide ((zi:Int)<(zk:Int)+1)=false:=decide_eq_false (by omega);have HS:=zh (hskip (by rintro ⟨_,h,_⟩;exact h1 h));clear hset hskip hpn;go_wp2_with fail
                   go_quiet (fail)
                   go_wp2;go_roundw
                   case rel=>exact⟨j+1,by omega,by go_num,zh (by rw[HNX.o,HS.o];exact (ho2.o.alloc (.cells #[.bool true,.string p.atom.n,.slice E2 p.atom.args.length g2] 137)).drewN _),zh (by rw[HNX.o];exact (Bd.sJ hbd2.o _ _ _ _ _).le (by omega)),(hx.alloc _).drewN _⟩
                   case measure=>simp[intOf];omega
                 have hpn3:(p.atom.n.toList == y.head.n.toList)=false:=jdh hpn;have HS:=zh (hskip (by rintro ⟨h,_⟩;exact hpn h));clear hset hskip hpn;go_wp2_with fail
                 go_quiet (fail)
                 go_wp2;go_roundw
                 case rel=>exact⟨j+1,by omega,by go_num,zh (by rw[HNX.o,HS.o];exact (ho2.o.alloc (.cells #[.bool p.no,.string p.atom.n,.slice E2 p.atom.args.length g2] 137)).drewN _),zh (by rw[HNX.o];exact (Bd.sJ hbd2.o _ _ _ _ _).le (by omega)),(hx.alloc _).drewN _⟩
                 case measure=>simp[intOf];omega
               have hje:a.body.length<=j:=by omega
               have HE:=zh (show iterJ l a y i k o j=iterK l a i (iterI l (ja0 l n) i) (k+1) from by rw[jmf HYK.o hje,HO.o,jjj]);have hb4:=HA4.o;go_wp2;go_roundw
               case rel=>exact⟨k+1,by omega,by go_num,(by rw[<- HE.o];exact ho2),(by rw[<- HE.o];exact zh (hbd2.o.le (by omega))),hx⟩
               case measure=>simp[intOf];omega
            have HS:=zh (helse (fun h=>hlt h.2));have hg:decide ((xi:Int)<(xk:Int))=false:=decide_eq_false (by omega);clear hsame helse hn2;go_wp2_with fail
            go_quiet (fail)
            go_wp2;try simp only[show decide ((k:Int)<(l.length:Int))=true from decide_eq_true hk1]
            go_loopw [7] (fun x wr=>∃ j:Nat,j<=a.body.length/\x=.int .i64 j/\J1 (Blk wr w.heap.size 3 (ints (iterJ l a y i k o j)))/\J1 (Bd (320*n+40*i+5*k+j) (iterJ l a y i k o j))/\Ext w wr) (fun x _=>a.body.length-(intOf x).toNat)
            case atStart=>exact⟨0,Nat.zero_le _,rfl,zh (show Blk _ _ _ (ints (stepH a y i k o)) from by rw[HS.o];exact ho.o.drewN _),zh (HXK.o.le (by omega)),hx.drewN _⟩
            case round =>
             obtain⟨j,hj,rfl,ho2,hbd2,hx⟩:=hrel;have hj0:(0:Int)<=(j:Int):=by omega
             have ra2:=(hx.cells.1 b (off+i*3+2) hb).trans PA2.o;have ry0:=(hx.cells.1 b (off+k*3) hb').trans PY0.o;have hltr:w.heap.size<wr.heap.size:=ho2.o.lt;by_cases hjt:j<a.body.length
             . have hj1 : (j:Int)<(a.body.length:Int):=by omega
               obtain⟨b3,off3,p,v3,rfl,hb3,hpk,hps,htp,z0,z1,z2⟩:=jao.at_ HUA.o hjt;obtain⟨E2,g2,rfl,_,_⟩:=jaa.form htp;have s0:=(hx.cells.1 b3 (off3+j*3) hb3).trans z0;have s1:=(hx.cells.1 b3 (off3+j*3+1) hb3).trans z1;have s2:=(hx.cells.1 b3 (off3+j*3+2) hb3).trans z2;have ry1:=((hx.alloc (.cells #[.bool p.no,.string p.atom.n,.slice E2 p.atom.args.length g2] 137)).cells.1 b (off+k*3) hb').trans PY0.o;have HNX:=zh (jji (l:=l) (b:=y) (i:=i) (k:=k) (o:=o) hpk);obtain⟨o2,hoo2⟩:=nm (iterJ l a y i k o j);have hol2:o2.length=l.length:=by rw[hoo2,jme];exact HOL.o
               rw[<- hoo2] at ho2 hbd2 HNX;obtain⟨zi,hzi⟩:=nm (at0 o2 i);obtain⟨zk,hzk⟩:=nm (at0 o2 k);have ci:=Blk.int (ho2.o.alloc (.cells #[.bool p.no,.string p.atom.n,.slice E2 p.atom.args.length g2] 137)) (i:=i) (by omega);have ck:=Blk.int (ho2.o.alloc (.cells #[.bool p.no,.string p.atom.n,.slice E2 p.atom.args.length g2] 137)) (i:=k) (by omega);rw[<- hzi] at ci;rw[<- hzk] at ck;have hbi:zi<=320*n+40*i+5*k+j:=hzi▸hbd2.o i;have hbk:zk<=320*n+40*i+5*k+j:=hzk▸hbd2.o k;have hfi:=(ho2.o.alloc (.cells #[.bool p.no,.string p.atom.n,.slice E2 p.atom.args.length g2] 137)).frozen i
               have hset:p.atom.n=y.head.n->zi<zk+one p.no->zi<=l.length->stepJ l.length y i k o2 p=o2.set i (zk+one p.no):=fun h1 h2 h3=>by
                unfold stepJ;rw[<- hzi,<- hzk,if_pos ⟨h1,h2,h3⟩]
               have hskip:(¬ (p.atom.n=y.head.n/\zi<zk+one p.no/\zi<=l.length))->stepJ l.length y i k o2 p=o2:=fun h=>by
                unfold stepJ;rw[<- hzi,<- hzk,if_neg h]
               have hb4:=HA4.o;clear hpk htp z0 z1 z2 hoo2 hol2 hzi hzk;by_cases hpn:p.atom.n=y.head.n
               . have hpn3:(p.atom.n.toList == y.head.n.toList)=true:=by rw[hpn];exact beq_self_eq_true _
                 cases hno:p.no
                 . rw [hno] at s0 ry1 ci ck hfi hset hskip
                   simp only[one,Bool.false_eq_true,if_false,Nat.add_zero] at hset hskip;by_cases h1:zi<zk
                   . have gd1:decide ((zi:Int)<(zk:Int))=true:=decide_eq_true (by omega)
                     by_cases h2:zi<=l.length
                     . have gd2:decide ((zi:Int)<=(l.length:Int))=true:=decide_eq_true (by omega)
                       have HS:=zh (hset hpn h1 h2);clear hset hskip hpn;go_wp2_with fail
                       go_quiet (fail)
                       go_wp2;go_roundw
                       case rel=>exact⟨j+1,by omega,by go_num,zh (by rw[HNX.o,HS.o];simpa using Blk.intSet ((ho2.o.alloc (.cells #[.bool false,.string p.atom.n,.slice E2 p.atom.args.length g2] 137)).drewN _) i zk),zh (by rw[HNX.o];exact (Bd.sJ hbd2.o _ _ _ _ _).le (by omega)),Ext.setNew ((hx.alloc _).drewN _) (Nat.le_refl _) _⟩
                       case measure=>simp[intOf];omega
                     have gd2:decide ((zi:Int)<=(l.length:Int))=false:=decide_eq_false (by omega);have HS:=zh (hskip (by rintro ⟨_,_,h⟩;exact h2 h));clear hset hskip hpn;go_wp2_with fail
                     go_quiet (fail)
                     go_wp2;go_roundw
                     case rel=>exact⟨j+1,by omega,by go_num,zh (by rw[HNX.o,HS.o];exact (ho2.o.alloc (.cells #[.bool false,.string p.atom.n,.slice E2 p.atom.args.length g2] 137)).drewN _),zh (by rw[HNX.o];exact (Bd.sJ hbd2.o _ _ _ _ _).le (by omega)),(hx.alloc _).drewN _⟩
                     case measure=>simp[intOf];omega
                   have gd1:decide ((zi:Int)<(zk:Int))=false:=decide_eq_false (by omega);have HS:=zh (hskip (by rintro ⟨_,h,_⟩;exact h1 h));clear hset hskip hpn;go_wp2_with fail
                   go_quiet (fail)
                   go_wp2;go_roundw
                   case rel=>exact⟨j+1,by omega,by go_num,zh (by rw[HNX.o,HS.o];exact (ho2.o.alloc (.cells #[.bool false,.string p.atom.n,.slice E2 p.atom.args.length g2] 137)).drewN _),zh (by rw[HNX.o];exact (Bd.sJ hbd2.o _ _ _ _ _).le (by omega)),(hx.alloc _).drewN _⟩
                   case measure=>simp[intOf];omega
                 rw[hno] at s0 ry1 ci ck hfi hset hskip;simp only[one,if_true] at hset hskip;by_cases h1:zi<(zk+1)
                 . have gd1:decide ((zi:Int)<(zk:Int)+1)=true:=decide_eq_true (by omega)
                   by_cases h2:zi<=l.length
                   . have gd2:decide ((zi:Int)<=(l.length:Int))=true:=decide_eq_true (by omega)
                     have HS:=zh (hset hpn h1 h2);clear hset hskip hpn;go_wp2_with fail
                     go_quiet (fail)
                     go_wp2;go_roundw
                     case rel=>exact⟨j+1,by omega,by go_num,zh (by rw[HNX.o,HS.o];simpa using Blk.intSet ((ho2.o.alloc (.cells #[.bool true,.string p.atom.n,.slice E2 p.atom.args.length g2] 137)).drewN _) i (zk+1)),zh (by rw[HNX.o];exact (Bd.sJ hbd2.o _ _ _ _ _).le (by omega)),Ext.setNew ((hx.alloc _).drewN _) (Nat.le_refl _) _⟩
                     case measure=>simp[intOf];omega
                   have gd2:decide ((zi:Int)<=(l.length:Int))=false:=decide_eq_false (by omega);have HS:=zh (hskip (by rintro ⟨_,_,h⟩;exact h2 h));clear hset hskip hpn;go_wp2_with fail
                   go_quiet (fail)
                   go_wp2;go_roundw
                   case rel=>exact⟨j+1,by omega,by go_num,zh (by rw[HNX.o,HS.o];exact (ho2.o.alloc (.cells #[.bool true,.string p.atom.n,.slice E2 p.atom.args.length g2] 137)).drewN _),zh (by rw[HNX.o];exact (Bd.sJ hbd2.o _ _ _ _ _).le (by omega)),(hx.alloc _).drewN _⟩
                   case measure=>simp[intOf];omega
                 have gd1:decide ((zi:Int)<(zk:Int)+1)=false:=decide_eq_false (by omega);have HS:=zh (hskip (by rintro ⟨_,h,_⟩;exact h1 h));clear hset hskip hpn;go_wp2_with fail
                 go_quiet (fail)
                 go_wp2;go_roundw
                 case rel=>exact⟨j+1,by omega,by go_num,zh (by rw[HNX.o,HS.o];exact (ho2.o.alloc (.cells #[.bool true,.string p.atom.n,.slice E2 p.atom.args.length g2] 137)).drewN _),zh (by rw[HNX.o];exact (Bd.sJ hbd2.o _ _ _ _ _).le (by omega)),(hx.alloc _).drewN _⟩
                 case measure=>simp[intOf];omega
               have hpn3:(p.atom.n.toList == y.head.n.toList)=false:=jdh hpn;have HS:=zh (hskip (by rintro ⟨h,_⟩;exact hpn h));clear hset hskip hpn;go_wp2_with fail
               go_quiet (fail)
               go_wp2;go_roundw
               case rel=>exact⟨j+1,by omega,by go_num,zh (by rw[HNX.o,HS.o];exact (ho2.o.alloc (.cells #[.bool p.no,.string p.atom.n,.slice E2 p.atom.args.length g2] 137)).drewN _),zh (by rw[HNX.o];exact (Bd.sJ hbd2.o _ _ _ _ _).le (by omega)),(hx.alloc _).drewN _⟩
               case measure=>simp[intOf];omega
             have hje:a.body.length<=j:=by omega
             have HE:=zh (show iterJ l a y i k o j=iterK l a i (iterI l (ja0 l n) i) (k+1) from by rw[jmf HYK.o hje,HO.o,jjj]);have hb4:=HA4.o;go_wp2;go_roundw
             case rel=>exact⟨k+1,by omega,by go_num,(by rw[<- HE.o];exact ho2),(by rw[<- HE.o];exact zh (hbd2.o.le (by omega))),hx⟩
             case measure=>simp[intOf];omega
          have HS:=zh (helse (fun h=>hn2 h.1));have hn3:(y.head.n.toList == a.head.n.toList)=false:=jdh hn2;clear hsame helse hn2;go_wp2_with fail
          go_quiet (fail)
          go_wp2;try simp only[show decide ((k:Int)<(l.length:Int))=true from decide_eq_true hk1]
          go_loopw [7] (fun x wr=>∃ j:Nat,j<=a.body.length/\x=.int .i64 j/\J1 (Blk wr w.heap.size 3 (ints (iterJ l a y i k o j)))/\J1 (Bd (320*n+40*i+5*k+j) (iterJ l a y i k o j))/\Ext w wr) (fun x _=>a.body.length-(intOf x).toNat)
          case atStart=>exact⟨0,Nat.zero_le _,rfl,zh (show Blk _ _ _ (ints (stepH a y i k o)) from by rw[HS.o];exact ho.o.drewN _),zh (HXK.o.le (by omega)),hx.drewN _⟩
          case round =>
           obtain⟨j,hj,rfl,ho2,hbd2,hx⟩:=hrel;have hj0:(0:Int)<=(j:Int):=by omega
           have ra2:=(hx.cells.1 b (off+i*3+2) hb).trans PA2.o;have ry0:=(hx.cells.1 b (off+k*3) hb').trans PY0.o;have hltr:w.heap.size<wr.heap.size:=ho2.o.lt;by_cases hjt:j<a.body.length
           . have hj1 : (j:Int)<(a.body.length:Int):=by omega
             obtain⟨b3,off3,p,v3,rfl,hb3,hpk,hps,htp,z0,z1,z2⟩:=jao.at_ HUA.o hjt;obtain⟨E2,g2,rfl,_,_⟩:=jaa.form htp;have s0:=(hx.cells.1 b3 (off3+j*3) hb3).trans z0;have s1:=(hx.cells.1 b3 (off3+j*3+1) hb3).trans z1;have s2:=(hx.cells.1 b3 (off3+j*3+2) hb3).trans z2;have ry1:=((hx.alloc (.cells #[.bool p.no,.string p.atom.n,.slice E2 p.atom.args.length g2] 137)).cells.1 b (off+k*3) hb').trans PY0.o;have HNX:=zh (jji (l:=l) (b:=y) (i:=i) (k:=k) (o:=o) hpk);obtain⟨o2,hoo2⟩:=nm (iterJ l a y i k o j);have hol2:o2.length=l.length:=by rw[hoo2,jme];exact HOL.o
             rw[<- hoo2] at ho2 hbd2 HNX;obtain⟨zi,hzi⟩:=nm (at0 o2 i);obtain⟨zk,hzk⟩:=nm (at0 o2 k);have ci:=Blk.int (ho2.o.alloc (.cells #[.bool p.no,.string p.atom.n,.slice E2 p.atom.args.length g2] 137)) (i:=i) (by omega);have ck:=Blk.int (ho2.o.alloc (.cells #[.bool p.no,.string p.atom.n,.slice E2 p.atom.args.length g2] 137)) (i:=k) (by omega);rw[<- hzi] at ci;rw[<- hzk] at ck;have hbi:zi<=320*n+40*i+5*k+j:=hzi▸hbd2.o i;have hbk:zk<=320*n+40*i+5*k+j:=hzk▸hbd2.o k;have hfi:=(ho2.o.alloc (.cells #[.bool p.no,.string p.atom.n,.slice E2 p.atom.args.length g2] 137)).frozen i
             have hset:p.atom.n=y.head.n->zi<zk+one p.no->zi<=l.length->stepJ l.length y i k o2 p=o2.set i (zk+one p.no):=fun h1 h2 h3=>by
              unfold stepJ;rw[<- hzi,<- hzk,if_pos ⟨h1,h2,h3⟩]
             have hskip:(¬ (p.atom.n=y.head.n/\zi<zk+one p.no/\zi<=l.length))->stepJ l.length y i k o2 p=o2:=fun h=>by
              unfold stepJ;rw[<- hzi,<- hzk,if_neg h]
             have hb4:=HA4.o;clear hpk htp z0 z1 z2 hoo2 hol2 hzi hzk;by_cases hpn:p.atom.n=y.head.n
             . have hpn3:(p.atom.n.toList == y.head.n.toList)=true:=by rw[hpn];exact beq_self_eq_true _
               cases hno:p.no
               . rw [hno] at s0 ry1 ci ck hfi hset hskip
                 simp only[one,Bool.false_eq_true,if_false,Nat.add_zero] at hset hskip;by_cases h1:zi<zk
                 . have gd1:decide ((zi:Int)<(zk:Int))=true:=decide_eq_true (by omega)
                   by_cases h2:zi<=l.length
                   . have gd2:decide ((zi:Int)<=(l.length:Int))=true:=decide_eq_true (by omega)
                     have HS:=zh (hset hpn h1 h2);clear hset hskip hpn;go_wp2_with fail
                     go_quiet (fail)
                     go_wp2;go_roundw
                     case rel=>exact⟨j+1,by omega,by go_num,zh (by rw[HNX.o,HS.o];simpa using Blk.intSet ((ho2.o.alloc (.cells #[.bool false,.string p.atom.n,.slice E2 p.atom.args.length g2] 137)).drewN _) i zk),zh (by rw[HNX.o];exact (Bd.sJ hbd2.o _ _ _ _ _).le (by omega)),Ext.setNew ((hx.alloc _).drewN _) (Nat.le_refl _) _⟩
                     case measure=>simp[intOf];omega
                   have gd2:decide ((zi:Int)<=(l.length:Int))=false:=decide_eq_false (by omega);have HS:=zh (hskip (by rintro ⟨_,_,h⟩;exact h2 h));clear hset hskip hpn;go_wp2_with fail
                   go_quiet (fail)
                   go_wp2;go_roundw
                   case rel=>exact⟨j+1,by omega,by go_num,zh (by rw[HNX.o,HS.o];exact (ho2.o.alloc (.cells #[.bool false,.string p.atom.n,.slice E2 p.atom.args.length g2] 137)).drewN _),zh (by rw[HNX.o];exact (Bd.sJ hbd2.o _ _ _ _ _).le (by omega)),(hx.alloc _).drewN _⟩
                   case measure=>simp[intOf];omega
                 have gd1:decide ((zi:Int)<(zk:Int))=false:=decide_eq_false (by omega);have HS:=zh (hskip (by rintro ⟨_,h,_⟩;exact h1 h));clear hset hskip hpn;go_wp2_with fail
                 go_quiet (fail)
                 go_wp2;go_roundw
                 case rel=>exact⟨j+1,by omega,by go_num,zh (by rw[HNX.o,HS.o];exact (ho2.o.alloc (.cells #[.bool false,.string p.atom.n,.slice E2 p.atom.args.length g2] 137)).drewN _),zh (by rw[HNX.o];exact (Bd.sJ hbd2.o _ _ _ _ _).le (by omega)),(hx.alloc _).drewN _⟩
                 case measure=>simp[intOf];omega
               rw[hno] at s0 ry1 ci ck hfi hset hskip;simp only[one,if_true] at hset hskip;by_cases h1:zi<(zk+1)
               . have gd1:decide ((zi:Int)<(zk:Int)+1)=true:=decide_eq_true (by omega)
                 by_cases h2:zi<=l.length
                 . have gd2:decide ((zi:Int)<=(l.length:Int))=true:=decide_eq_true (by omega)
                   have HS:=zh (hset hpn h1 h2);clear hset hskip hpn;go_wp2_with fail
                   go_quiet (fail)
                   go_wp2;go_roundw
                   case rel=>exact⟨j+1,by omega,by go_num,zh (by rw[HNX.o,HS.o];simpa using Blk.intSet ((ho2.o.alloc (.cells #[.bool true,.string p.atom.n,.slice E2 p.atom.args.length g2] 137)).drewN _) i (zk+1)),zh (by rw[HNX.o];exact (Bd.sJ hbd2.o _ _ _ _ _).le (by omega)),Ext.setNew ((hx.alloc _).drewN _) (Nat.le_refl _) _⟩
                   case measure=>simp[intOf];omega
                 have gd2:decide ((zi:Int)<=(l.length:Int))=false:=decide_eq_false (by omega);have HS:=zh (hskip (by rintro ⟨_,_,h⟩;exact h2 h));clear hset hskip hpn;go_wp2_with fail
                 go_quiet (fail)
                 go_wp2;go_roundw
                 case rel=>exact⟨j+1,by omega,by go_num,zh (by rw[HNX.o,HS.o];exact (ho2.o.alloc (.cells #[.bool true,.string p.atom.n,.slice E2 p.atom.args.length g2] 137)).drewN _),zh (by rw[HNX.o];exact (Bd.sJ hbd2.o _ _ _ _ _).le (by omega)),(hx.alloc _).drewN _⟩
                 case measure=>simp[intOf];omega
               have gd1:decide ((zi:Int)<(zk:Int)+1)=false:=decide_eq_false (by omega);have HS:=zh (hskip (by rintro ⟨_,h,_⟩;exact h1 h));clear hset hskip hpn;go_wp2_with fail
               go_quiet (fail)
               go_wp2;go_roundw
               case rel=>exact⟨j+1,by omega,by go_num,zh (by rw[HNX.o,HS.o];exact (ho2.o.alloc (.cells #[.bool true,.string p.atom.n,.slice E2 p.atom.args.length g2] 137)).drewN _),zh (by rw[HNX.o];exact (Bd.sJ hbd2.o _ _ _ _ _).le (by omega)),(hx.alloc _).drewN _⟩
               case measure=>simp[intOf];omega
             have hpn3:(p.atom.n.toList == y.head.n.toList)=false:=jdh hpn;have HS:=zh (hskip (by rintro ⟨h,_⟩;exact hpn h));clear hset hskip hpn;go_wp2_with fail
             go_quiet (fail)
             go_wp2;go_roundw
             case rel=>exact⟨j+1,by omega,by go_num,zh (by rw[HNX.o,HS.o];exact (ho2.o.alloc (.cells #[.bool p.no,.string p.atom.n,.slice E2 p.atom.args.length g2] 137)).drewN _),zh (by rw[HNX.o];exact (Bd.sJ hbd2.o _ _ _ _ _).le (by omega)),(hx.alloc _).drewN _⟩
             case measure=>simp[intOf];omega
           have hje:a.body.length<=j:=by omega
           have HE:=zh (show iterJ l a y i k o j=iterK l a i (iterI l (ja0 l n) i) (k+1) from by rw[jmf HYK.o hje,HO.o,jjj]);have hb4:=HA4.o;go_wp2;go_roundw
           case rel=>exact⟨k+1,by omega,by go_num,(by rw[<- HE.o];exact ho2),(by rw[<- HE.o];exact zh (hbd2.o.le (by omega))),hx⟩
           case measure=>simp[intOf];omega
        have hke:k=l.length:=by omega
        subst hke;have HE:=zh (show iterK l a i (iterI l (ja0 l n) i) l.length=iterI l (ja0 l n) (i+1) from by rw[jyt HAK.o,jwt]);go_wp2;go_roundw
        case rel=>exact⟨i+1,by omega,by go_num,(by rw[<- HE.o];exact ho),(by rw[<- HE.o];exact zh (hbd.o.le (by omega))),hx⟩
        case measure=>simp[intOf];omega
     have hie:i=l.length:=by omega
     subst hie;have HE:=zh (show iterI l (ja0 l n) l.length=ja0 l (n+1) from jyv l _);go_wp2;go_roundw
     case rel=>exact⟨n+1,by omega,by go_num,(by rw[<- HE.o];exact ho),(by rw[<- HE.o];exact zh (hbd.o.le (by omega))),hx⟩
     case measure=>simp[intOf];omega
  have hne:n=M:=by omega
  subst hne;have HE:=zh (show ja0 l n=jap l from by unfold jap;rw[<- HM.o]);go_wp2;go_ret;exact⟨⟨_,rfl,by rw[<- HE.o];exact ho.o⟩,hx⟩
section
open Go.RowKit
theorem jtw (v:Value) (l:List GR) (w:World) {S:Nat->Prop} (hv:jam S w v l) (hl:l.length<=8) (hb:∀ r∈l,r.body.length<=4) :
  Calls Tryz.prog 251 #[v] w fun e w'=>e=.returned (.bool (jdp l))/\Ext w w':=by
 have hc:=jkp v l w hv hl hb;obtain⟨A,c,rfl,hc1,hc2⟩:=jaa.form hv;have HC:=zh hc;have hol:(jap l).length=l.length:=jcp l _;have HCY:=zh (jig l);obtain⟨o,ho⟩:=nm (jap l);rw[<- ho] at HC HCY hol;have HOL:=zh hol;clear hv hc hb ho hol
 go_in;go_wp2_with (go_at_call 212;refine HC.o.mono ?_;rintro e w1 ⟨⟨g,rfl,hg⟩,hx1⟩;have HG:=zh hg;have HX:=zh hx1;clear hg hx1)
 go_loopw [4] (fun i wr=>∃ k:Nat,k<=l.length/\i=.int .i64 k/\J1 (∀ i,i<k->at0 o i<l.length)/\Ext w1 wr) (fun i _=>l.length-(intOf i).toNat)
 case atStart=>exact⟨0,Nat.zero_le _,rfl,zh (fun i h=>absurd h (Nat.not_lt_zero _)),Ext.refl _⟩
 case round =>
  obtain⟨k,hk,rfl,hp,hx⟩:=hrel;have hk0:(0:Int)<=(k:Int):=by omega
  by_cases hlt:k<l.length
  . have hk1:(k:Int)<(l.length:Int):=by omega
    have ck:=Blk.int (HG.o.ext hx) (i:=k) (by rw[HOL.o];exact hlt);obtain⟨x,hxe⟩:=nm (at0 o k);rw[<- hxe] at ck;have hlg:=(HG.o.ext hx).lt;by_cases hge:l.length<=x
    . have hg1:decide ((l.length:Int)<=(x:Int))=true:=decide_eq_true (by omega)
      have HF:=zh (show jdp l=true from by
       rw[<- HCY.o,List.any_eq_true];exact⟨x,by rw[hxe];exact List.mem_of_getElem? (jdg (by rw[HOL.o];exact hlt)),decide_eq_true hge⟩)
      clear hxe;go_wp2;go_ret;exact⟨by rw[HF.o];rfl,HX.o.t hx⟩
    have hg1:decide ((l.length:Int)<=(x:Int))=false:=decide_eq_false (by omega)
    have HP:=zh (show ∀ i,i<k+1->at0 o i<l.length from fun i hi=>by
     rcases Nat.lt_or_ge i k with h|h
     . exact hp.o i h
     rw[show i=k from by omega,<- hxe];omega)
    clear hxe;go_wp2;go_roundw
    case rel=>exact⟨k+1,by omega,by go_num,HP,hx⟩
    case measure=>simp[intOf];omega
  have HF:=zh (show jdp l=false from by
    rw[<- HCY.o,List.any_eq_false];intro x hx2;obtain⟨i,hi,rfl⟩:=List.mem_iff_getElem.1 hx2;have h1:=jdg hi;rw[List.getElem?_eq_getElem hi] at h1;injection h1 with h1
    have h2:=hp.o i (by rw[HOL.o] at hi;omega);simp;omega)
  go_wp2;go_ret;exact⟨by rw[HF.o];rfl,HX.o.t hx⟩
theorem jim {r:GR} (h:jba r=true):r.body.length<=4:=by
 unfold jba at h;simp only[Bool.and_eq_true,decide_eq_true_eq] at h;exact h.2.2
theorem jjk (v:Value) (l:List GR) (w:World) {S:Nat->Prop} (hv:jam S w v l) :
  Calls Tryz.prog 211 #[v] w fun e w'=>e=.returned (.int .i64 ((jag l:Nat):Int))/\Ext w w':=by
 obtain⟨A,c,rfl,hc1,hc2⟩:=jaa.form hv;have HV:=zh hv;clear hv
 go_in;go_wp2;go_loopw [3] (fun i wr=>∃ k:Nat,k<=l.length/\i=.int .i64 k/\J1 ((l.take k).all jba=true)/\Ext w wr) (fun i _=>l.length-(intOf i).toNat)
 case atStart=>exact⟨0,Nat.zero_le _,rfl,rfl,Ext.refl _⟩
 case round =>
  obtain⟨k,hk,rfl,hp,hx⟩:=hrel;have hk0:(0:Int)<=(k:Int):=by omega
  by_cases hlt:k<l.length
  . obtain ⟨b,off,x,v1,u1,rfl,hb,hxk,hxs,ht,hu,p0,p1,p2⟩:=jam.at_ (HV.o.ext hx) hlt
    obtain⟨C,e,rfl,he1,he2⟩:=jaa.form ht;obtain⟨D,f,rfl,hf1,hf2⟩:=jaa.form hu;have hk1:(k:Int)<(l.length:Int):=by omega
    have HK:=zh hxk;have hw:=jai (jrg x _ _ wr hxs ht hu);clear hxk ht hu;cases hr:jba x
    . have HF:=zh (show jag l=1 from by unfold jag;rw[if_pos (jbc jba _ k x HK.o hr)])
      have HW:=zh (hw.2 hr);clear hw hr;go_wp2_with (go_at_call 249;refine HW.o.mono ?_;rintro e w1 ⟨rfl,hx1⟩)
      go_ret;exact⟨by rw[HF.o];rfl,hx.t hx1⟩
    have HP:=zh (show (l.take (k+1)).all jba=true from by rw[jbo jba _ k x HK.o,hp.o,hr];rfl);have HW:=zh (hw.1 hr);clear hw hr;go_wp2_with (go_at_call 249;refine HW.o.mono ?_;rintro e w1 ⟨rfl,hx1⟩)
    go_roundw
    case rel=>exact⟨k+1,by omega,by go_num,HP,hx.t hx1⟩
    case measure=>simp[intOf];omega
  have hall:=jbl jba _ k hlt hp.o;have hno:¬ l.all jba=false:=by rw[hall];simp
  have hke:k=l.length:=by omega
  subst hke;by_cases h8:8<l.length
  . have HF:=zh (show jag l=2 from by unfold jag;rw[if_neg hno,if_pos h8])
    clear hno hall hp;go_wp2;go_ret;exact⟨by rw[HF.o];rfl,hx⟩
  have hbody:∀ r∈l,r.body.length<=4:=fun r hr=>jim (List.all_eq_true.1 hall r hr)
  have HALL:=zh hall;have hwa:=jai (jws _ l wr (HV.o.ext hx) (by omega) hbody);have HBODY:=zh hbody;clear hbody hall hp;cases hargs:argsB (jaq l)
  . have HF:=zh (show jag l=3 from by unfold jag;rw[if_neg hno,if_neg h8,if_pos hargs])
    have HW:=zh (hwa.2 hargs);clear hwa hargs hno;go_wp2_with (go_at_call 250;refine HW.o.mono ?_;rintro e w1 ⟨rfl,hx1⟩)
    go_ret;exact⟨by rw[HF.o];rfl,hx.t hx1⟩
  have HN3:=zh (show ¬ argsB (jaq l)=false from by rw[hargs];simp);have HN1:=zh hno;have HW:=zh (hwa.1 hargs);clear hwa hargs hno;go_wp2_with (go_at_call 250;refine HW.o.mono ?_;rintro e w1 ⟨rfl,hx1⟩;have HX1:=zh (hx.t hx1);clear hx1)
  go_loopw [4] (fun i wr=>∃ k:Nat,k<=l.length/\i=.int .i64 k/\J1 ((l.take k).all jca=true)/\Ext w wr) (fun i _=>l.length-(intOf i).toNat)
  case atStart=>exact⟨0,Nat.zero_le _,rfl,rfl,HX1.o⟩
  case round =>
   obtain⟨q,hq,rfl,hp,hx⟩:=hrel;have hq0:(0:Int)<=(q:Int):=by omega
   by_cases hlt2:q<l.length
   . obtain ⟨b,off,x,v1,u1,rfl,hb,hxk,hxs,ht,hu,p0,p1,p2⟩:=jam.at_ (HV.o.ext hx) hlt2
     obtain⟨C,e,rfl,he1,he2⟩:=jaa.form ht;obtain⟨D,f,rfl,hf1,hf2⟩:=jaa.form hu;have hq1:(q:Int)<(l.length:Int):=by omega
     have HK:=zh hxk;have hw:=jai (jtr x _ _ wr hxs ht hu (List.all_eq_true.1 HALL.o x (List.mem_of_getElem? hxk)));clear hxk ht hu;cases hr:jca x
     . have HF:=zh (show jag l=4 from by unfold jag;rw[if_neg HN1.o,if_neg h8,if_neg HN3.o,if_pos (jbc jca _ q x HK.o hr)])
       have HW:=zh (hw.2 hr);clear hw hr;go_wp2_with (go_at_call 158;refine HW.o.mono ?_;rintro e w2 ⟨rfl,hx2⟩)
       go_ret;exact⟨by rw[HF.o];rfl,hx.t hx2⟩
     have HP:=zh (show (l.take (q+1)).all jca=true from by rw[jbo jca _ q x HK.o,hp.o,hr];rfl);have HW:=zh (hw.1 hr);clear hw hr;go_wp2_with (go_at_call 158;refine HW.o.mono ?_;rintro e w2 ⟨rfl,hx2⟩)
     go_roundw
     case rel=>exact⟨q+1,by omega,by go_num,HP,hx.t hx2⟩
     case measure=>simp[intOf];omega
   have hall2:=jbl jca _ q hlt2 hp.o;have hno4:¬ l.all jca=false:=by rw[hall2];simp
   have hwc:=jai (jtw _ l wr (HV.o.ext hx) (by omega) HBODY.o);clear hall2 hp;cases hcy:jdp l
   . have HF:=zh (show jag l=0 from by unfold jag;rw[if_neg HN1.o,if_neg h8,if_neg HN3.o,if_neg hno4,if_neg (by rw[hcy];simp)])
     have HW:=zh (hwc.2 hcy);clear hwc hcy hno4;go_wp2_with (go_at_call 251;refine HW.o.mono ?_;rintro e w2 ⟨rfl,hx2⟩)
     go_ret;exact⟨by rw[HF.o];rfl,hx.t hx2⟩
   have HF:=zh (show jag l=5 from by unfold jag;rw[if_neg HN1.o,if_neg h8,if_neg HN3.o,if_neg hno4,if_pos hcy]);have HW:=zh (hwc.1 hcy);clear hwc hcy hno4;go_wp2_with (go_at_call 251;refine HW.o.mono ?_;rintro e w2 ⟨rfl,hx2⟩)
   go_ret;exact⟨by rw[HF.o];rfl,hx.t hx2⟩
end
end Go.Proofs.YthiflhkcpanaaaaGreatDoor
