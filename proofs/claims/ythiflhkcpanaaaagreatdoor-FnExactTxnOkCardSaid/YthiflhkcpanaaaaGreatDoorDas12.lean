/- Own texts, joined. -/
import Derived.Test.YthiflhkcpanaaaaGreatDoorDas11
set_option linter.unusedSimpArgs false
set_option linter.unusedVariables false
set_option maxHeartbeats 8000000
set_option maxRecDepth 100000
namespace Go.Proofs.YthiflhkcpanaaaaGreatDoor
open Go.RowKit
theorem jwu (v u:Value) (xs:List GA) (a:GA) (w:World) {S T:Nat->Prop} (hv:jab S w v xs) (hu:jad T w u a.args) (hs:a.n.size<=maxLen) (hn:xs.length<=100000000000) :
  Calls Tryz.prog 148 #[v,.agg #[.string a.n,u]] w fun e w'=>(∃ v',e=.returned v'/\(OwnK kAtom w.heap.size 69 (fun b=>S b∨T b) w' v' (putA xs a)∨(v'=v/\putA xs a=xs)))/\Ext w w':=by
 obtain⟨A,c,rfl,hc1,hc2⟩:=jaa.form hv;obtain⟨B,d,rfl,hd1,hd2⟩:=jaa.form hu;obtain⟨i0,hi0,hz0,hz1,hz2⟩:=info_parts jd4;have HB:=zh (Blk.new w 69 #[.string a.n,.slice B a.args.length d]);have HV:=zh (hv.ext ((Ext.refl w).alloc (.cells #[.string a.n,.slice B a.args.length d] 69)));have HU:=zh (hu.ext ((Ext.refl w).alloc (.cells #[.string a.n,.slice B a.args.length d] 69)));clear hv hu;cases hh:hasA xs a
 . have HP := zh (show putA xs a=xs.take (ja8 xs a)++[a]++xs.drop (ja8 xs a) from by unfold putA;rw[hh];rfl)
   have H2:=zh hh;have hpl:=jgf xs a;obtain⟨k,hk⟩:=nm (ja8 xs a);rw[<- hk] at hpl HP;have HK:=zh hk
   have HC:=zh (show ∀ W,Ext (w.alloc (.cells #[.string a.n,.slice B a.args.length d] 69)) W->Calls Tryz.prog 197 #[.slice A xs.length c,.agg #[.string a.n,.slice B a.args.length d]] W fun e w'=>e=.returned (.tuple #[.int .i64 k,.bool false])/\Ext W w' from fun W hW =>
    (jk9 _ _ xs a W (HV.o.ext hW) (HU.o.ext hW)).mono fun e w' ⟨h1,h2⟩=>⟨by rw[h1,H2.o,HK.o],h2⟩)
   have hk0:(0:Int)<=(k:Int):=by omega
   have hk1:(k:Int)<=(c:Int):=by omega
   have hk2:(k:Int)<=(xs.length:Int):=by omega
   clear hh hk
   go_in;go_wp2_with (go_at_call 197;refine (HC.o _ (Ext.refl _)).mono ?_;rintro e w1 ⟨rfl,hx1⟩;have hb1:=HB.o.ext hx1;have q0:=hb1.cell 0;have q1:=hb1.cell 1;have hl1:=hb1.lt)
   have HX1:=zh (((Ext.refl w).alloc (.cells #[.string a.n,.slice B a.args.length d] 69)).t hx1);have HB1:=zh hb1
   have HE1:=zh (show ∀ W,Ext w1 W->jar kAtom (fun b=>(S b∨T b)/\b<w1.heap.size) W (.slice A k c) (xs.take k) from fun W hW =>
    jar.ext (((ListK.elems (k:=kAtom) (jaa.fst (HV.o.ext hx1) k hpl)).sub (fun b hb hlt=>⟨.inl hb,hlt⟩))) hW)
   have HE2:=zh (show ∀ W,Ext w1 W->kAtom.E (fun b=>(S b∨T b)/\b<w1.heap.size) W [.string a.n,.slice B a.args.length d] a from fun W hW =>
    ⟨_,rfl,hs,(jad.impL (w:=w1) (HU.o.ext hx1) (fun b hb hlt=>⟨.inr hb,hlt⟩) (Agree.of_ext hW) hW.size)⟩)
   have HE3:=zh (show ∀ W,Ext w1 W->jar kAtom (fun b=>(S b∨T b)/\b<w1.heap.size) W (.slice (if c=k then A else A.map (·.add (k*2))) (xs.length-k) (c-k)) (xs.drop k) from fun W hW =>
    jar.ext (((ListK.elems (k:=kAtom) (jaa.drop (HV.o.ext hx1) k hpl)).sub (fun b hb hlt=>⟨.inl hb,hlt⟩))) hW)
   have hlk:(xs.take k).length=k:=by rw[List.length_take];omega
   have HLK:=zh hlk;clear hx1 hb1 hlk
   go_region_held3 (fun w'=>w'.cell? ⟨w.heap.size,0,none⟩=some (.string a.n)/\w'.cell? ⟨w.heap.size,1,none⟩=some (.slice B a.args.length d))
    (first|exact⟨(HB1.o.ext HX4.o).cell 0,(HB1.o.ext HX4.o).cell 1⟩|exact⟨(HB1.o.ext HX3.o).cell 0,(HB1.o.ext HX3.o).cell 1⟩|exact⟨(HB1.o.ext HX2.o).cell 0,(HB1.o.ext HX2.o).cell 1⟩|go_keep)
    (first
     | (refine jb1 (o:=⟨some 19,_,_,_,_,_⟩) (k:=kAtom) (S:=fun b=>(S b∨T b)/\b<w1.heap.size) (T:=fun b=>(S b∨T b)/\b<w1.heap.size) (base:=w1.heap.size) (v:=.slice (some ⟨_,0,none⟩) 0 0) (xs:=[]) (ys:=xs.take k) (by rfl) (.tmp 15) (.tmp 18) 24 (by rfl) i0 _ 40 Tryz.underlying24 hi0 hz0 hz1 hz2 (by rfl) (by rfl)
         (by first|exact OwnK.drew (OwnK.empty rfl (Nat.le_refl _))|exact OwnK.drew (OwnK.alloc (OwnK.empty rfl (Nat.le_refl _)) _)|exact OwnK.drew (OwnK.empty (w:=w1.alloc _) (by simp) (by simp))) A k c (by rfl) (HE1.o _ (by first|exact Ext.drew (Ext.alloc (Ext.refl _) _)|exact Ext.drew (Ext.alloc (Ext.alloc (Ext.refl _) _) _))) (fun b hb=>⟨hb,hb.2⟩) (by unfold maxLen;simp;omega) (by simp;omega) (by go_size) ?_
        intro v1 w2 hap1;obtain⟨A1,n1,c1,rfl,hn1,hd11,hd12⟩:=hap1.own.form2;have HX2:=zh (hap1.toExt (w0:=w1) (by first|exact Ext.drew (Ext.alloc (Ext.refl _) _)|exact Ext.drew (Ext.alloc (Ext.alloc (Ext.refl _) _) _)) (Nat.le_refl _));have HA1:=zh hap1;clear hap1)
     | (refine jb1 (o:=⟨some 22,_,_,_,_,_⟩) (k:=kAtom) (S:=fun b=>(S b∨T b)/\b<w1.heap.size) (T:=fun b=>(S b∨T b)/\b<w1.heap.size) (base:=w1.heap.size) (xs:=[]++xs.take k) (ys:=[a]) (by rfl) (.tmp 19) (.tmp 21) 24 (by rfl) i0 _ 40 Tryz.underlying24 hi0 hz0 hz1 hz2 (by rfl) (by rfl)
         (by first|exact HA1.o.own|exact OwnK.alloc HA1.o.own _) _ 1 1 (by rfl) (jar.one (k:=kAtom) (x:=a) (by first|exact Blk.at_new rfl|exact HA1.o.blk2 (Blk.drew (Blk.at_new (w:=w1.alloc _) (by simp))) (by simp[Value.ownBlock])|exact HA1.o.blk2 (Blk.drew (Blk.alloc (Blk.at_new rfl) _)) (by simp[Value.ownBlock])) (HE2.o _ (by first|exact HX2.o|exact Ext.alloc HX2.o _))) (fun b hb=>⟨hb,hb.2⟩) (by unfold maxLen;simp;omega) (by simp;omega) (by have:=HX2.o.size;go_size) ?_
        intro v2 w3 hap2;obtain⟨A2,n2,c2,rfl,hn2,hd21,hd22⟩:=hap2.own.form2;have HX3:=zh (hap2.toExt (w0:=w1) (by first|exact HX2.o|exact Ext.alloc HX2.o _) (Nat.le_refl _));have HA2:=zh hap2;clear hap2)
     | (refine jb1 (o:=⟨some 26,_,_,_,_,_⟩) (k:=kAtom) (S:=fun b=>(S b∨T b)/\b<w1.heap.size) (T:=fun b=>(S b∨T b)/\b<w1.heap.size) (base:=w1.heap.size) (xs:=([]++xs.take k)++[a]) (ys:=xs.drop k) (by rfl) (.tmp 22) (.tmp 25) 24 (by rfl) i0 _ 40 Tryz.underlying24 hi0 hz0 hz1 hz2 (by rfl) (by rfl)
         (by exact HA2.o.own) _ _ _ (by rfl) (HE3.o _ HX3.o) (fun b hb=>⟨hb,hb.2⟩) (by unfold maxLen;simp;omega) (by simp;omega) (by have:=HX3.o.size;go_size) ?_
        intro v3 w4 hap3;obtain⟨A3,n3,c3,rfl,hn3,hd31,hd32⟩:=hap3.own.form2;have HX4:=zh (hap3.toExt (w0:=w1) HX3.o (Nat.le_refl _));have HA3:=zh hap3;clear hap3))
   all_goals go_wp2
   all_goals
    go_ret;refine⟨⟨_,rfl,?_⟩,HX1.o.t HX4.o⟩;rw[HP.o];have h:=HA3.o.own.sub (base':=w.heap.size) (S':=fun b=>S b∨T b) (Nat.le_of_lt hl1) (fun b hb=>hb.1);simp only[List.nil_append] at h;exact .inl h
 have HP:=zh (show putA xs a=xs from by unfold putA;rw[if_pos hh]);have H2:=zh hh;obtain⟨k,hk⟩:=nm (ja8 xs a);have HK:=zh hk
 have HC:=zh (show Calls Tryz.prog 197 #[.slice A xs.length c,.agg #[.string a.n,.slice B a.args.length d]] (w.alloc (.cells #[.string a.n,.slice B a.args.length d] 69)) fun e w'=>e=.returned (.tuple #[.int .i64 k,.bool true])/\Ext (w.alloc (.cells #[.string a.n,.slice B a.args.length d] 69)) w' from
  (jk9 _ _ xs a _ HV.o HU.o).mono fun e w' ⟨h1,h2⟩=>⟨by rw[h1,H2.o,HK.o],h2⟩)
 clear hh hk
 go_in;go_wp2_with (go_at_call 197;refine HC.o.mono ?_;rintro e w1 ⟨rfl,hx1⟩)
 go_ret;exact⟨⟨_,rfl,.inr ⟨rfl,HP.o⟩⟩,((Ext.refl _).alloc _).t hx1⟩
theorem jjl (v u:Value) (xs:List GA) (a:GA) (w:World) {S T:Nat->Prop} (hv:jab S w v xs) (hu:jad T w u a.args) (hs:a.n.size<=maxLen) (hn:xs.length<=100000000000) :
  Calls Tryz.prog 148 #[v,.agg #[.string a.n,u]] w fun e w'=>(∃ v',e=.returned v'/\jab (fun b=>w.heap.size<=b∨S b∨T b) w' v' (putA xs a))/\Ext w w' :=
 (jwu v u xs a w hv hu hs hn).mono fun e w' ⟨⟨v',h1,h2⟩,hx⟩=>⟨⟨v',h1,by
  rcases h2 with h2|⟨rfl,h2⟩
  . exact h2.list (S':=fun b=>w.heap.size<=b∨S b∨T b) (fun b hb=>.inr hb) (fun b hb=>.inl hb)
  rw[h2];exact jab.sub (S:=S) (hv.ext hx) (fun b hb=>.inr (.inl hb))⟩,hx⟩
/-! ### How many facts at once -/
theorem jvh (xs:List GA) (a:GA):(putA xs a).length<=xs.length+1:=by
 unfold putA;split
 . omega
 have:=jgf xs a;simp only[List.length_append,List.length_take,List.length_drop,List.length_singleton];omega
theorem jmg (f:LB->GA):∀ (l:List LB) (out:List GA),(l.foldl (fun o b=>putA o (f b)) out).length<=out.length+l.length
 | [],out=>by simp
 | b :: l,out=>by
   have h1:=jmg f l (putA out (f b));have h2:=jvh out (f b);rw[List.foldl_cons,List.length_cons];omega
theorem jvi {xs:List GA} {ps:List GP} (hx:xs.length<=300) (hp:ps.length<=4):(allN xs ps).length<=8208541201:=by
 unfold allN;refine Nat.le_trans (List.length_filter_le _ _) (Nat.le_trans (jho xs ps [⟨[],[]⟩]) ?_);rw[List.length_singleton,Nat.one_mul];exact Nat.le_trans (Nat.pow_le_pow_left (show xs.length+1<=301 from by omega) _) (Nat.le_trans (Nat.pow_le_pow_right (by omega) hp) (by decide))
theorem jpn {levels:List Nat} {level:Nat} {list:List GA} (hx:list.length<=300):∀ (l:List (GR × Nat)) (out:List GA),(∀ x∈l,x.1.body.length<=4)->(l.foldl (jbi levels level list) out).length<=out.length+l.length*8208541201
 | [],out,_=>by simp
 | x :: l,out,h=>by
   have h1:=jpn (levels:=levels) (level:=level) hx l (jbi levels level list out x) (fun y hy=>h y (List.mem_cons_of_mem _ hy))
   have h2:(jbi levels level list out x).length<=out.length+8208541201:=by
    unfold jbi;split
    . have:=jmg (fillN x.1.head) (allN list x.1.body) out
      have:=jvi hx (h x List.mem_cons_self);omega
    omega
   rw[List.foldl_cons,List.length_cons,Nat.add_mul];omega
theorem j2k {rules:List GR} {k:Nat} {r:GR} (h:rules[k]? = some r):rules.zipIdx[k]? = some (r,k):=by
 rw[List.getElem?_zipIdx,h];simp
theorem jwv (rules:List GR) (levels:List Nat) (level:Nat) (list:List GA) (v fv:Value) (g:Nat) (w:World) {S T:Nat->Prop} (hv:jam S w v rules) (hl:Blk w g 3 (ints levels)) (hll:levels.length=rules.length) (hf:jab T w fv list)
  (hr:rules.length<=8) (hb:∀ r∈rules,r.body.length<=4/\r.head.args.length<=1000/\∀ p∈r.body,p.atom.args.length<=1000) (hx:list.length<=300) :
  Calls Tryz.prog 213 #[v,.slice (some ⟨g,0,none⟩) rules.length rules.length,.int .i64 level,fv] w fun e w' =>
   (∃ v',e=.returned v'/\jab (From w.heap.size) w' v' (onceN rules levels level list))/\Ext w w':=by
 obtain⟨A,c,rfl,hc1,hc2⟩:=jaa.form hv;obtain⟨F,d,rfl,hd1,hd2⟩:=jaa.form hf;have HV:=zh hv;have HL:=zh hl;have HF:=zh hf;have HB:=zh hb;clear hv hl hf hb
 go_in;go_wp2;go_loopw [9,10] (fun o i wr=>∃ k:Nat,k<=rules.length/\i=.int .i64 k/\J1 (jab (From w.heap.size) wr o ((rules.zipIdx.take k).foldl (jbi levels level list) []))/\Ext w wr) (fun _ i _=>rules.length-(intOf i).toNat)
 case atStart=>exact⟨0,Nat.zero_le _,rfl,zh (jaa.nil_ 0 (Nat.zero_le _) _),(Ext.refl _).alloc _⟩
 case round =>
  obtain⟨k,hk,rfl,ho,hxr⟩:=hrel;have hk0:(0:Int)<=(k:Int):=by omega
  by_cases hlt:k<rules.length
  . have hlt' : (k:Int)<(rules.length:Int):=by omega
    obtain⟨b,off,r,rh,rb,rfl,hbl,hrk,hrn,hrh,hrb,hc0,hc1',hc2'⟩:=jam.at_ (HV.o.ext hxr) hlt;obtain⟨RH,ch,rfl,hch1,hch2⟩:=jaa.form hrh;obtain⟨RB,cb,rfl,hcb1,hcb2⟩:=jaa.form hrb;have HLw:=zh (HL.o.ext hxr);have q0:=(HLw.o.cell k).trans (jyq (show k<levels.length by omega));have ql:=HLw.o.lt;have HN:=zh (show ((rules.zipIdx.take (k+1)).foldl (jbi levels level list) [])=jbi levels level list ((rules.zipIdx.take k).foldl (jbi levels level list) []) (r,k) from jfc _ _ _ _ _ (j2k hrk));have HBR:=zh (HB.o r (List.mem_of_getElem? hrk))
    have hol:((rules.zipIdx.take k).foldl (jbi levels level list) []).length<=7*8208541201:=by
     refine Nat.le_trans (jpn hx _ _ fun y hy=>?_) ?_
     . exact (HB.o _ (List.fst_mem_of_mem_zipIdx (List.mem_of_mem_take hy))).1
     rw[List.length_take,List.length_nil,Nat.zero_add];exact Nat.mul_le_mul_right _ (by omega)
    obtain⟨out,hout⟩:=nm ((rules.zipIdx.take k).foldl (jbi levels level list) []);rw[<- hout] at ho HN hol;clear hout;by_cases hlv:at0 levels k=level
    . have hlv' : ((at0 levels k:Nat):Int)=(level:Int):=by rw[hlv]
      have HN2:=zh (show jbi levels level list out (r,k)=(allN list r.body).foldl (fun o b=>putA o (fillN r.head b)) out from by unfold jbi;rw[if_pos hlv]);have HAL:=zh (jyp list r.body _ _ wr (HF.o.ext hxr) hrb HBR.o.2.2 HBR.o.1 (by omega));have hal:=jvi hx HBR.o.1;obtain⟨all,hall⟩:=nm (allN list r.body);rw[<- hall] at HAL HN2 hal;have HRH:=zh hrh;clear hall hrh hrb
      go_wp2_with (first
       | (go_at_call 163;refine HAL.o.mono ?_;rintro e w1 ⟨⟨v1,rfl,hv1⟩,hx1⟩
          obtain⟨B,e1,rfl,he1,he2⟩:=jaa.form hv1;have HV1:=zh hv1;have HX1:=zh hx1;have HO1:=zh (ho.o.ext hx1);have r0:=(hx1.cells.1 b (off+k*3) hbl).trans hc0;have r1:=(hx1.cells.1 b (off+k*3+1) hbl).trans hc1';have hbl1:=Nat.lt_of_lt_of_le hbl hx1.size;have HRH1:=zh (HRH.o.ext hx1);have HW1:=zh (hxr.t hx1);have hw1:=(hxr.t hx1).size;clear hv1 hx1 hc0 hc1' hc2' hrk HAL HRH)
       | fail)
      go_loopw [9,12] (fun o i wq=>∃ q:Nat,q<=all.length/\i=.int .i64 q/\J1 (jab (From w.heap.size) wq o ((all.take q).foldl (fun o b=>putA o (fillN r.head b)) out))/\Ext w1 wq) (fun _ i _=>all.length-(intOf i).toNat)
      case atStart=>exact⟨0,Nat.zero_le _,rfl,HO1,Ext.refl _⟩
      case round =>
       obtain⟨q,hq,rfl,hoq,hxq⟩:=hrel;have hq0:(0:Int)<=(q:Int):=by omega
       by_cases hlq:q<all.length
       . have hlq':(q:Int)<(all.length:Int):=by omega
         obtain⟨bb,ob,bd,x,y,rfl,hbb,hbk,hxs,hys,hok,hd0,hd1'⟩:=jeo.at_ (HV1.o.ext hxq) hlq;obtain⟨X,cx,rfl,hcx1,hcx2⟩:=jaa.form hxs;obtain⟨Y,cy,rfl,hcy1,hcy2⟩:=jaa.form hys;have HQ:=zh (show (all.take (q+1)).foldl (fun o b=>putA o (fillN r.head b)) out=putA ((all.take q).foldl (fun o b=>putA o (fillN r.head b)) out) (fillN r.head bd) from jfc _ _ _ _ _ hbk);have hql:=jmg (fillN r.head) (all.take q) out;rw[List.length_take] at hql;obtain⟨oq,hoqe⟩:=nm ((all.take q).foldl (fun o b=>putA o (fillN r.head b)) out);rw[<- hoqe] at hoq HQ hql;clear hoqe;obtain⟨O,co,rfl,hco1,hco2⟩:=jaa.form hoq.o;have HFI:=zh (fun (W:World) (hW:Ext wr W)=>job r.head bd _ _ _ W (HRH1.o.ext (hxq.t hW)) (hxs.ext hW) (hys.ext hW) hok (by have:=HBR.o.2.1;omega))
         have HSW:=zh (fun (W:World) (hW:Ext wr W)=>(show W.cell? ⟨b,off+k*3,none⟩=some (.string r.head.n)/\W.cell? ⟨b,off+k*3+1,none⟩=some (.slice RH r.head.args.length ch)/\W.cell? ⟨bb,ob+q*2,none⟩=some (.slice X bd.ns.length cx)/\W.cell? ⟨bb,ob+q*2+1,none⟩=some (.slice Y bd.vs.length cy) from
          ⟨((hxq.t hW).cells.1 b _ hbl1).trans r0,((hxq.t hW).cells.1 b _ hbl1).trans r1,(hW.cells.1 bb _ hbb).trans hd0,(hW.cells.1 bb _ hbb).trans hd1'⟩))
         have HPU:=zh (fun (u:Value) (W:World) (hW:Ext wr W) (hu:jad (From wr.heap.size) W u (fillN r.head bd).args) =>
          show Calls Tryz.prog 148 #[.slice O oq.length co,.agg #[.string r.head.n,u]] W fun e w'=>(∃ v',e=.returned v'/\jab (From w.heap.size) w' v' (putA oq (fillN r.head bd)))/\Ext W w' from
          (jjl _ u oq (fillN r.head bd) W (hoq.o.ext hW) hu hrn (by omega)).mono fun e w' ⟨⟨v',h1,h2⟩,h3⟩=>⟨⟨v',h1,jab.sub h2 (fun i hi=>by
           have h4:=hxq.size;have h5:=hW.size;rcases hi with h|h|h
           . exact Nat.le_trans hw1 (Nat.le_trans h4 (Nat.le_trans h5 h))
           . exact h
           exact Nat.le_trans hw1 (Nat.le_trans h4 h))⟩,h3⟩)
         have s0:=(HSW.o _ (Ext.refl wr)).1;have s1:=(HSW.o _ (Ext.refl wr)).2.1;have hblq:=Nat.lt_of_lt_of_le hbl1 hxq.size;clear hxs hys;go_wp2_with fail
         go_region_held3 (fun w'=>w'.cell? ⟨b,off+k*3,none⟩=some (.string r.head.n)/\w'.cell? ⟨b,off+k*3+1,none⟩=some (.slice RH r.head.args.length ch)/\w'.cell? ⟨bb,ob+q*2,none⟩=some (.slice X bd.ns.length cx)/\w'.cell? ⟨bb,ob+q*2+1,none⟩=some (.slice Y bd.vs.length cy))
          (first|exact HSW.o _ HX6.o|exact HSW.o _ HX5.o|exact HSW.o _ (Ext.refl wr).drew)
          (first
           | (go_at_call 252;refine (HFI.o _ (Ext.refl wr).drew).mono ?_;rintro e w5 ⟨⟨v5,rfl,ht5⟩,hx5⟩
              have HX5:=zh (show Ext wr w5 from (Ext.refl wr).drew.t hx5);have HT5:=zh ht5;clear ht5 hx5)
           | (go_at_call 148;refine (HPU.o _ _ HX5.o HT5.o).mono ?_;rintro e w6 ⟨⟨v6,rfl,hv6⟩,hx6⟩
              have HX6:=zh (HX5.o.t hx6);have HV6:=zh hv6;clear hv6 hx6))
         all_goals go_wp2
         all_goals go_roundw
         case rel=>exact⟨q+1,by omega,by go_num,(by rw[HQ.o];exact HV6),hxq.t HX6.o⟩
         case measure=>simp[intOf];omega
       have hlq':¬ (q:Int)<(all.length:Int):=by omega
       obtain rfl:q=all.length:=by omega
       rw[List.take_length] at hoq;go_wp2;go_roundw
       case rel=>exact⟨k+1,by omega,by go_num,(by rw[HN.o,HN2.o];exact hoq),HW1.o.t hxq⟩
       case measure=>simp[intOf];omega
    have hlv':¬ ((at0 levels k:Nat):Int)=(level:Int):=by omega
    have HN2:=zh (show jbi levels level list out (r,k)=out from by unfold jbi;rw[if_neg hlv]);go_wp2;go_roundw
    case rel=>exact⟨k+1,by omega,by go_num,(by rw[HN.o,HN2.o];exact ho),hxr⟩
    case measure=>simp[intOf];omega
  have hlt':¬ (k:Int)<(rules.length:Int):=by omega
  obtain rfl:k=rules.length:=by omega
  rw[List.take_of_length_le (by rw[List.length_zipIdx];exact Nat.le_refl _)] at ho;go_wp2;go_ret;exact⟨⟨_,rfl,ho.o⟩,hxr⟩
end Go.Proofs.YthiflhkcpanaaaaGreatDoor
namespace Go.Proofs.YthiflhkcpanaaaaGreatDoor
open Go.RowKit
def SepZ {α:Type} (k:Kind α) (N:Nat) (e:TypeId) (P0:Nat->Prop) (w:World) (L:Lot α) (v:Value) (l:List GA) (on:Bool):Prop :=
 SepK k N e w L/\∃ Z:Nat->Prop,(on=true->jab Z w v l)/\(∀ b,Z b->b<w.heap.size/\(N<=b∨P0 b))/\∀ i p,L i=some p->∀ g,p.1.ownBlock=some g->¬ Z g
section
variable {α:Type} {k:Kind α} {N:Nat} {e:TypeId} {P0:Nat->Prop} {w w':World} {L:Lot α} {v:Value} {l:List GA} {on:Bool}
theorem SepZ.none:SepZ k N e P0 w (fun _=>.none) v l false:=⟨SepK.none,fun _=>False,(fun h=>by cases h),fun _ h=>h.elim,fun _ _ h=>by cases h⟩
theorem SepZ.put (h:SepZ k N e P0 w L v l on) (he:Ext w w') (i:Nat) {u:Value} {xs:List α} (hv:OwnK k N e None w' u xs) (hg:∀ g,u.ownBlock=some g->w.heap.size<=g):SepZ k N e P0 w' (L.upd i (u,xs)) v l on:=by
 obtain⟨h1,Z,h2,h3,h4⟩:=h;refine⟨h1.put he i hv hg,Z,fun ho=>(h2 ho).ext he,fun b hb=>⟨Nat.lt_of_lt_of_le (h3 b hb).1 he.size,(h3 b hb).2⟩,fun j p hp g hpg hz=>?_⟩;unfold Lot.upd at hp;split at hp
 . injection hp with hp;subst hp
   exact absurd (hg g hpg) (Nat.not_le.2 (h3 g hz).1)
 exact h4 j p hp g hpg hz
theorem SepZ.app (h:SepZ k N e P0 w L v l on) {i:Nat} {u u':Value} {xs zs:List α} (hi:L i=some (u,xs)) (ha:Apped k N e None w u zs u' w'):SepZ k N e P0 w' (L.upd i (u',zs)) v l on:=by
 obtain⟨h1,Z,h2,h3,h4⟩:=h;refine⟨h1.app hi ha,Z,fun ho=>jab.imp (h2 ho) (fun _ h=>h) (fun b hb hlt=>ha.grown.block b hlt (fun he=>h4 i _ hi b he.symm hb)) ha.grown.size,fun b hb=>⟨Nat.lt_of_lt_of_le (h3 b hb).1 ha.grown.size,(h3 b hb).2⟩,fun j p hp g hpg hz=>?_⟩;unfold Lot.upd at hp;split at hp
 . injection hp with hp;subst hp
   rcases ha.at_ with h5|h5
   . exact h4 i _ hi g (h5▸hpg) hz
   rw[h5] at hpg;injection hpg with hpg
   exact absurd (h3 g hz).1 (by omega)
 exact h4 j p hp g hpg hz
theorem SepZ.call (h:SepZ k N e P0 w L v l false) (he:Ext w w') {v':Value} {l':List GA} (hN:N<=w.heap.size) (hr:jab (fun b=>w.heap.size<=b∨P0 b) w' v' l') (hP:∀ b,P0 b->b<N):SepZ k N e P0 w' L v' l' true:=by
 obtain⟨h1,_,_,_,_⟩:=h;refine⟨h1.ext he,fun b=>(w.heap.size<=b∨P0 b)/\b<w'.heap.size,fun _=>ListK.low (k:=kAtom) hr,fun b hb=>⟨hb.2,hb.1.elim (fun h=>.inl (Nat.le_trans hN h)) .inr⟩,fun i p hp g hpg hz=>?_⟩;have h2:=(h1.1 i p hp).at_ g hpg;rcases hz.1 with h3|h3
 . omega
 have:=hP g h3;omega
theorem SepZ.facts (h:SepZ k N e P0 w L v l true):jab (fun b=>N<=b∨P0 b) w v l:=by
 obtain⟨_,Z,h2,h3,_⟩:=h;exact jab.sub (h2 rfl) (fun b hb=>(h3 b hb).2)
end
end Go.Proofs.YthiflhkcpanaaaaGreatDoor
