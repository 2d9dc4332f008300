/- Own texts, joined. -/
import Derived.Test.YthiflhkcpanaaaaGreatDoorDas17
set_option linter.unusedSimpArgs false
set_option linter.unusedVariables false
set_option maxHeartbeats 4000000
set_option maxRecDepth 100000
namespace Go.Proofs.YthiflhkcpanaaaaGreatDoor
open Go.RowKit
theorem jju (s:GS) (S:Sea) (sb:Nat) (w:World) (hs:SeaAt w sb S) (ho:jb2 12 s) :
  Calls Tryz.prog 304 #[.pointer (some ⟨sb,18,none⟩),.agg #[.int .i64 s.num,.string s.w]] w fun e w'=>e=.returned (.string (jau S.W s))/\Ext w w':=by
 cases hv:s.v with
 | none =>
   have hn:s.num = -1:=by unfold GS.num;rw[hv]
   have HW:=zh (show jau S.W s=s.w from by unfold jau;rw[hv]);rw[hn];clear hv hn ho
   go_in;go_wp2;go_ret;exact⟨by rw[HW.o];rfl,(Ext.refl _).alloc _⟩
 | some v =>
   have hn:s.num=(v:Int):=by unfold GS.num;rw[hv]
   have hv12:v<12:=by unfold jb2 at ho;rw[hv] at ho;exact ho
   have HW:=zh (show jau S.W s=S.W.at_ v from by unfold jau;rw[hv]);have h0:=(hs.ext ((Ext.refl w).alloc (.cells #[.int .i64 (v:Int),.string s.w] 332))).word hv12;have hl:=hs.lt;have hb:=Blk.new w 332 #[.int .i64 (v:Int),.string s.w];have b0:=hb.cell 0;have hk0:(0:Int)<=(v:Int):=by omega
   have hk1:(v:Int)<12:=by omega
   rw[hn];clear hv hn ho hs
   go_in;go_wp2;refine jaw (by kernel_rfl) (by kernel_rfl) ?_;repeat (go_big_quiet_step (fail))
   refine wpQuiet_nil ?_;rintro w1 ⟨⟨_,hx1⟩,rfl⟩;go_wp2;go_ret;exact⟨by rw[HW.o];rfl,((Ext.refl _).alloc _).t hx1⟩
def Sea.back (s:Sea) (m:Nat):Sea:= { s with W:=jgr s.W ((s.bd.take s.cnt).drop m),cnt:=m }
theorem j13 {w:World} {sb:Nat} {s:Sea} (h:SeaAt w sb s) (hc:s.cnt<=12):SeaAt w sb (s.back s.cnt):=by
 have e:s.back s.cnt=s:=by
  unfold Sea.back;rw[List.drop_eq_nil_of_le (by rw[List.length_take];omega)];cases s;rfl
 rw[e];exact h
theorem jzd {s:Sea} {m:Nat} (hm:m<s.cnt) (hl:s.bd.length=12) (hc:s.cnt<=12):jgr s.W ((s.bd.take s.cnt).drop m)=(jgr s.W ((s.bd.take s.cnt).drop (m+1))).set (s.bd.getD m 0) jcr:=by
 have hx:(s.bd.take s.cnt)[m]? = some (s.bd.getD m 0):=by
  rw[List.getElem?_take_of_lt hm,List.getD_eq_getElem?_getD,List.getElem?_eq_getElem (by omega)];rfl
 rw[jbq hx]
 rfl
theorem jvn (S:Sea) (sb c:Nat) (w:World) (hs:SeaAt w sb S) (hc:c<=S.cnt) (hn:S.cnt<=12) (hb:∀ i,i<S.cnt->S.bd.getD i 0<12) :
  Calls Tryz.prog 297 #[.pointer (some ⟨sb,18,none⟩),.int .i64 (c:Int)] w fun e w'=>e=.returned (.tuple #[])/\SeaAt w' sb (S.back c)/\jac (fun b=>b=sb) w w':=by
 have HB:=zh hb;have h0:=j13 hs hn;clear hb
 go_in;go_wp2
 go_loopw [] (fun wr=>∃ m:Nat,c<=m/\m<=S.cnt/\J1 (SeaAt wr sb (S.back m))/\J1 (jac (fun b=>b=sb) w wr)) (fun wr=>match wr.cell? ⟨sb,42,none⟩ with|some (.int _ n)=>n.toNat|_=>0)
 case atStart=>exact⟨S.cnt,hc,Nat.le_refl _,zh h0,zh (jac.refl _ _)⟩
 case round =>
  obtain⟨m,hm1,hm2,hse,hin⟩:=hrel;have q0:=hse.o.cnt;have hl:=hse.o.lt;have qf:=hse.o.frozen 42;simp only[Sea.back] at q0;by_cases hgt:c<m
  . obtain ⟨m',rfl⟩:∃ m',m=m'+1:=⟨m-1,by omega⟩
    have hg1:(c:Int)<((m'+1:Nat):Int):=by omega
    have hg2:(((m'+1:Nat):Int))-1=(m':Int):=by omega
    go_wp2_with fail
    have hs1:=hse.o.setC m';have hi1:=hin.o.t (jac.set (S:=fun b=>b=sb) wr ⟨sb,42,none⟩ (.int .i64 (m':Int)) rfl)
    generalize wr.setCell ⟨sb,42,none⟩ (.int .i64 (m':Int))=w1 at hs1 hi1 ⊢
    have hm12:m'<12:=by omega
    have hv12:=HB.o m' (by omega);obtain⟨v,hv⟩:=nm (S.bd.getD m' 0);have p0:=hs1.cnt;have p1:=hs1.bound hm12;simp only[Sea.back] at p0 p1;rw[<- hv] at p1 hv12;have p2:=hs1.word hv12;have pf:=hs1.frozen (18+v);have hl1:=hs1.lt;have hk0:(0:Int)<=(m':Int):=by omega
    have hk1:(m':Int)<12:=by omega
    have hk2:(0:Int)<=(v:Int):=by omega
    have hk3:(v:Int)<12:=by omega
    have HSE:=zh hs1;have HI1:=zh hi1;have HV:=zh hv;clear hs1 hi1 hv qf
    go_still_tail 13,(by kernel_rfl)
    change wpList _ _ _ _ _ w1.drew;go_wp2;go_roundw
    case rel =>
     refine⟨m',by omega,by omega,zh ?_,zh (HI1.o.t ((jac.of_ext (Ext.refl w1).drew).t (jac.set (S:=fun b=>b=sb) w1.drew ⟨sb,18+v,none⟩ _ rfl)))⟩;have h:=(HSE.o.ext (Ext.refl w1).drew).setW hv12 (x:=jcr) (Nat.zero_le _)
     have e:S.back m' = { { S.back (m'+1) with cnt:=m' } with W:=(S.back (m'+1)).W.set v jcr }:=by
      have h2:=jzd (s:=S) (m:=m') (by omega) HSE.o.lB hn;unfold Sea.back;rw[h2,HV.o]
     rw[e];exact h
    case measure =>
     have h9:(w1.setCell ⟨sb,18+v,none⟩ (.string ⟨#[]⟩)).cell? ⟨sb,42,none⟩=some (.int .i64 (m':Int)):=(HSE.o.setW hv12 (x:=jcr) (Nat.zero_le _)).cnt;simp[q0,h9]
  have he:m=c:=by omega
  subst he;have hg1:¬ ((m:Int)<(m:Int)):=by omega
  go_wp2
  go_end0
  exact⟨rfl,hse.o,hin.o⟩
structure je6 (S T:Sea) (l:List Nat):Prop where
 same:T = { S with W:=T.W,bd:=T.bd,cnt:=T.cnt }
 cnt:T.cnt=S.cnt+l.length
 bd:T.bd.take T.cnt=S.bd.take S.cnt++l
 ok:Bok T.W (T.bd.take T.cnt)
theorem je6.refl {S:Sea} (h:Bok S.W (S.bd.take S.cnt)):je6 S S []:=⟨by cases S;rfl,by simp,by simp,h⟩
theorem je6.step {S T:Sea} {l:List Nat} {v:Nat} {x:ByteArray} (h:je6 S T l) (hW:T.W.length=12) (hB:T.bd.length=12) (hv:v<12) (hn:isNo (T.W.at_ v)=true) (hx:isNo x=false) :
  T.cnt<12/\je6 S { T with W:=T.W.set v x,bd:=T.bd.set T.cnt v,cnt:=T.cnt+1 } (l++[v]):=by
 have hl:(T.bd.take T.cnt).length<12:=h.ok.room hW hv hn;have hlt:T.cnt<12:=by rw[List.length_take] at hl;omega
 have ht:(T.bd.set T.cnt v).take (T.cnt+1)=T.bd.take T.cnt++[v]:=by
  rw[List.take_add_one,List.take_set_of_le (Nat.le_refl _),List.getElem?_set_self (by omega)];rfl
 refine⟨hlt,?_,?_,?_,?_⟩
 . have:=h.same
   cases S;cases T;simp only[Sea.mk.injEq] at this ⊢;exact⟨this.1,this.2.1,this.2.2.1,this.2.2.2.1,this.2.2.2.2.1,this.2.2.2.2.2.1,this.2.2.2.2.2.2.1,trivial,trivial,trivial,this.2.2.2.2.2.2.2.2.2.2⟩
 . simp only[List.length_append,List.length_cons,List.length_nil];have:=h.cnt;omega
 . show (T.bd.set T.cnt v).take (T.cnt+1)=_
   rw[ht,h.bd,List.append_assoc]
 show Bok (T.W.set v x) ((T.bd.set T.cnt v).take (T.cnt+1));rw[ht];exact h.ok.snoc hW hv hn hx
theorem jtz {ss:List GS} {ts:List GT} {k:Nat} {s:GS} {t:GT} {W:Words} (hs:ss[k]? = some s) (ht:ts[k]? = some t) :
  jb9 (ss.drop k) (ts.drop k) W=(if t.v || isNo t.n then (W,false) else if isNo (jau W s) then jb9 (ss.drop (k+1)) (ts.drop (k+1)) (bindW W s t.n) else if jau W s=t.n then jb9 (ss.drop (k+1)) (ts.drop (k+1)) W else (W,false)):=by
 rw[jbq hs,jbq ht];rfl
theorem jt0 {ss:List GS} {ts:List GT} {k:Nat} {s:GS} {t:GT} {W:Words} (hs:ss[k]? = some s) (ht:ts[k]? = some t) :
  jdi (ss.drop k) (ts.drop k) W=(if t.v || isNo t.n then [] else if isNo (jau W s) then s.v.toList++jdi (ss.drop (k+1)) (ts.drop (k+1)) (bindW W s t.n) else if jau W s=t.n then jdi (ss.drop (k+1)) (ts.drop (k+1)) W else []):=by
 rw[jbq hs,jbq ht];rfl
theorem jw2 {ss:List GS} {ts:List GT} {k:Nat} {W:Words} (h:ss.length<=k):jb9 (ss.drop k) (ts.drop k) W=(W,true)/\jdi (ss.drop k) (ts.drop k) W=[]:=by
 rw[List.drop_eq_nil_of_le h];exact⟨by cases ts.drop k<;>rfl,by cases ts.drop k<;>rfl⟩
def pmOf (l:List GA) (s:ByteArray):Option Nat:=l.zipIdx.foldl (fun o x=>if s=strOf (atomL x.1) then some x.2 else o) none
theorem jru (l:List GA) (a:GA):pmOf (l++[a])=fun s=>if s=strOf (atomL a) then some l.length else pmOf l s:=by
 funext s
 unfold pmOf;rw[List.zipIdx_append,List.foldl_append];simp
theorem jze {l:List GA} {s:ByteArray}:(pmOf l s).isSome=l.any (fun a=>decide (s=strOf (atomL a))):=by
 have key:∀ (l:List GA) (n:Nat) (o:Option Nat),((l.zipIdx n).foldl (fun o x=>if s=strOf (atomL x.1) then some x.2 else o) o).isSome=(o.isSome || l.any (fun a=>decide (s=strOf (atomL a)))):=by
  intro l
  induction l with
  | nil=>intro n o;simp
  | cons a l ih =>
    intro n o;rw[List.zipIdx_cons,List.foldl_cons,ih,List.any_cons];by_cases h:s=strOf (atomL a)
    . simp[h]
    simp[h]
 have:=key l 0 none;simpa [pmOf] using this
theorem Still.toExt {w w':World} (h:Still (fun b=>b<w.heap.size) w w'):Ext w w':=⟨h.os,h.tape,h.output,h.size,fun i hi=>h.block i hi hi⟩
structure jd7 (F:Nat->Prop) (w:World) (sb:Nat) (facts:List GA) (rounds:List Nat) (fv rv:Value) (mb pb nm np:Nat) (f:Value->Value):Prop where
 blk:Blk w sb 268 #[fv,rv,.map (some mb),.map (some pb)]
 sF:F sb
 mF:F mb
 pF:F pb
 fa:jab F w fv facts
 ro:NumsR F w rv rounds
 mp:MapV w mb nm f
 gr:∀ n s o,NumsR F w (f (wk n s o)) (jal facts n s o)
 pl:MapN w pb np (pmOf facts)
theorem jd7.inside {F Q:Nat->Prop} {w w':World} {sb:Nat} {facts:List GA} {rounds:List Nat} {fv rv:Value} {mb pb nm np:Nat} {f:Value->Value} (h:jd7 F w sb facts rounds fv rv mb pb nm np f) (hi:jac Q w w') (hF:∀ b,F b->¬ Q b):jd7 F w' sb facts rounds fv rv mb pb nm np f:=by
 have hag:Agree F w w':=fun b hb hlt=>hi.block b hlt (hF b hb)
 exact⟨hi.blk h.blk (hF _ h.sF),h.sF,h.mF,h.pF,h.fa.imp (fun _ h=>h) hag hi.size,h.ro.impL (fun _ h _=>h) hag hi.size,h.mp.inside hi (hF _ h.mF),fun n s o=>(h.gr n s o).impL (fun _ h _=>h) hag hi.size,h.pl.ext (hi.block _ h.pl.lt (hF _ h.pF))⟩
theorem jd7.ext {F:Nat->Prop} {w w':World} {sb:Nat} {facts:List GA} {rounds:List Nat} {fv rv:Value} {mb pb nm np:Nat} {f:Value->Value} (h:jd7 F w sb facts rounds fv rv mb pb nm np f) (hx:Ext w w'):jd7 F w' sb facts rounds fv rv mb pb nm np f :=
 h.inside (Q:=fun _=>False) (jac.of_ext hx) (fun _ _ h=>h)
theorem ja2.toR {base:Nat} {S T:Nat->Prop} {w:World} {sb mb pb:Nat} {fv rv:Value} {f:Value->Value} {facts:List GA} {rounds:List Nat} {nm np:Nat} (h:ja2 base S T w sb mb pb fv rv f facts rounds (jal facts) nm (pmOf facts) np) {lo:Nat} (h1:lo<=sb/\lo<=mb/\lo<=pb) :
  jd7 (fun b=>S b∨(lo<=b/\b<w.heap.size)) w sb facts rounds fv rv mb pb nm np f:=by
 obtain⟨l1,l2,l3,_⟩:=h.lo;have hb:lo<=base:=by omega
 refine⟨h.blk,.inr ⟨h1.1,h.blk.lt⟩,.inr ⟨h1.2.1,h.mp.lt⟩,.inr ⟨h1.2.2,h.pl.lt⟩,?_,?_,h.mp,fun n s o=>?_,h.pl⟩
 . exact jab.impL (S:=fun b=>S b∨base<=b) (h.fa.list (S':=fun b=>S b∨base<=b) (fun b hb=>.inl hb) (fun b hb=>.inr hb)) (fun b hb hlt=>hb.imp id (fun h=>⟨by omega,hlt⟩)) (.refl _ _) (Nat.le_refl _)
 . exact NumsR.impL (S:=fun b=>base<=b) (h.ro.list (S':=fun b=>base<=b) (fun b hb=>hb.elim) (fun b hb=>hb)) (fun b hb hlt=>.inr ⟨by omega,hlt⟩) (.refl _ _) (Nat.le_refl _)
 exact NumsR.impL (S:=fun b=>base<=b) ((h.gr n s o).list (S':=fun b=>base<=b) (fun b hb=>hb.elim) (fun b hb=>hb)) (fun b hb hlt=>.inr ⟨by omega,hlt⟩) (.refl _ _) (Nat.le_refl _)
theorem jkt {m:Nat}:∀ (ps:List GP) (o:List ByteArray),(∀ p∈ps,p.atom.args.length<=m)->(ps.foldl (fun o p=>ja7 o p.atom) o).length<=o.length+ps.length*m
 | [],o,_=>by simp
 | p :: ps,o,h=>by
   have h1:=jkt ps (ja7 o p.atom) (fun q hq=>h q (List.mem_cons_of_mem _ hq));have h2:=jep o p.atom;have h3:=h p List.mem_cons_self;have h4:(ps.length+1)*m=ps.length*m+m:=by rw[Nat.add_mul,Nat.one_mul]
   rw[List.foldl_cons,List.length_cons,h4];omega
theorem jw3 {m:Nat} {ps:List GP} (h:∀ p∈ps,p.atom.args.length<=m):(varsN ps).length<=ps.length*m:=by
 have:=jkt ps [] h;simpa [varsN] using this
theorem jac.beyond {S:Nat->Prop} {a b c:World} {n:Nat} (h:jac S a b) (k:Below n b c) (hn:a.heap.size<=n):jac S a c :=
 ⟨k.os.trans h.os,k.tape.trans h.tape,k.output.trans h.output,Nat.le_trans h.size k.size,fun i hi hS=>(k.block i (Nat.lt_of_lt_of_le hi hn)).trans (h.block i hi hS)⟩
theorem jac.cell {S:Nat->Prop} {a b:World} (h:jac S a b) {g o:Nat} {u:Value} (hg:g<a.heap.size) (hS:¬ S g) (hc:a.cell? ⟨g,o,none⟩=some u):b.cell? ⟨g,o,none⟩=some u :=
 (World.cell?_of_block (w:=a) (a:=⟨g,o,none⟩) (h.block g hg hS)).trans hc
def termP (W:Words) (s:GS):GT:=⟨false,jau W s⟩
theorem jrv (p:GPat) (pv:Value) (S:Sea) (sb:Nat) (w:World) {P:Nat->Prop} (hs:SeaAt w sb S) (hp:ja9 P w pv p.slots) (hok:∀ s∈p.slots,jb2 12 s) (hn:p.slots.length<=1000) :
  Calls Tryz.prog 278 #[.pointer (some ⟨sb,18,none⟩),.agg #[.string p.n,pv]] w fun e w'=>(∃ v',e=.returned (.agg #[.string p.n,v'])/\jad (From w.heap.size) w' v' (factP S.W p).args)/\Ext w w':=by
 obtain⟨A,c,rfl,hc1,hc2⟩:=jaa.form hp;obtain⟨i0,hi0,hz0,hz1,hz2⟩:=info_parts jgd;obtain⟨W0,hW0⟩:=nm (((w.alloc (.cells #[.string p.n,.slice A p.slots.length c] 297)).alloc (.cells #[.string ⟨#[]⟩,.slice none 0 0] 69)).alloc (.cells #[.string p.n,.slice none 0 0] 69));have HB0:=zh (show Blk W0 w.heap.size 297 #[.string p.n,.slice A p.slots.length c] from by rw[hW0];exact ((Blk.new _ _ _).alloc _).alloc _);have HB1:=zh (show Blk W0 (w.heap.size+1) 69 #[.string ⟨#[]⟩,.slice none 0 0] from by rw[hW0];exact (Blk.at_new (by simp)).alloc _);have HB2:=zh (show Blk W0 (w.heap.size+1+1) 69 #[.string p.n,.slice none 0 0] from by rw[hW0];exact Blk.at_new (by simp));have HE0:=zh (show Ext w W0 from by rw[hW0];exact (((Ext.refl _).alloc _).alloc _).alloc _);have hz:W0.heap.size=w.heap.size+1+1+1:=by rw[hW0];simp
 have HW0:=zh hW0;have HZ:=zh hz;have HS:=zh (hs.ext HE0.o);have HP:=zh hp;have HOK:=zh hok;have HAP0:=zh (show (factP S.W p).args=p.slots.map (termP S.W) from rfl);have hsl:=hs.lt;clear hs hp hok hW0 hz
 go_in;go_wp2_with fail
 rw[<- HW0.o];go_loopw [14] (fun i wr=>∃ (k:Nat) (q:Value),k<=p.slots.length/\i=.int .i64 k/\J1 (Blk wr (w.heap.size+1+1) 69 #[.string p.n,q])/\J1 (OwnK kTerm (w.heap.size+1+1+1) 157 None wr q ((p.slots.take k).map (termP S.W)))/\J1 (jac (fun b=>b=w.heap.size+1+1) W0 wr)) (fun i _=>p.slots.length-(intOf i).toNat)
 case atStart=>exact⟨0,_,Nat.zero_le _,rfl,HB2,zh OwnK.nil,zh (jac.refl _ _)⟩
 case round =>
  obtain⟨k,q,hk,rfl,hob,hown,hin⟩:=hrel;have hk0:(0:Int)<=(k:Int):=by omega
  obtain⟨OA,on,oc,rfl,hon,ho1,ho2⟩:=hown.o.form2;have hsz:=hin.o.size;rw[HZ.o] at hsz;have o0:=hob.o.cell 0;have o1:=hob.o.cell 1;have of1:=hob.o.frozen 1;have hl1:=hob.o.lt;by_cases hlt:k<p.slots.length
  . have hk1 : (k:Int)<(p.slots.length:Int):=by omega
    obtain⟨bs,os,sl,rfl,hbs,hsk,hss,hs0,hs1⟩:=ja9.at_ HP.o hlt;obtain⟨z,hzz⟩:=nm (jau S.W sl);have HT:=zh (show (p.slots.take (k+1)).map (termP S.W)=(p.slots.take k).map (termP S.W)++[⟨false,z⟩] from by rw[hzz,List.take_add_one,hsk,List.map_append];rfl);have HLK:=zh (show ((p.slots.take k).map (termP S.W)).length=k from by rw[List.length_map,List.length_take];omega);have hinw:=(jac.of_ext (S:=fun b=>b=w.heap.size+1+1) HE0.o).t hin.o;have c0:=hinw.cell hbs (fun e=>by omega) hs0;have c1:=hinw.cell hbs (fun e=>by omega) hs1;have hbsw:bs<wr.heap.size:=by omega
    have HSW:=zh (hin.o.sub (T:=fun b=>b=w.heap.size+1+1) (fun _ h _=>h));have hse:=HS.o.inside hin.o (fun e=>by omega);have hzs:z.size<=maxLen:=by rw[hzz];exact jkq hse hss
    have HWO:=zh (fun (W:World) (hW:Ext wr W)=>show Calls Tryz.prog 304 #[.pointer (some ⟨sb,18,none⟩),.agg #[.int .i64 sl.num,.string sl.w]] W fun e w'=>e=.returned (.string z)/\Ext W w' from by
     rw[hzz];exact jju sl S sb W (hse.ext hW) (HOK.o sl (List.mem_of_getElem? hsk)))
    have HX:=zh (Blk.new wr 332 #[.int .i64 sl.num,.string sl.w]);clear hsk hzz hs0 hs1 hinw hse;go_wp2_with fail
    refine wp_region_noPanic ?_;refine wp_region_held_drew (S:=(fun w'=>w'.cell? ⟨wr.heap.size,0,none⟩=some (.int .i64 sl.num)/\w'.cell? ⟨wr.heap.size,1,none⟩=some (.string sl.w))) (by kernel_rfl) ?_ (fun hHeld=>?_)
    . (try dsimp only);(first|exact⟨HX.o.drew.cell 0,HX.o.drew.cell 1⟩|exact⟨HB4.o.cell 0,HB4.o.cell 1⟩|exact⟨(HB4.o.alloc _).cell 0,(HB4.o.alloc _).cell 1⟩|exact⟨HB6.o.cell 0,HB6.o.cell 1⟩|exact⟨(HB6.o.far (p:=⟨w.heap.size+1+1,1,none⟩) (Nat.ne_of_gt hl1) _).cell 0,(HB6.o.far (p:=⟨w.heap.size+1+1,1,none⟩) (Nat.ne_of_gt hl1) _).cell 1⟩)
    refine tq 0 rfl ?_;(try simp only[Act.put,stz])
    refine tq 2 rfl ?_;(try simp only[Act.put,stz])
    refine tq 3 rfl ?_;(try simp only[Act.put,stz])
    refine wpAnyH_ready (rs:=[1,4]) (by kernel_rfl) (by simp) ?_;refine AllReadyH.cons (o:=_) rfl (fun K hK=>?_) ?_
    . go_simp
      refine hK.out _ _ ?_ (fun hNew=>?_)
      . (try dsimp only);(first|exact⟨HX.o.drew.cell 0,HX.o.drew.cell 1⟩|exact⟨HB4.o.cell 0,HB4.o.cell 1⟩|exact⟨(HB4.o.alloc _).cell 0,(HB4.o.alloc _).cell 1⟩|exact⟨HB6.o.cell 0,HB6.o.cell 1⟩|exact⟨(HB6.o.far (p:=⟨w.heap.size+1+1,1,none⟩) (Nat.ne_of_gt hl1) _).cell 0,(HB6.o.far (p:=⟨w.heap.size+1+1,1,none⟩) (Nat.ne_of_gt hl1) _).cell 1⟩)
      clear hK K hHeld;have hHeld:=hNew;clear hNew;try simp only[Act.put,stz]
      refine rd1 4 rfl (fun K hK=>?_)
      . go_simp
        go_at_call 304;refine (HWO.o _ (((Ext.refl wr).alloc _).drew)).mono ?_;rintro e w4 ⟨rfl,hx4⟩
        have HX4:=zh (show Ext wr w4 from (((Ext.refl wr).alloc _).drew).t hx4);have HB4:=zh (HX.o.drew.ext hx4);have hob4:=hob.o.ext HX4.o;have y0:=hob4.cell 0;have y1:=hob4.cell 1;have yl:=hob4.lt;clear hx4 hob4;refine hK.out _ _ ?_ (fun hNew=>?_)
        . (try dsimp only);(first|exact⟨HX.o.drew.cell 0,HX.o.drew.cell 1⟩|exact⟨HB4.o.cell 0,HB4.o.cell 1⟩|exact⟨(HB4.o.alloc _).cell 0,(HB4.o.alloc _).cell 1⟩|exact⟨HB6.o.cell 0,HB6.o.cell 1⟩|exact⟨(HB6.o.far (p:=⟨w.heap.size+1+1,1,none⟩) (Nat.ne_of_gt hl1) _).cell 0,(HB6.o.far (p:=⟨w.heap.size+1+1,1,none⟩) (Nat.ne_of_gt hl1) _).cell 1⟩)
        clear hK K hHeld;have hHeld:=hNew;clear hNew;try simp only[Act.put,stz]
        refine tq 5 rfl ?_;(try simp only[Act.put,stz])
        refine rd1 6 rfl (fun K hK=>?_)
        . go_simp
          refine hK.out _ _ ?_ (fun hNew=>?_)
          . (try dsimp only);(first|exact⟨HX.o.drew.cell 0,HX.o.drew.cell 1⟩|exact⟨HB4.o.cell 0,HB4.o.cell 1⟩|exact⟨(HB4.o.alloc _).cell 0,(HB4.o.alloc _).cell 1⟩|exact⟨HB6.o.cell 0,HB6.o.cell 1⟩|exact⟨(HB6.o.far (p:=⟨w.heap.size+1+1,1,none⟩) (Nat.ne_of_gt hl1) _).cell 0,(HB6.o.far (p:=⟨w.heap.size+1+1,1,none⟩) (Nat.ne_of_gt hl1) _).cell 1⟩)
          clear hK K hHeld;have hHeld:=hNew;clear hNew;try simp only[Act.put,stz]
          refine rd1 7 rfl (fun K hK=>?_)
          . refine jb1 (o:=⟨some 25,_,_,_,_,_⟩) (k:=kTerm) (S:=None) (T:=None) (base:=w.heap.size+1+1+1) (xs:=(p.slots.take k).map (termP S.W)) (ys:=[⟨false,z⟩]) (by rfl) (.tmp 19) (.tmp 24) 67 (by rfl) i0 _ 24 Tryz.underlying67 hi0 hz0 hz1 hz2 (by rfl) (by rfl) ((hown.o.ext HX4.o).alloc _) _ 1 1 (by rfl) (jar.one (k:=kTerm) (x:=⟨false,z⟩) (l:=[.bool false,.string z]) (Blk.new _ _ _) ⟨rfl,hzs⟩) (fun _ h=>h.elim) (maxOf (by rw[HLK.o];simp;omega)) (by rw[HLK.o];omega) (by have:=HX4.o.size;go_size) ?_
            intro v2 w6 hap;obtain⟨B2,n2,d2,rfl,hn2,hd21,hd22⟩:=hap.own.form2;have HAP:=zh hap;have HX6:=zh ((hin.o.t (jac.of_ext (HX4.o.alloc _))).beyond hap.below (by rw[HZ.o];exact Nat.le_refl _));have HB6:=zh (hap.blk2 (HB4.o.alloc _) (fun e=>by have:=(hown.o.at_ _ e).2;omega));have hob2:=((hob.o.ext HX4.o).alloc _).below hap.below (by omega);have z0:=hob2.cell 0;have z1:=hob2.cell 1;have zf:=hob2.frozen 1;have zl:=hob2.lt;have HOB:=zh hob2;clear hap hob2;refine hK.out _ _ ?_ (fun hNew=>?_)
            . (try dsimp only);(first|exact⟨HX.o.drew.cell 0,HX.o.drew.cell 1⟩|exact⟨HB4.o.cell 0,HB4.o.cell 1⟩|exact⟨(HB4.o.alloc _).cell 0,(HB4.o.alloc _).cell 1⟩|exact⟨HB6.o.cell 0,HB6.o.cell 1⟩|exact⟨(HB6.o.far (p:=⟨w.heap.size+1+1,1,none⟩) (Nat.ne_of_gt hl1) _).cell 0,(HB6.o.far (p:=⟨w.heap.size+1+1,1,none⟩) (Nat.ne_of_gt hl1) _).cell 1⟩)
            clear hK K hHeld;have hHeld:=hNew;clear hNew;try simp only[Act.put,stz]
            refine tq 8 rfl ?_;(try simp only[Act.put,stz])
            refine rd1 9 rfl (fun K hK=>?_)
            . go_simp
              refine hK.out _ _ ?_ (fun hNew=>?_)
              . (try dsimp only);(first|exact⟨HX.o.drew.cell 0,HX.o.drew.cell 1⟩|exact⟨HB4.o.cell 0,HB4.o.cell 1⟩|exact⟨(HB4.o.alloc _).cell 0,(HB4.o.alloc _).cell 1⟩|exact⟨HB6.o.cell 0,HB6.o.cell 1⟩|exact⟨(HB6.o.far (p:=⟨w.heap.size+1+1,1,none⟩) (Nat.ne_of_gt hl1) _).cell 0,(HB6.o.far (p:=⟨w.heap.size+1+1,1,none⟩) (Nat.ne_of_gt hl1) _).cell 1⟩)
              clear hK K hHeld;have hHeld:=hNew;clear hNew;try simp only[Act.put,stz]
              refine dn ?_;go_wp2;go_roundw
              case rel =>
               refine⟨k+1,_,by omega,by go_num,zh (by simpa using HOB.o.set_ 1 (.slice B2 n2 d2)),zh (by rw[HT.o];exact HAP.o.own.set (p:=⟨_,1,none⟩) (Nat.lt_succ_self _) (fun h=>h) _),zh ?_⟩;exact HX6.o.t (jac.set _ ⟨w.heap.size+1+1,1,none⟩ _ rfl)
              case measure=>simp[intOf];omega
    refine AllReadyH.cons (o:=_) rfl (fun K hK=>?_) ?_
    . go_simp
      go_at_call 304;refine (HWO.o _ (((Ext.refl wr).alloc _).drew)).mono ?_;rintro e w4 ⟨rfl,hx4⟩
      have HX4:=zh (show Ext wr w4 from (((Ext.refl wr).alloc _).drew).t hx4);have HB4:=zh (HX.o.drew.ext hx4);have hob4:=hob.o.ext HX4.o;have y0:=hob4.cell 0;have y1:=hob4.cell 1;have yl:=hob4.lt;clear hx4 hob4;refine hK.out _ _ ?_ (fun hNew=>?_)
      . (try dsimp only);(first|exact⟨HX.o.drew.cell 0,HX.o.drew.cell 1⟩|exact⟨HB4.o.cell 0,HB4.o.cell 1⟩|exact⟨(HB4.o.alloc _).cell 0,(HB4.o.alloc _).cell 1⟩|exact⟨HB6.o.cell 0,HB6.o.cell 1⟩|exact⟨(HB6.o.far (p:=⟨w.heap.size+1+1,1,none⟩) (Nat.ne_of_gt hl1) _).cell 0,(HB6.o.far (p:=⟨w.heap.size+1+1,1,none⟩) (Nat.ne_of_gt hl1) _).cell 1⟩)
      clear hK K hHeld;have hHeld:=hNew;clear hNew;try simp only[Act.put,stz]
      refine tq 5 rfl ?_;(try simp only[Act.put,stz])
      refine wpAnyH_ready (rs:=[1,6]) (by kernel_rfl) (by simp) ?_;refine AllReadyH.cons (o:=_) rfl (fun K hK=>?_) ?_
      . go_simp
        refine hK.out _ _ ?_ (fun hNew=>?_)
        . (try dsimp only);(first|exact⟨HX.o.drew.cell 0,HX.o.drew.cell 1⟩|exact⟨HB4.o.cell 0,HB4.o.cell 1⟩|exact⟨(HB4.o.alloc _).cell 0,(HB4.o.alloc _).cell 1⟩|exact⟨HB6.o.cell 0,HB6.o.cell 1⟩|exact⟨(HB6.o.far (p:=⟨w.heap.size+1+1,1,none⟩) (Nat.ne_of_gt hl1) _).cell 0,(HB6.o.far (p:=⟨w.heap.size+1+1,1,none⟩) (Nat.ne_of_gt hl1) _).cell 1⟩)
        clear hK K hHeld;have hHeld:=hNew;clear hNew;try simp only[Act.put,stz]
        refine rd1 6 rfl (fun K hK=>?_)
        . go_simp
          refine hK.out _ _ ?_ (fun hNew=>?_)
          . (try dsimp only);(first|exact⟨HX.o.drew.cell 0,HX.o.drew.cell 1⟩|exact⟨HB4.o.cell 0,HB4.o.cell 1⟩|exact⟨(HB4.o.alloc _).cell 0,(HB4.o.alloc _).cell 1⟩|exact⟨HB6.o.cell 0,HB6.o.cell 1⟩|exact⟨(HB6.o.far (p:=⟨w.heap.size+1+1,1,none⟩) (Nat.ne_of_gt hl1) _).cell 0,(HB6.o.far (p:=⟨w.heap.size+1+1,1,none⟩) (Nat.ne_of_gt hl1) _).cell 1⟩)
          clear hK K hHeld;have hHeld:=hNew;clear hNew;try simp only[Act.put,stz]
          refine rd1 7 rfl (fun K hK=>?_)
          . refine jb1 (o:=⟨some 25,_,_,_,_,_⟩) (k:=kTerm) (S:=None) (T:=None) (base:=w.heap.size+1+1+1) (xs:=(p.slots.take k).map (termP S.W)) (ys:=[⟨false,z⟩]) (by rfl) (.tmp 19) (.tmp 24) 67 (by rfl) i0 _ 24 Tryz.underlying67 hi0 hz0 hz1 hz2 (by rfl) (by rfl) ((hown.o.ext HX4.o).alloc _) _ 1 1 (by rfl) (jar.one (k:=kTerm) (x:=⟨false,z⟩) (l:=[.bool false,.string z]) (Blk.new _ _ _) ⟨rfl,hzs⟩) (fun _ h=>h.elim) (maxOf (by rw[HLK.o];simp;omega)) (by rw[HLK.o];omega) (by have:=HX4.o.size;go_size) ?_
            intro v2 w6 hap;obtain⟨B2,n2,d2,rfl,hn2,hd21,hd22⟩:=hap.own.form2;have HAP:=zh hap;have HX6:=zh ((hin.o.t (jac.of_ext (HX4.o.alloc _))).beyond hap.below (by rw[HZ.o];exact Nat.le_refl _));have HB6:=zh (hap.blk2 (HB4.o.alloc _) (fun e=>by have:=(hown.o.at_ _ e).2;omega));have hob2:=((hob.o.ext HX4.o).alloc _).below hap.below (by omega);have z0:=hob2.cell 0;have z1:=hob2.cell 1;have zf:=hob2.frozen 1;have zl:=hob2.lt;have HOB:=zh hob2;clear hap hob2;refine hK.out _ _ ?_ (fun hNew=>?_)
            . (try dsimp only);(first|exact⟨HX.o.drew.cell 0,HX.o.drew.cell 1⟩|exact⟨HB4.o.cell 0,HB4.o.cell 1⟩|exact⟨(HB4.o.alloc _).cell 0,(HB4.o.alloc _).cell 1⟩|exact⟨HB6.o.cell 0,HB6.o.cell 1⟩|exact⟨(HB6.o.far (p:=⟨w.heap.size+1+1,1,none⟩) (Nat.ne_of_gt hl1) _).cell 0,(HB6.o.far (p:=⟨w.heap.size+1+1,1,none⟩) (Nat.ne_of_gt hl1) _).cell 1⟩)
            clear hK K hHeld;have hHeld:=hNew;clear hNew;try simp only[Act.put,stz]
            refine tq 8 rfl ?_;(try simp only[Act.put,stz])
            refine rd1 9 rfl (fun K hK=>?_)
            . go_simp
              refine hK.out _ _ ?_ (fun hNew=>?_)
              . (try dsimp only);(first|exact⟨HX.o.drew.cell 0,HX.o.drew.cell 1⟩|exact⟨HB4.o.cell 0,HB4.o.cell 1⟩|exact⟨(HB4.o.alloc _).cell 0,(HB4.o.alloc _).cell 1⟩|exact⟨HB6.o.cell 0,HB6.o.cell 1⟩|exact⟨(HB6.o.far (p:=⟨w.heap.size+1+1,1,none⟩) (Nat.ne_of_gt hl1) _).cell 0,(HB6.o.far (p:=⟨w.heap.size+1+1,1,none⟩) (Nat.ne_of_gt hl1) _).cell 1⟩)
              clear hK K hHeld;have hHeld:=hNew;clear hNew;try simp only[Act.put,stz]
              refine dn ?_;go_wp2;go_roundw
              case rel =>
               refine⟨k+1,_,by omega,by go_num,zh (by simpa using HOB.o.set_ 1 (.slice B2 n2 d2)),zh (by rw[HT.o];exact HAP.o.own.set (p:=⟨_,1,none⟩) (Nat.lt_succ_self _) (fun h=>h) _),zh ?_⟩;exact HX6.o.t (jac.set _ ⟨w.heap.size+1+1,1,none⟩ _ rfl)
              case measure=>simp[intOf];omega
      refine AllReadyH.cons (o:=_) rfl (fun K hK=>?_) ?_
      . go_simp
        refine hK.out _ _ ?_ (fun hNew=>?_)
        . (try dsimp only);(first|exact⟨HX.o.drew.cell 0,HX.o.drew.cell 1⟩|exact⟨HB4.o.cell 0,HB4.o.cell 1⟩|exact⟨(HB4.o.alloc _).cell 0,(HB4.o.alloc _).cell 1⟩|exact⟨HB6.o.cell 0,HB6.o.cell 1⟩|exact⟨(HB6.o.far (p:=⟨w.heap.size+1+1,1,none⟩) (Nat.ne_of_gt hl1) _).cell 0,(HB6.o.far (p:=⟨w.heap.size+1+1,1,none⟩) (Nat.ne_of_gt hl1) _).cell 1⟩)
        clear hK K hHeld;have hHeld:=hNew;clear hNew;try simp only[Act.put,stz]
        refine rd1 1 rfl (fun K hK=>?_)
        . go_simp
          refine hK.out _ _ ?_ (fun hNew=>?_)
          . (try dsimp only);(first|exact⟨HX.o.drew.cell 0,HX.o.drew.cell 1⟩|exact⟨HB4.o.cell 0,HB4.o.cell 1⟩|exact⟨(HB4.o.alloc _).cell 0,(HB4.o.alloc _).cell 1⟩|exact⟨HB6.o.cell 0,HB6.o.cell 1⟩|exact⟨(HB6.o.far (p:=⟨w.heap.size+1+1,1,none⟩) (Nat.ne_of_gt hl1) _).cell 0,(HB6.o.far (p:=⟨w.heap.size+1+1,1,none⟩) (Nat.ne_of_gt hl1) _).cell 1⟩)
          clear hK K hHeld;have hHeld:=hNew;clear hNew;try simp only[Act.put,stz]
          refine rd1 7 rfl (fun K hK=>?_)
          . refine jb1 (o:=⟨some 25,_,_,_,_,_⟩) (k:=kTerm) (S:=None) (T:=None) (base:=w.heap.size+1+1+1) (xs:=(p.slots.take k).map (termP S.W)) (ys:=[⟨false,z⟩]) (by rfl) (.tmp 19) (.tmp 24) 67 (by rfl) i0 _ 24 Tryz.underlying67 hi0 hz0 hz1 hz2 (by rfl) (by rfl) ((hown.o.ext HX4.o).alloc _) _ 1 1 (by rfl) (jar.one (k:=kTerm) (x:=⟨false,z⟩) (l:=[.bool false,.string z]) (Blk.new _ _ _) ⟨rfl,hzs⟩) (fun _ h=>h.elim) (maxOf (by rw[HLK.o];simp;omega)) (by rw[HLK.o];omega) (by have:=HX4.o.size;go_size) ?_
            intro v2 w6 hap;obtain⟨B2,n2,d2,rfl,hn2,hd21,hd22⟩:=hap.own.form2;have HAP:=zh hap;have HX6:=zh ((hin.o.t (jac.of_ext (HX4.o.alloc _))).beyond hap.below (by rw[HZ.o];exact Nat.le_refl _));have HB6:=zh (hap.blk2 (HB4.o.alloc _) (fun e=>by have:=(hown.o.at_ _ e).2;omega));have hob2:=((hob.o.ext HX4.o).alloc _).below hap.below (by omega);have z0:=hob2.cell 0;have z1:=hob2.cell 1;have zf:=hob2.frozen 1;have zl:=hob2.lt;have HOB:=zh hob2;clear hap hob2;refine hK.out _ _ ?_ (fun hNew=>?_)
            . (try dsimp only);(first|exact⟨HX.o.drew.cell 0,HX.o.drew.cell 1⟩|exact⟨HB4.o.cell 0,HB4.o.cell 1⟩|exact⟨(HB4.o.alloc _).cell 0,(HB4.o.alloc _).cell 1⟩|exact⟨HB6.o.cell 0,HB6.o.cell 1⟩|exact⟨(HB6.o.far (p:=⟨w.heap.size+1+1,1,none⟩) (Nat.ne_of_gt hl1) _).cell 0,(HB6.o.far (p:=⟨w.heap.size+1+1,1,none⟩) (Nat.ne_of_gt hl1) _).cell 1⟩)
            clear hK K hHeld;have hHeld:=hNew;clear hNew;try simp only[Act.put,stz]
            refine tq 8 rfl ?_;(try simp only[Act.put,stz])
            refine rd1 9 rfl (fun K hK=>?_)
            . go_simp
              refine hK.out _ _ ?_ (fun hNew=>?_)
              . (try dsimp only);(first|exact⟨HX.o.drew.cell 0,HX.o.drew.cell 1⟩|exact⟨HB4.o.cell 0,HB4.o.cell 1⟩|exact⟨(HB4.o.alloc _).cell 0,(HB4.o.alloc _).cell 1⟩|exact⟨HB6.o.cell 0,HB6.o.cell 1⟩|exact⟨(HB6.o.far (p:=⟨w.heap.size+1+1,1,none⟩) (Nat.ne_of_gt hl1) _).cell 0,(HB6.o.far (p:=⟨w.heap.size+1+1,1,none⟩) (Nat.ne_of_gt hl1) _).cell 1⟩)
              clear hK K hHeld;have hHeld:=hNew;clear hNew;try simp only[Act.put,stz]
              refine dn ?_;go_wp2;go_roundw
              case rel =>
               refine⟨k+1,_,by omega,by go_num,zh (by simpa using HOB.o.set_ 1 (.slice B2 n2 d2)),zh (by rw[HT.o];exact HAP.o.own.set (p:=⟨_,1,none⟩) (Nat.lt_succ_self _) (fun h=>h) _),zh ?_⟩;exact HX6.o.t (jac.set _ ⟨w.heap.size+1+1,1,none⟩ _ rfl)
              case measure=>simp[intOf];omega
      exact AllReadyH.nil
    exact AllReadyH.nil
  have HE:=zh (show (p.slots.take k).map (termP S.W)=(factP S.W p).args from by rw[List.take_of_length_le (by omega),HAP0.o]);have hb1:=hin.o.blk HB1.o (fun e=>by omega);have r0:=hb1.cell 0;have r1:=hb1.cell 1;have rf0:=hb1.frozen 0;have rf1:=hb1.frozen 1;have hl0:=hb1.lt;go_wp2;refine bodyPost_ret (v:=.agg #[.string p.n,.slice OA on oc]) (by simp[results,Tryz.results278,go_sem,r0,r1]) rfl ⟨⟨_,rfl,?_⟩,?_⟩
  . have h1:=hown.o.list (S':=From (w.heap.size+1+1+1)) (fun _ h=>h.elim) (fun _ h=>h)
    rw[HE.o] at h1;exact jad.imp h1 (jdd (by omega)) (((Agree.refl _ _).setCell (je2 (by show w.heap.size+1<_;omega)) _).setCell (je2 (by show w.heap.size+1<_;omega)) _) (by go_size)
  exact Ext.setNew (a:=w) (Ext.setNew (hin.o.toExt HE0.o (fun i hi=>by omega)) (by show _<=w.heap.size+1;omega) _) (by show _<=w.heap.size+1;omega) _
theorem jio {s:ByteArray} (h:isNo s=true):s.toList.isEmpty=true/\(s.toList == [])=true:=by
 have:=ju6.1 h;subst this;have h1:=ju9 (s:=jcr) rfl;rw[h1];exact⟨rfl,rfl⟩
theorem jg8 {s:ByteArray} (h:isNo s=false):s.toList.isEmpty=false/\(s.toList == [])=false:=by
 have h0:¬ s.size=0:=fun e=>by unfold isNo at h;rw[decide_eq_true e] at h;cases h
 have h1:=jyb h0;exact⟨h1,by cases hl:s.toList with|nil=>rw[hl] at h1;cases h1|cons=>rfl⟩
theorem jrw (p:GPat) (a:GA) (pv tv:Value) (S:Sea) (sb:Nat) (w:World) {P T:Nat->Prop} (hs:SeaAt w sb S) (hp:ja9 P w pv p.slots) (ht:jad T w tv a.args) (hP:¬ P sb) (hT:¬ T sb) (hok:∀ s∈p.slots,jb2 12 s) (hb:Bok S.W (S.bd.take S.cnt)) :
  Calls Tryz.prog 296 #[.pointer (some ⟨sb,18,none⟩),.agg #[.string p.n,pv],.agg #[.string a.n,tv]] w fun e w'=>e=.returned (.bool (jak p a S.W).2)/\(∃ Q,SeaAt w' sb Q/\Q.W=(jak p a S.W).1/\je6 S Q (jeq p a S.W))/\jac (fun b=>b=sb) w w':=by
 obtain⟨A,c,rfl,hc1,hc2⟩:=jaa.form hp;obtain⟨B,d,rfl,hd1,hd2⟩:=jaa.form ht;have hsl:=hs.lt;obtain⟨W0,hW0⟩:=nm ((w.alloc (.cells #[.string p.n,.slice A p.slots.length c] 297)).alloc (.cells #[.string a.n,.slice B a.args.length d] 69));have hB0:Blk W0 w.heap.size 297 #[.string p.n,.slice A p.slots.length c]:=by rw[hW0];exact (Blk.new _ _ _).alloc _
 have hB1:Blk W0 (w.heap.size+1) 69 #[.string a.n,.slice B a.args.length d]:=by rw[hW0];exact Blk.at_new (by simp)
 have HE0:=zh (show Ext w W0 from by rw[hW0];exact ((Ext.refl _).alloc _).alloc _);have HW0:=zh hW0;have p0:=hB0.cell 0;have p1:=hB0.cell 1;have a0:=hB1.cell 0;have a1:=hB1.cell 1;have pl:=hB0.lt;have al:=hB1.lt;have HB0:=zh hB0;have HB1:=zh hB1;have HS:=zh (hs.ext HE0.o);have HP:=zh (hp.ext HE0.o);have HT:=zh (ht.ext HE0.o);have HOK:=zh hok;have HMR:=zh (je6.refl hb);clear hs hp ht hok hb hB0 hB1;by_cases hnn:p.n=a.n
 . have hq1 : (p.n.toList == a.n.toList)=true:=by rw[hnn];exact beq_self_eq_true _
   have hq2:(a.n.toList == a.n.toList)=true:=beq_self_eq_true _;by_cases hll:p.slots.length=a.args.length
   . have HM := zh (show jak p a S.W=jb9 p.slots a.args S.W from by unfold jak;rw[if_pos ⟨hnn,hll⟩])
     have HTR:=zh (show jeq p a S.W=jdi p.slots a.args S.W from by unfold jeq;rw[if_pos ⟨hnn,hll⟩]);have hli:((p.slots.length:Int) == (a.args.length:Int))=true:=by simp[hll]
     have hli0:((p.slots.length:Int) != (a.args.length:Int))=false:=by simp[hll]
     have HLL:=zh hll;clear hnn hll
     go_in;go_wp2_with fail
     rw[<- HW0.o];try simp only[hli0]
     go_loopw [28] (fun i wr=>∃ (k:Nat) (Q:Sea) (l:List Nat),k<=p.slots.length/\i=.int .i64 k/\J1 (jb9 p.slots a.args S.W=jb9 (p.slots.drop k) (a.args.drop k) Q.W)/\J1 (jdi p.slots a.args S.W=l++jdi (p.slots.drop k) (a.args.drop k) Q.W)/\J1 (je6 S Q l)/\J1 (SeaAt wr sb Q)/\J1 (jac (fun b=>b=sb) W0 wr)) (fun i _=>p.slots.length-(intOf i).toNat)
     case atStart=>exact⟨0,S,[],Nat.zero_le _,rfl,zh rfl,zh rfl,HMR,HS,zh (jac.refl _ _)⟩
     case round =>
      obtain⟨k,Q,l,hk,rfl,hmw,htw,hmd,hse,hin⟩:=hrel;have hk0:(0:Int)<=(k:Int):=by omega
      have hb0:=hin.o.blk HB0.o (fun e=>by omega);have hb1:=hin.o.blk HB1.o (fun e=>by omega);have u0:=hb0.cell 1;have u1:=hb1.cell 1;have ul:=hb0.lt;have ul1:=hb1.lt;have HBA:=zh hb1;have hfin:∀ W,jac (fun b=>b=sb) W0 W->jac (fun b=>b=sb) w W:=fun W hW=>(jac.of_ext HE0.o).t hW
      have HFI:=zh hfin;clear hb0 hb1 hfin;by_cases hlt:k<p.slots.length
      . have hk1 : (k:Int)<(p.slots.length:Int):=by omega
        have hk2:(k:Int)<(a.args.length:Int):=by have:=HLL.o;omega
        have hkt:k<a.args.length:=by have:=HLL.o;omega
        obtain⟨bs,os,sl,rfl,hbs,hsk,hss,hs0,hs1⟩:=ja9.at_ (ja9.impL (S':=P) HP.o (fun _ h _=>h) (fun b hb hlt=>hin.o.block b hlt (fun e=>hP (e▸hb))) hin.o.size) hlt;obtain⟨bt,ot,t,rfl,hbt,htk,hts,ht0,ht1⟩:=jad.at_ (jad.impL (S':=T) HT.o (fun _ h _=>h) (fun b hb hlt=>hin.o.block b hlt (fun e=>hT (e▸hb))) hin.o.size) hkt;have HMS:=zh (hmw.o.trans (jtz hsk htk));have HTS:=zh (htw.o.trans (congrArg (l++ ·) (jt0 hsk htk)));have HSO:=zh (HOK.o sl (List.mem_of_getElem? hsk));have hsl1:=hse.o.lt;clear hsk htk hmw htw;cases htv:t.v
        . rw [htv] at ht0 HMS HTS
          cases hno:isNo t.n
          . rw [hno] at HMS HTS
            obtain⟨hn1,hn2⟩:=jg8 hno;obtain⟨z,hz⟩:=nm (jau Q.W sl);rw[<- hz] at HMS HTS
            have HWO:=zh (fun (W:World) (hW:Ext wr W)=>show Calls Tryz.prog 304 #[.pointer (some ⟨sb,18,none⟩),.agg #[.int .i64 sl.num,.string sl.w]] W fun e w'=>e=.returned (.string z)/\Ext W w' from by
             rw[hz];exact jju sl Q sb W (hse.o.ext hW) HSO.o)
            have HZ:=zh hz;have HNO:=zh hno;have HX:=zh (Blk.new wr 332 #[.int .i64 sl.num,.string sl.w]);clear hz hno htv;cases hzn:isNo z
            . rw [hzn] at HMS HTS
              obtain⟨hz1,hz2⟩:=jg8 hzn;by_cases hzt:z=t.n
              . have hq3:(z.toList == t.n.toList)=true:=by rw[hzt];exact beq_self_eq_true _
                have hq4:(t.n.toList == t.n.toList)=true:=beq_self_eq_true _;have HM1:=zh (show jb9 p.slots a.args S.W=jb9 (p.slots.drop (k+1)) (a.args.drop (k+1)) Q.W from by rw[HMS.o];simp[hzt]);have HT1:=zh (show jdi p.slots a.args S.W=l++jdi (p.slots.drop (k+1)) (a.args.drop (k+1)) Q.W from by rw[HTS.o];simp[hzt]);clear hzn hzt;go_wp2_with (go_at_call 304;refine (HWO.o _ ((Ext.refl _).alloc _)).mono ?_;rintro e w1 ⟨rfl,hx1⟩;have HX1:=zh (show Ext wr w1 from ((Ext.refl _).alloc _).t hx1))
                go_roundw
                case rel=>exact⟨k+1,Q,l,by omega,by go_num,HM1,HT1,hmd,zh (hse.o.ext HX1.o),zh (hin.o.t (jac.of_ext HX1.o))⟩
                case measure=>simp[intOf];omega
              have hq3:(z.toList == t.n.toList)=false:=jdh hzt;have HM1:=zh (show jak p a S.W=(Q.W,false) from by rw[HM.o,HMS.o];simp[hzt]);have HT1:=zh (show jeq p a S.W=l from by rw[HTR.o,HTS.o];simp[hzt]);clear hzn hzt;go_wp2_with (go_at_call 304;refine (HWO.o _ ((Ext.refl _).alloc _)).mono ?_;rintro e w1 ⟨rfl,hx1⟩;have HX1:=zh (show Ext wr w1 from ((Ext.refl _).alloc _).t hx1))
              go_ret;rw[HM1.o,HT1.o];exact⟨rfl,⟨Q,hse.o.ext HX1.o,rfl,hmd.o⟩,HFI.o _ (hin.o.t (jac.of_ext HX1.o))⟩
            rw[hzn] at HMS HTS;obtain⟨hz1,hz2⟩:=jio hzn
            obtain ⟨v,hv⟩:∃ v,sl.v=some v:=by
             cases hv:sl.v with
             | some v=>exact⟨v,rfl⟩
             | none =>
               have h1:=HSO.o;unfold jb2 at h1;rw[hv] at h1;have h2:=HZ.o;unfold jau at h2;rw[hv] at h2;simp only at h1 h2;rw[h2,h1] at hzn;cases hzn
            have hv12:v<12:=by have h1:=HSO.o;unfold jb2 at h1;rw[hv] at h1;exact h1
            have hnum:sl.num=(v:Int):=by unfold GS.num;rw[hv]
            have hwz:isNo (Q.W.at_ v)=true:=by have h2:=HZ.o;unfold jau at h2;rw[hv] at h2;simp only at h2;rw[<- h2];exact hzn
            obtain⟨hcl,hmd2⟩:=hmd.o.step hse.o.lW hse.o.lB hv12 hwz HNO.o;have HM1:=zh (show jb9 p.slots a.args S.W=jb9 (p.slots.drop (k+1)) (a.args.drop (k+1)) (Q.W.set v t.n) from by rw[HMS.o];simp[bindW,hv]);have HT1:=zh (show jdi p.slots a.args S.W=(l++[v])++jdi (p.slots.drop (k+1)) (a.args.drop (k+1)) (Q.W.set v t.n) from by rw[HTS.o];simp[bindW,hv]);have HMD:=zh hmd2;have HSM:=zh hts;rw[hnum] at hs0 HWO HX;have hv0:(0:Int)<=(v:Int):=by omega
            have hv1:(v:Int)<12:=by omega
            have hc0':(0:Int)<=(Q.cnt:Int):=by omega
            have hc1':(Q.cnt:Int)<12:=by omega
            clear hzn hv hwz hmd2 hnum;go_wp2_with (go_at_call 304;refine (HWO.o _ ((Ext.refl _).alloc _)).mono ?_;rintro e w1 ⟨rfl,hx1⟩)
            have hs2:=hse.o.ext (((Ext.refl wr).alloc _).t hx1);have hi2:=hin.o.t (jac.of_ext (S:=fun b=>b=sb) (((Ext.refl wr).alloc _).t hx1));have hbx:=HX.o.ext hx1;have x0:=hbx.cell 0;have xl:=hbx.lt;have y0:=hs2.word hv12;have yf:=hs2.frozen (18+v);have yl:=hs2.lt;have HS2:=zh hs2;have HI2:=zh hi2;have HBX:=zh hbx;clear hs0 hs1 ht0 ht1 u0 u1 hs2 hi2 hbx
            go_still_tail 7,(by kernel_rfl)
            change wpList _ _ _ _ _ w1.drew;go_wp2;have hs3:=(HS2.o.setW hv12 HSM.o).ext (Ext.refl _).drew;have hi3:=HI2.o.t ((jac.set (S:=fun b=>b=sb) w1 ⟨sb,18+v,none⟩ (.string t.n) rfl).t (jac.of_ext (Ext.refl _).drew));have hb3:=(HBX.o.far (p:=⟨sb,18+v,none⟩) (by show wr.heap.size≠sb;omega) (.string t.n)).drew
            generalize (w1.setCell ⟨sb,18+v,none⟩ (.string t.n)).drew=w2 at hs3 hi3 hb3 ⊢
            have x3:=hb3.cell 0;have xl3:=hb3.lt;have z0:=hs3.cnt;have z1:=hs3.bound hcl;have zf:=hs3.frozen (30+Q.cnt);have zf2:=hs3.frozen 42;have zl:=hs3.lt;simp only at z0;have HS3:=zh hs3;have HI3:=zh hi3;clear x0 y0 yf hs3 hi3 hb3
            go_still_tail 10,(by kernel_rfl)
            change wpList _ _ _ _ _ w2.drew;go_wp2;go_roundw
            case rel =>
             refine⟨k+1,{ Q with W:=Q.W.set v t.n,bd:=Q.bd.set Q.cnt v,cnt:=Q.cnt+1 },l++[v],by omega,by go_num,HM1,HT1,HMD,zh ?_,zh ?_⟩
             . exact ((HS3.o.ext (Ext.refl w2).drew).setB hcl v).setC (Q.cnt+1)
             exact HI3.o.t ((jac.of_ext (Ext.refl w2).drew).t ((jac.set (S:=fun b=>b=sb) _ ⟨sb,30+Q.cnt,none⟩ _ rfl).t (jac.set (S:=fun b=>b=sb) _ ⟨sb,42,none⟩ _ rfl)))
            case measure=>simp[intOf];omega
          rw[hno] at HMS HTS;obtain⟨hn1,hn2⟩:=jio hno;have HM1:=zh (show jak p a S.W=(Q.W,false) from by rw[HM.o,HMS.o];rfl);have HT1:=zh (show jeq p a S.W=l from by rw[HTR.o,HTS.o];simp);clear hno htv;go_wp2;go_ret;rw[HM1.o,HT1.o];exact⟨rfl,⟨Q,hse.o.ext ((Ext.refl _).alloc _),rfl,hmd.o⟩,HFI.o _ (hin.o.t (jac.of_ext ((Ext.refl _).alloc _)))⟩
        rw[htv] at ht0 HMS HTS;have HM1:=zh (show jak p a S.W=(Q.W,false) from by rw[HM.o,HMS.o];rfl);have HT1:=zh (show jeq p a S.W=l from by rw[HTR.o,HTS.o];simp);clear htv;go_wp2;go_ret;rw[HM1.o,HT1.o];exact⟨rfl,⟨Q,hse.o.ext ((Ext.refl _).alloc _),rfl,hmd.o⟩,HFI.o _ (hin.o.t (jac.of_ext ((Ext.refl _).alloc _)))⟩
      have HE:=zh (jw2 (ts:=a.args) (W:=Q.W) (show p.slots.length<=k by omega));have HM1:=zh (show jak p a S.W=(Q.W,true) from by rw[HM.o,hmw.o,HE.o.1]);have HT1:=zh (show jeq p a S.W=l from by rw[HTR.o,htw.o,HE.o.2,List.append_nil]);go_wp2;go_ret;rw[HM1.o,HT1.o];exact⟨rfl,⟨Q,hse.o,rfl,hmd.o⟩,HFI.o _ hin.o⟩
   have HM:=zh (show jak p a S.W=(S.W,false) from by unfold jak;rw[if_neg (fun h=>hll h.2)]);have HTR:=zh (show jeq p a S.W=[] from by unfold jeq;rw[if_neg (fun h=>hll h.2)]);have hli:((p.slots.length:Int) == (a.args.length:Int))=false:=by simp;omega
   have hli2:((p.slots.length:Int) != (a.args.length:Int))=true:=by simp;omega
   clear hnn hll
   go_in;go_wp2_with fail
   rw[<- HW0.o];go_ret;rw[HM.o,HTR.o];exact⟨rfl,⟨S,HS.o,rfl,HMR.o⟩,jac.of_ext HE0.o⟩
 have hq1:(p.n.toList == a.n.toList)=false:=jdh hnn;have HM:=zh (show jak p a S.W=(S.W,false) from by unfold jak;rw[if_neg (fun h=>hnn h.1)]);have HTR:=zh (show jeq p a S.W=[] from by unfold jeq;rw[if_neg (fun h=>hnn h.1)]);clear hnn
 go_in;go_wp2_with fail
 rw[<- HW0.o];go_ret;rw[HM.o,HTR.o];exact⟨rfl,⟨S,HS.o,rfl,HMR.o⟩,jac.of_ext HE0.o⟩
end Go.Proofs.YthiflhkcpanaaaaGreatDoor
