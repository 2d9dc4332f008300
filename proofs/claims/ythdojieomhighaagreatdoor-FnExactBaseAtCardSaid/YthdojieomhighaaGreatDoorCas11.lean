/- Own texts, joined. -/
import Derived.Test.YthdojieomhighaaGreatDoorCas08
import Derived.Test.YthdojieomhighaaGreatDoorCas02
import Derived.StillTailTactics
import Derived.Test.YthdojieomhighaaGreatDoorCas10
import Derived.Test.YthdojieomhighaaGreatDoorCas04
import Derived.Test.YthdojieomhighaaGreatDoorCas07
import Derived.Test.YthdojieomhighaaGreatDoorCas05
import Derived.Lib.IndexMore
import Derived.Test.YthdojieomhighaaGreatDoorCas06
import Derived.BigQuiet
set_option linter.unusedSimpArgs false
set_option linter.unusedVariables false
set_option maxHeartbeats 4000000
set_option maxRecDepth 100000
namespace Go.Proofs.YthdojieomhighaaGreatDoor
open Go.RowKit
theorem jjh (s:GS) (S:Sea) (sb:Nat) (w:World) (hs:SeaAt w sb S) (ho:jb3 12 s) :
  Calls Tryz.prog 307 #[.pointer (some ⟨sb,18,none⟩),.agg #[.int .i64 s.num,.string s.w]] w fun e w'=>e=.returned (.string (jau S.W s))∧Ext w w':=by
 cases hv:s.v with
 | none =>
   have hn:s.num = -1:=by unfold GS.num;rw[hv]
   have HW:=zh (show jau S.W s=s.w from by unfold jau;rw[hv]);rw[hn];clear hv hn ho
   go_enter Tryz.func307,Tryz.ntmps307;go_wp2;go_ret;exact⟨by rw[HW.out];rfl,(Ext.refl _).alloc _⟩
 | some v =>
   have hn:s.num=(v:Int):=by unfold GS.num;rw[hv]
   have hv12:v<12:=by unfold jb3 at ho;rw[hv] at ho;exact ho
   have HW:=zh (show jau S.W s=S.W.at_ v from by unfold jau;rw[hv]);have h0:=(hs.ext ((Ext.refl w).alloc (.cells #[.int .i64 (v:Int),.string s.w] 361))).word hv12;have hl:=hs.lt;have hb:=Blk.new w 361 #[.int .i64 (v:Int),.string s.w];have b0:=hb.cell 0;have hk0:(0:Int)≤(v:Int):=by omega
   have hk1:(v:Int)<12:=by omega
   rw[hn];clear hv hn ho hs
   go_enter Tryz.func307,Tryz.ntmps307;go_wp2;refine jar (by kernel_rfl) (by kernel_rfl) ?_;repeat (go_big_quiet_step (fail))
   refine wpQuiet_nil ?_;rintro w1 ⟨⟨_,hx1⟩,rfl⟩;go_wp2;go_ret;exact⟨by rw[HW.out];rfl,((Ext.refl _).alloc _).trans' hx1⟩
def Sea.back (s:Sea) (m:Nat):Sea:= { s with W:=jgg s.W ((s.bd.take s.cnt).drop m),cnt:=m }
theorem j0u {w:World} {sb:Nat} {s:Sea} (h:SeaAt w sb s) (hc:s.cnt≤12):SeaAt w sb (s.back s.cnt):=by
 have e:s.back s.cnt=s:=by
  unfold Sea.back;rw[List.drop_eq_nil_of_le (by rw[List.length_take];omega)];cases s;rfl
 rw[e];exact h
theorem jxl {s:Sea} {m:Nat} (hm:m<s.cnt) (hl:s.bd.length=12) (hc:s.cnt≤12):jgg s.W ((s.bd.take s.cnt).drop m)=(jgg s.W ((s.bd.take s.cnt).drop (m+1))).set (s.bd.getD m 0) jcq:=by
 have hx:(s.bd.take s.cnt)[m]? = some (s.bd.getD m 0):=by
  rw[List.getElem?_take_of_lt hm,List.getD_eq_getElem?_getD,List.getElem?_eq_getElem (by omega)];rfl
 rw[jbq hx]
 rfl
theorem juk (S:Sea) (sb c:Nat) (w:World) (hs:SeaAt w sb S) (hc:c≤S.cnt) (hn:S.cnt≤12) (hb:∀ i,i<S.cnt→S.bd.getD i 0<12) :
  Calls Tryz.prog 299 #[.pointer (some ⟨sb,18,none⟩),.int .i64 (c:Int)] w fun e w'=>e=.returned (.tuple #[])∧SeaAt w' sb (S.back c)∧jab (fun b=>b=sb) w w':=by
 have HB:=zh hb;have h0:=j0u hs hn;clear hb
 go_enter Tryz.func299,Tryz.ntmps299;go_wp2
 go_loopw [] (fun wr=>∃ m:Nat,c≤m∧m≤S.cnt∧Hid (SeaAt wr sb (S.back m))∧Hid (jab (fun b=>b=sb) w wr)) (fun wr=>match wr.cell? ⟨sb,42,none⟩ with|some (.int _ n)=>n.toNat|_=>0)
 case atStart=>exact⟨S.cnt,hc,Nat.le_refl _,zh h0,zh (jab.refl _ _)⟩
 case round =>
  obtain⟨m,hm1,hm2,hse,hin⟩:=hrel;have q0:=hse.out.cnt;have hl:=hse.out.lt;have qf:=hse.out.frozen 42;simp only[Sea.back] at q0;by_cases hgt:c<m
  · obtain ⟨m',rfl⟩:∃ m',m=m'+1:=⟨m-1,by omega⟩
    have hg1:(c:Int)<((m'+1:Nat):Int):=by omega
    have hg2:(((m'+1:Nat):Int))-1=(m':Int):=by omega
    go_wp2_with fail
    have hs1:=hse.out.setC m';have hi1:=hin.out.trans' (jab.set (S:=fun b=>b=sb) wr ⟨sb,42,none⟩ (.int .i64 (m':Int)) rfl)
    generalize wr.setCell ⟨sb,42,none⟩ (.int .i64 (m':Int))=w1 at hs1 hi1 ⊢
    have hm12:m'<12:=by omega
    have hv12:=HB.out m' (by omega);obtain⟨v,hv⟩:∃ v,v=S.bd.getD m' 0:=⟨_,rfl⟩
    have p0:=hs1.cnt;have p1:=hs1.bound hm12;simp only[Sea.back] at p0 p1;rw[← hv] at p1 hv12;have p2:=hs1.word hv12;have pf:=hs1.frozen (18+v);have hl1:=hs1.lt;have hk0:(0:Int)≤(m':Int):=by omega
    have hk1:(m':Int)<12:=by omega
    have hk2:(0:Int)≤(v:Int):=by omega
    have hk3:(v:Int)<12:=by omega
    have HSE:=zh hs1;have HI1:=zh hi1;have HV:=zh hv;clear hs1 hi1 hv qf
    go_still_tail 13,(by kernel_rfl)
    change wpList _ _ _ _ _ w1.drew;go_wp2;go_roundw
    case rel =>
     refine⟨m',by omega,by omega,zh ?_,zh (HI1.out.trans' ((jab.of_ext (Ext.refl w1).drew).trans' (jab.set (S:=fun b=>b=sb) w1.drew ⟨sb,18+v,none⟩ _ rfl)))⟩;have h:=(HSE.out.ext (Ext.refl w1).drew).setW hv12 (x:=jcq) (Nat.zero_le _)
     have e:S.back m' = { { S.back (m'+1) with cnt:=m' } with W:=(S.back (m'+1)).W.set v jcq }:=by
      have h2:=jxl (s:=S) (m:=m') (by omega) HSE.out.lB hn;unfold Sea.back;rw[h2,HV.out]
     rw[e];exact h
    case measure =>
     have h9:(w1.setCell ⟨sb,18+v,none⟩ (.string ⟨#[]⟩)).cell? ⟨sb,42,none⟩=some (.int .i64 (m':Int)):=(HSE.out.setW hv12 (x:=jcq) (Nat.zero_le _)).cnt;simp[q0,h9]
  have he:m=c:=by omega
  subst he;have hg1:¬ ((m:Int)<(m:Int)):=by omega
  go_wp2
  go_end0
  exact⟨rfl,hse.out,hin.out⟩
structure jey (S T:Sea) (l:List Nat):Prop where
 same:T = { S with W:=T.W,bd:=T.bd,cnt:=T.cnt }
 cnt:T.cnt=S.cnt+l.length
 bd:T.bd.take T.cnt=S.bd.take S.cnt++l
 ok:Bok T.W (T.bd.take T.cnt)
theorem jey.refl {S:Sea} (h:Bok S.W (S.bd.take S.cnt)):jey S S []:=⟨by cases S;rfl,by simp,by simp,h⟩
theorem jey.step {S T:Sea} {l:List Nat} {v:Nat} {x:ByteArray} (h:jey S T l) (hW:T.W.length=12) (hB:T.bd.length=12) (hv:v<12) (hn:isNo (T.W.at_ v)=true) (hx:isNo x=false) :
  T.cnt<12∧jey S { T with W:=T.W.set v x,bd:=T.bd.set T.cnt v,cnt:=T.cnt+1 } (l++[v]):=by
 have hl:(T.bd.take T.cnt).length<12:=h.ok.room hW hv hn;have hlt:T.cnt<12:=by rw[List.length_take] at hl;omega
 have ht:(T.bd.set T.cnt v).take (T.cnt+1)=T.bd.take T.cnt++[v]:=by
  rw[List.take_add_one,List.take_set_of_le (Nat.le_refl _),List.getElem?_set_self (by omega)];rfl
 refine⟨hlt,?_,?_,?_,?_⟩
 · have:=h.same
   cases S;cases T;simp only[Sea.mk.injEq] at this ⊢;exact⟨this.1,this.2.1,this.2.2.1,this.2.2.2.1,this.2.2.2.2.1,this.2.2.2.2.2.1,this.2.2.2.2.2.2.1,trivial,trivial,trivial,this.2.2.2.2.2.2.2.2.2.2⟩
 · simp only[List.length_append,List.length_cons,List.length_nil];have:=h.cnt;omega
 · show (T.bd.set T.cnt v).take (T.cnt+1)=_
   rw[ht,h.bd,List.append_assoc]
 show Bok (T.W.set v x) ((T.bd.set T.cnt v).take (T.cnt+1));rw[ht];exact h.ok.snoc hW hv hn hx
theorem jst {ss:List GS} {ts:List GT} {k:Nat} {s:GS} {t:GT} {W:Words} (hs:ss[k]? = some s) (ht:ts[k]? = some t) :
  jb9 (ss.drop k) (ts.drop k) W=(if t.v || isNo t.n then (W,false) else if isNo (jau W s) then jb9 (ss.drop (k+1)) (ts.drop (k+1)) (bindW W s t.n) else if jau W s=t.n then jb9 (ss.drop (k+1)) (ts.drop (k+1)) W else (W,false)):=by
 rw[jbq hs,jbq ht];rfl
theorem jsu {ss:List GS} {ts:List GT} {k:Nat} {s:GS} {t:GT} {W:Words} (hs:ss[k]? = some s) (ht:ts[k]? = some t) :
  jdf (ss.drop k) (ts.drop k) W=(if t.v || isNo t.n then [] else if isNo (jau W s) then s.v.toList++jdf (ss.drop (k+1)) (ts.drop (k+1)) (bindW W s t.n) else if jau W s=t.n then jdf (ss.drop (k+1)) (ts.drop (k+1)) W else []):=by
 rw[jbq hs,jbq ht];rfl
theorem jvt {ss:List GS} {ts:List GT} {k:Nat} {W:Words} (h:ss.length≤k):jb9 (ss.drop k) (ts.drop k) W=(W,true)∧jdf (ss.drop k) (ts.drop k) W=[]:=by
 rw[List.drop_eq_nil_of_le h];exact⟨by cases ts.drop k<;>rfl,by cases ts.drop k<;>rfl⟩
def pmOf (l:List GA) (s:ByteArray):Option Nat:=l.zipIdx.foldl (fun o x=>if s=strOf (atomL x.1) then some x.2 else o) none
theorem jqq (l:List GA) (a:GA):pmOf (l++[a])=fun s=>if s=strOf (atomL a) then some l.length else pmOf l s:=by
 funext s
 unfold pmOf;rw[List.zipIdx_append,List.foldl_append];simp
theorem jxm {l:List GA} {s:ByteArray}:(pmOf l s).isSome=l.any (fun a=>decide (s=strOf (atomL a))):=by
 have key:∀ (l:List GA) (n:Nat) (o:Option Nat),((l.zipIdx n).foldl (fun o x=>if s=strOf (atomL x.1) then some x.2 else o) o).isSome=(o.isSome || l.any (fun a=>decide (s=strOf (atomL a)))):=by
  intro l
  induction l with
  | nil=>intro n o;simp
  | cons a l ih =>
    intro n o;rw[List.zipIdx_cons,List.foldl_cons,ih,List.any_cons];by_cases h:s=strOf (atomL a)
    · simp[h]
    simp[h]
 have:=key l 0 none;simpa [pmOf] using this
theorem Still.toExt {w w':World} (h:Still (fun b=>b<w.heap.size) w w'):Ext w w':=⟨h.os,h.tape,h.output,h.size,fun i hi=>h.block i hi hi⟩
structure jdz (F:Nat→Prop) (w:World) (sb:Nat) (facts:List GA) (rounds:List Nat) (fv rv:Value) (mb pb nm np:Nat) (f:Value→Value):Prop where
 blk:Blk w sb 176 #[fv,rv,.map (some mb),.map (some pb)]
 sF:F sb
 mF:F mb
 pF:F pb
 fa:jac F w fv facts
 ro:NumsR F w rv rounds
 mp:MapV w mb nm f
 gr:∀ n s o,NumsR F w (f (wk n s o)) (jam facts n s o)
 pl:MapN w pb np (pmOf facts)
theorem jdz.inside {F Q:Nat→Prop} {w w':World} {sb:Nat} {facts:List GA} {rounds:List Nat} {fv rv:Value} {mb pb nm np:Nat} {f:Value→Value} (h:jdz F w sb facts rounds fv rv mb pb nm np f) (hi:jab Q w w') (hF:∀ b,F b→¬ Q b):jdz F w' sb facts rounds fv rv mb pb nm np f:=by
 have hag:Agree F w w':=fun b hb hlt=>hi.block b hlt (hF b hb)
 exact⟨hi.blk h.blk (hF _ h.sF),h.sF,h.mF,h.pF,h.fa.imp (fun _ h=>h) hag hi.size,h.ro.impL (fun _ h _=>h) hag hi.size,h.mp.inside hi (hF _ h.mF),fun n s o=>(h.gr n s o).impL (fun _ h _=>h) hag hi.size,h.pl.ext (hi.block _ h.pl.lt (hF _ h.pF))⟩
theorem jdz.ext {F:Nat→Prop} {w w':World} {sb:Nat} {facts:List GA} {rounds:List Nat} {fv rv:Value} {mb pb nm np:Nat} {f:Value→Value} (h:jdz F w sb facts rounds fv rv mb pb nm np f) (hx:Ext w w'):jdz F w' sb facts rounds fv rv mb pb nm np f :=
 h.inside (Q:=fun _=>False) (jab.of_ext hx) (fun _ _ h=>h)
theorem ja2.toR {base:Nat} {S T:Nat→Prop} {w:World} {sb mb pb:Nat} {fv rv:Value} {f:Value→Value} {facts:List GA} {rounds:List Nat} {nm np:Nat} (h:ja2 base S T w sb mb pb fv rv f facts rounds (jam facts) nm (pmOf facts) np) {lo:Nat} (h1:lo≤sb∧lo≤mb∧lo≤pb) :
  jdz (fun b=>S b∨(lo≤b∧b<w.heap.size)) w sb facts rounds fv rv mb pb nm np f:=by
 obtain⟨l1,l2,l3,_⟩:=h.lo;have hb:lo≤base:=by omega
 refine⟨h.blk,.inr ⟨h1.1,h.blk.lt⟩,.inr ⟨h1.2.1,h.mp.lt⟩,.inr ⟨h1.2.2,h.pl.lt⟩,?_,?_,h.mp,fun n s o=>?_,h.pl⟩
 · exact jac.impL (S:=fun b=>S b∨base≤b) (h.fa.list (S':=fun b=>S b∨base≤b) (fun b hb=>.inl hb) (fun b hb=>.inr hb)) (fun b hb hlt=>hb.imp id (fun h=>⟨by omega,hlt⟩)) (.refl _ _) (Nat.le_refl _)
 · exact NumsR.impL (S:=fun b=>base≤b) (h.ro.list (S':=fun b=>base≤b) (fun b hb=>hb.elim) (fun b hb=>hb)) (fun b hb hlt=>.inr ⟨by omega,hlt⟩) (.refl _ _) (Nat.le_refl _)
 exact NumsR.impL (S:=fun b=>base≤b) ((h.gr n s o).list (S':=fun b=>base≤b) (fun b hb=>hb.elim) (fun b hb=>hb)) (fun b hb hlt=>.inr ⟨by omega,hlt⟩) (.refl _ _) (Nat.le_refl _)
theorem StrsR.impL {S S':Nat→Prop} {w w':World} {v:Value} {xs:List ByteArray} (h:StrsR S w v xs) (hS:∀ b,S b→b<w.heap.size→S' b) (he:Agree S w w') (hsz:w.heap.size≤w'.heap.size):StrsR S' w' v xs:=ListK.imp (k:=kStr) h hS he hsz
theorem StrsR.sub {S S':Nat→Prop} {w:World} {v:Value} {xs:List ByteArray} (h:StrsR S w v xs) (hS:∀ b,S b→S' b):StrsR S' w v xs:=h.impL (fun b hb _=>hS b hb) (.refl _ _) (Nat.le_refl _)
def BindE (S:Nat→Prop) (w:World) (cs:List Value) (b:LB):Prop:=∃ v u,cs=[v,u]∧StrsR S w v b.ns∧StrsR S w u b.vs∧b.ok
def kBind:Kind LB:=⟨2,BindE,by decide,fun h hS he hsz=>by obtain⟨v,u,h1,h2,h3,h4⟩:=h;exact⟨v,u,h1,h2.impL hS he hsz,h3.impL hS he hsz,h4⟩,
 fun {_ _ l x} h=>by obtain⟨v,u,rfl,ht,hp,_⟩:=h;intro y hy;simp at hy;rcases hy with rfl|rfl<;>first|exact ListK.one (k:=kStr) ht|exact ListK.one (k:=kStr) hp,fun h=>by obtain⟨v,u,rfl,_⟩:=h;rfl⟩
def jei (S:Nat→Prop):World→Value→List LB→Prop:=jaa S 2 (BindE S)
theorem jei.impL {S S':Nat→Prop} {w w':World} {v:Value} {xs:List LB} (h:jei S w v xs) (hS:∀ b,S b→b<w.heap.size→S' b) (he:Agree S w w') (hsz:w.heap.size≤w'.heap.size):jei S' w' v xs:=ListK.imp (k:=kBind) h hS he hsz
theorem jei.ext {S:Nat→Prop} {w w':World} {v:Value} {xs:List LB} (h:jei S w v xs) (he:Ext w w'):jei S w' v xs:=h.impL (fun _ h _=>h) (.of_ext he) he.size
theorem jei.at_ {S:Nat→Prop} {w:World} {A:Option Addr} {n c:Nat} {xs:List LB} (h:jei S w (.slice A n c) xs) {k:Nat} (hk:k<n) :
  ∃ (b off:Nat) (x:LB) (v u:Value),A=some ⟨b,off,none⟩∧b<w.heap.size∧xs[k]? = some x∧StrsR S w v x.ns∧StrsR S w u x.vs∧x.ok ∧
    w.cell? ⟨b,off+k*2,none⟩=some v∧w.cell? ⟨b,off+k*2+1,none⟩=some u:=by
 obtain⟨b,off,x,cs,hA,hb,hx,_,hc,v,u,rfl,ht,hp,ho⟩:=jaa.at_ h hk;exact⟨b,off,x,v,u,hA,hb,hx,ht,hp,ho,hc 0 _ rfl,hc 1 _ rfl⟩
theorem jqr:∀ (l:List GT),l.all ja1=true→jbt l≤9*l.length
 | [],_=>Nat.le_refl _
 | t :: l,h=>by
   rw[List.all_cons,Bool.and_eq_true] at h;have ih:=jqr l h.2
   have ht:t.n.size≤8:=by
    have h1:=h.1;unfold ja1 at h1;split at h1
    · unfold jch at h1;simp only[Bool.and_eq_true,decide_eq_true_eq] at h1;exact h1.1.2
    unfold jay jbu inB at h1;simp only[Bool.and_eq_true,decide_eq_true_eq] at h1;omega
   unfold jbt at ih ⊢;simp only[List.length_cons,List.map_cons,List.sum_cons,wTerm];omega
theorem jzp {a:GA} (h:jat a=true):wAtom a≤35:=by
 unfold jat at h;simp only[Bool.and_eq_true,decide_eq_true_eq] at h;have h1:=jqr _ h.2;have h2:=h.1.1;unfold jay jbu inB at h2;simp only[Bool.and_eq_true,decide_eq_true_eq] at h2;have h3:=h.1.2;unfold wAtom;omega
theorem jqs:∀ (l:List GA),l.all factB=true→jb1 l≤36*l.length
 | [],_=>Nat.le_refl _
 | a :: l,h=>by
   rw[List.all_cons,Bool.and_eq_true] at h;have ih:=jqs l h.2
   have ha:wAtom a≤35:=by
    have h1:=h.1;unfold factB at h1;rw[Bool.and_eq_true] at h1;exact jzp h1.1
   unfold jb1 at ih ⊢;simp only[List.length_cons,List.map_cons,List.sum_cons];omega
def argOf (l:List UInt8):GT:=⟨capB (strOf l),strOf l⟩
def argsOf (inner:List UInt8):List GT:=if inner=[] then [] else (je9 44 inner).map argOf
def jct (p:GP):Bool:=jat p.atom
theorem jfd (r:GR):jbd r=(r.body.all jct && (jat r.head && decide (r.body.length≤4))):=rfl
theorem jqt (r:GR) (v u:Value) (w:World) {S T:Nat→Prop} (hs:r.head.n.size≤maxLen) (hv:jae S w v r.head.args) (hu:jao T w u r.body) :
  Calls Tryz.prog 234 #[.agg #[.string r.head.n,v,u]] w fun e w'=>e=.returned (.bool (jbd r))∧Ext w w':=by
 obtain⟨A,c,rfl,hc1,hc2⟩:=jaa.form hv;obtain⟨B,d,rfl,hd1,hd2⟩:=jaa.form hu;have HV:=zh (hv.ext ((Ext.refl w).alloc (.cells #[.string r.head.n,.slice A r.head.args.length c,.slice B r.body.length d] 45)));have HU:=zh (hu.ext ((Ext.refl w).alloc (.cells #[.string r.head.n,.slice A r.head.args.length c,.slice B r.body.length d] 45)));have HB:=zh (Blk.new w 45 #[.string r.head.n,.slice A r.head.args.length c,.slice B r.body.length d]);clear hv hu
 go_enter Tryz.func234,Tryz.ntmps234;go_wp2;go_loopw [3] (fun i wr=>∃ k:Nat,k≤r.body.length∧i=.int .i64 k∧Hid ((r.body.take k).all jct=true)∧Ext (w.alloc (.cells #[.string r.head.n,.slice A r.head.args.length c,.slice B r.body.length d] 45)) wr) (fun i _=>r.body.length-(intOf i).toNat)
 case atStart=>exact⟨0,Nat.zero_le _,rfl,rfl,Ext.refl _⟩
 case round =>
  obtain⟨k,hk,rfl,hp,hx⟩:=hrel;have hb1:=HB.out.ext hx;have q0:=hb1.cell 0;have q1:=hb1.cell 1;have q2:=hb1.cell 2;have hl:=hb1.lt;clear hb1;by_cases hlt:k<r.body.length
  · obtain ⟨b,off,x,y,rfl,hb,hxk,hxs,htx,p0,p1,p2⟩:=jao.at_ (HU.out.ext hx) hlt
    obtain⟨C,e,rfl,he1,he2⟩:=jaa.form htx;have HK:=zh hxk;have hw:=jai (jew x.atom _ wr hxs htx);clear hxk htx;cases ht:jat x.atom
    · have HF:=zh (show jbd r=false from by rw[jfd,jbf jct _ k x HK.out ht];rfl)
      have HW:=zh (hw.2 ht);clear hw ht;go_wp2_with (go_at_call 122;refine HW.out.mono ?_;rintro e w1 ⟨rfl,hx1⟩)
      go_ret;exact⟨by rw[HF.out];rfl,((Ext.refl _).alloc _).trans' (hx.trans' hx1)⟩
    have HP:=zh (show (r.body.take (k+1)).all jct=true from by rw[jbo jct _ k x HK.out,hp.out,show jct x=true from ht];rfl);have HW:=zh (hw.1 ht);clear hw ht;go_wp2_with (go_at_call 122;refine HW.out.mono ?_;rintro e w1 ⟨rfl,hx1⟩)
    go_roundw
    case rel=>exact⟨k+1,by omega,by go_num,HP,hx.trans' hx1⟩
    case measure=>simp[intOf];omega
  have hall:=jbm jct _ k hlt hp.out;have hw:=jai (jew r.head _ wr hs (HV.out.ext hx));clear hp;cases hn:jat r.head
  · have HF:=zh (show jbd r=false from by rw[jfd,hn,hall];rfl)
    have HW:=zh (hw.2 hn);clear hw hn hall;go_wp2_with (go_at_call 122;refine HW.out.mono ?_;rintro e w1 ⟨rfl,hx1⟩)
    go_ret;exact⟨by rw[HF.out];rfl,((Ext.refl _).alloc _).trans' (hx.trans' hx1)⟩
  have HF:=zh (show jbd r=decide (r.body.length≤4) from by rw[jfd,hn,hall];rfl);have HW:=zh (hw.1 hn);clear hw hn hall;go_wp2_with (go_at_call 122;refine HW.out.mono ?_;rintro e w1 ⟨rfl,hx1⟩;have hb2:=(HB.out.ext (hx.trans' hx1));have p2:=hb2.cell 2;have hl2:=hb2.lt;clear hb2)
  go_ret;refine⟨ja6 ?_,((Ext.refl _).alloc _).trans' (hx.trans' hx1)⟩;rw[HF.out];exact decide_eq_decide.2 (by omega)
/-! ### Texts, ascending -/
theorem jzq:(Tryz.prog.info? 9).map (fun i=>(i.zero,i.size,i.bytes))=some (some (.string ByteArray.empty),1,16):=by kernel_rfl
theorem jk4 (a b:ByteArray):Op.bytesLess a.toList b.toList=ltS a b:=by
 unfold ltS;cases h:Op.bytesLess a.toList b.toList
 · cases h2:(!a.toList == b.toList)
   · have:=jpw h h2
     unfold cmpS at this;rw[this];rfl
   have:=jpx h h2;unfold cmpS at this;rw[this];rfl
 have:=jpv h;unfold cmpS at this;rw[this];rfl
theorem jdg {a b:ByteArray} (h:a≠b):(a.toList == b.toList)=false:=by
 rw[beq_eq_false_iff_ne,ByteArray.toList_eq,ByteArray.toList_eq];intro e;apply h
 cases a;cases b
 simp at e;rw[e]
theorem jzr (l:List ByteArray) (s:ByteArray):(putS l s).length≤l.length+1:=by
 induction l with
 | nil=>exact Nat.le_refl _
 | cons x l ih =>
   unfold putS;split
   · simp;exact ih
   split<;>simp
theorem OwnK.strs {S S':Nat→Prop} {w:World} {v:Value} {xs:List ByteArray} {base:Nat} {e:TypeId} (h:OwnK kStr base e S w v xs):OwnK kStr base e S' w v xs:=by
 obtain⟨rows,T,h1,h2,_,_⟩:=h;exact⟨rows,fun _=>False,h1,h2,fun _ h=>h.elim,fun _ _ h=>h⟩
theorem jzs (v:Value) (xs:List ByteArray) (s:ByteArray) (w:World) {S:Nat→Prop} (hv:StrsR S w v xs) (hs:s.size≤maxLen) (hn:xs.length≤1000000) :
  Calls Tryz.prog 170 #[v,.string s] w fun e w'=>(∃ v',e=.returned v'∧StrsR (fun b=>S b∨w.heap.size≤b) w' v' (putS xs s))∧Ext w w':=by
 obtain⟨A,c,rfl,hc1,hc2⟩:=jaa.form hv;obtain⟨i0,hi0,hz0,hz1,hz2⟩:=info_parts jzq;have HV:=zh hv;clear hv
 go_enter Tryz.func170,Tryz.ntmps170;go_wp2;go_loopw [5] (fun i wr=>∃ k:Nat,k≤xs.length∧i=.int .i64 k∧Hid (∀ i x,i<k→xs[i]? = some x→ltS x s=true)∧w=wr) (fun i _=>xs.length-(intOf i).toNat)
 case atStart=>exact⟨0,Nat.zero_le _,rfl,zh (fun i x h=>absurd h (Nat.not_lt_zero _)),rfl⟩
 case round =>
  obtain⟨k,hk,rfl,hlow,rfl⟩:=hrel;have hk0:(0:Int)≤(k:Int):=by omega
  have hk1:(k:Int)≤(c:Int):=by omega
  have hk2:(k:Int)≤(xs.length:Int):=by omega
  have hend:∀ hw:jdw xs s=k,xs[k]? ≠some s→putS xs s=xs.take k++[s]++xs.drop k:=fun hw hne=>by rw[jsj,hw,if_neg hne]
  by_cases hlt:k<xs.length
  · obtain ⟨b,off,x,rfl,hb,hxk,hxs,p0⟩:=StrsR.at_ HV.out hlt
    cases hl:ltS x s
    · have hw : jdw xs s=k:=jqb hk hlow.out (fun y hy=>by rw[hxk] at hy;injection hy with hy;subst hy;exact hl)
      have hbl:Op.bytesLess x.toList s.toList=false:=(jk4 x s).trans hl;by_cases he:x=s
      · have HP:=zh (show putS xs s=xs from by rw[jsj,hw,if_pos (by rw[hxk,he])])
        have he1:(x.toList == s.toList)=true:=by rw[he];exact beq_self_eq_true _
        clear hw hend hl hxk hlow he;go_wp2;go_ret;exact⟨⟨_,rfl,by rw[HP.out];exact StrsR.imp HV.out (fun _ h=>.inl h) (.refl _ _) (Nat.le_refl _)⟩,Ext.refl _⟩
      have HP:=zh (hend hw (by rw[hxk];intro e;injection e with e;exact he e));have he1:(x.toList == s.toList)=false:=jdg he;clear hw hend hl hxk hlow he;go_wp2;clear p0 hb
      generalize (some (⟨b,off,none⟩:Addr))=A at HV ⊢
      have HE1:=zh (show ∀ W,Ext w W→jas kStr (fun b=>b<w.heap.size) W (.slice A k c) (xs.take k) from fun W hW =>
       jas.ext ((ListK.elems (k:=kStr) (jaa.fst HV.out k hk)).sub (fun b hb hlt=>hlt)) hW)
      have HE2:=zh (show ∀ W,Ext w W→kStr.E (fun b=>b<w.heap.size) W [.string s] s from fun W hW=>⟨rfl,hs⟩)
      have HE3:=zh (show ∀ W,Ext w W→jas kStr (fun b=>b<w.heap.size) W (.slice (if c=k then A else A.map (·.add k)) (xs.length-k) (c-k)) (xs.drop k) from fun W hW =>
       jas.ext ((ListK.elems (k:=kStr) (by have h:=jaa.drop HV.out k hk;simp only[Nat.mul_one] at h;exact h)).sub (fun b hb hlt=>hlt)) hW)
      have hlk:(xs.take k).length=k:=by rw[List.length_take];omega
      go_region_held3 (fun _=>True) (exact trivial)
       (first
        | (refine jb2 (o:=⟨some 37,_,_,_,_,_⟩) (k:=kStr) (S:=fun b=>b<w.heap.size) (T:=fun b=>b<w.heap.size) (base:=w.heap.size) (v:=.slice (some ⟨_,0,none⟩) 0 0) (xs:=[]) (ys:=xs.take k) (by rfl) (.tmp 33) (.tmp 36) 54 (by rfl) i0 _ 16 Tryz.underlying54 hi0 hz0 hz1 hz2 (by rfl) (by rfl)
            (by first|exact OwnK.drew (OwnK.empty rfl (Nat.le_refl _))|exact OwnK.drew (OwnK.alloc (OwnK.empty rfl (Nat.le_refl _)) _)|exact OwnK.drew (OwnK.empty (w:=w.alloc _) (by simp) (by simp))) A k c (by rfl) (HE1.out _ (by first|exact Ext.drew (Ext.alloc (Ext.refl _) _)|exact Ext.drew (Ext.alloc (Ext.alloc (Ext.refl _) _) _))) (fun b hb=>⟨hb,hb⟩) (maxOf (by simp;omega)) (by simp;omega) (by go_size) ?_
           intro v1 w2 hap1;obtain⟨A1,n1,c1,rfl,hn1,hd11,hd12⟩:=hap1.own.form2;have HX2:=zh (hap1.toExt (w0:=w) (by first|exact Ext.drew (Ext.alloc (Ext.refl _) _)|exact Ext.drew (Ext.alloc (Ext.alloc (Ext.refl _) _) _)) (Nat.le_refl _));have HA1:=zh hap1;clear hap1)
        | (refine jb2 (o:=⟨some 40,_,_,_,_,_⟩) (k:=kStr) (S:=fun b=>b<w.heap.size) (T:=fun b=>b<w.heap.size) (base:=w.heap.size) (xs:=[]++xs.take k) (ys:=[s]) (by rfl) (.tmp 37) (.tmp 39) 54 (by rfl) i0 _ 16 Tryz.underlying54 hi0 hz0 hz1 hz2 (by rfl) (by rfl)
            (by first|exact HA1.out.own|exact OwnK.alloc HA1.out.own _) _ 1 1 (by rfl) (jas.one (k:=kStr) (x:=s) (by first|exact Blk.at_new rfl|exact HA1.out.blk2 (Blk.drew (Blk.at_new (w:=w.alloc _) (by simp))) (by simp[Value.ownBlock])|exact HA1.out.blk2 (Blk.drew (Blk.alloc (Blk.at_new rfl) _)) (by simp[Value.ownBlock])) (HE2.out _ (by first|exact HX2.out|exact Ext.alloc HX2.out _))) (fun b hb=>⟨hb,hb⟩) (maxOf (by simp;omega)) (by simp;omega) (by have:=HX2.out.size;go_size) ?_
           intro v2 w3 hap2;obtain⟨A2,n2,c2,rfl,hn2,hd21,hd22⟩:=hap2.own.form2;have HX3:=zh (hap2.toExt (w0:=w) (by first|exact HX2.out|exact Ext.alloc HX2.out _) (Nat.le_refl _));have HA2:=zh hap2;clear hap2)
        | (refine jb2 (o:=⟨some 44,_,_,_,_,_⟩) (k:=kStr) (S:=fun b=>b<w.heap.size) (T:=fun b=>b<w.heap.size) (base:=w.heap.size) (xs:=([]++xs.take k)++[s]) (ys:=xs.drop k) (by rfl) (.tmp 40) (.tmp 43) 54 (by rfl) i0 _ 16 Tryz.underlying54 hi0 hz0 hz1 hz2 (by rfl) (by rfl)
            (by exact HA2.out.own) _ _ _ (by rfl) (HE3.out _ HX3.out) (fun b hb=>⟨hb,hb⟩) (maxOf (by simp;omega)) (by simp;omega) (by have:=HX3.out.size;go_size) ?_
           intro v3 w4 hap3;obtain⟨A3,n3,c3,rfl,hn3,hd31,hd32⟩:=hap3.own.form2;have HX4:=zh (hap3.toExt (w0:=w) HX3.out (Nat.le_refl _));have HA3:=zh hap3;clear hap3))
      all_goals go_wp2
      all_goals
       go_ret;refine⟨⟨_,rfl,?_⟩,HX4.out⟩;rw[HP.out];have h:=(OwnK.strs (S':=None) HA3.out.own).list (S':=fun b=>S b∨w.heap.size≤b) (fun b hb=>hb.elim) (fun b hb=>.inr hb);simp only[List.nil_append] at h;exact h
    have hbl:Op.bytesLess x.toList s.toList=true:=(jk4 x s).trans hl
    have HL:=zh (show ∀ i y,i<k+1→xs[i]? = some y→ltS y s=true from fun i y hi hy=>by
     rcases Nat.lt_or_ge i k with h|h
     · exact hlow.out i y h hy
     rw[show i=k from by omega,hxk] at hy;injection hy with hy;subst hy;exact hl)
    clear hend hl hxk hlow;go_wp2;go_roundw
    case rel=>exact⟨k+1,by omega,by go_num,HL,trivial⟩
    case measure=>simp[intOf];omega
  have hw:jdw xs s=k:=jqb hk hlow.out (fun y hy=>by rw[List.getElem?_eq_none (by omega)] at hy;cases hy);have HP:=zh (hend hw (by rw[List.getElem?_eq_none (by omega)];simp));clear hw hend hlow;go_wp2
  have HE1:=zh (show ∀ W,Ext w W→jas kStr (fun b=>b<w.heap.size) W (.slice A k c) (xs.take k) from fun W hW =>
   jas.ext ((ListK.elems (k:=kStr) (jaa.fst HV.out k hk)).sub (fun b hb hlt=>hlt)) hW)
  have HE2:=zh (show ∀ W,Ext w W→kStr.E (fun b=>b<w.heap.size) W [.string s] s from fun W hW=>⟨rfl,hs⟩)
  have HE3:=zh (show ∀ W,Ext w W→jas kStr (fun b=>b<w.heap.size) W (.slice (if c=k then A else A.map (·.add k)) (xs.length-k) (c-k)) (xs.drop k) from fun W hW =>
   jas.ext ((ListK.elems (k:=kStr) (by have h:=jaa.drop HV.out k hk;simp only[Nat.mul_one] at h;exact h)).sub (fun b hb hlt=>hlt)) hW)
  have hlk:(xs.take k).length=k:=by rw[List.length_take];omega
  go_region_held3 (fun _=>True) (exact trivial)
   (first
    | (refine jb2 (o:=⟨some 37,_,_,_,_,_⟩) (k:=kStr) (S:=fun b=>b<w.heap.size) (T:=fun b=>b<w.heap.size) (base:=w.heap.size) (v:=.slice (some ⟨_,0,none⟩) 0 0) (xs:=[]) (ys:=xs.take k) (by rfl) (.tmp 33) (.tmp 36) 54 (by rfl) i0 _ 16 Tryz.underlying54 hi0 hz0 hz1 hz2 (by rfl) (by rfl)
        (by first|exact OwnK.drew (OwnK.empty rfl (Nat.le_refl _))|exact OwnK.drew (OwnK.alloc (OwnK.empty rfl (Nat.le_refl _)) _)|exact OwnK.drew (OwnK.empty (w:=w.alloc _) (by simp) (by simp))) A k c (by rfl) (HE1.out _ (by first|exact Ext.drew (Ext.alloc (Ext.refl _) _)|exact Ext.drew (Ext.alloc (Ext.alloc (Ext.refl _) _) _))) (fun b hb=>⟨hb,hb⟩) (maxOf (by simp;omega)) (by simp;omega) (by go_size) ?_
       intro v1 w2 hap1;obtain⟨A1,n1,c1,rfl,hn1,hd11,hd12⟩:=hap1.own.form2;have HX2:=zh (hap1.toExt (w0:=w) (by first|exact Ext.drew (Ext.alloc (Ext.refl _) _)|exact Ext.drew (Ext.alloc (Ext.alloc (Ext.refl _) _) _)) (Nat.le_refl _));have HA1:=zh hap1;clear hap1)
    | (refine jb2 (o:=⟨some 40,_,_,_,_,_⟩) (k:=kStr) (S:=fun b=>b<w.heap.size) (T:=fun b=>b<w.heap.size) (base:=w.heap.size) (xs:=[]++xs.take k) (ys:=[s]) (by rfl) (.tmp 37) (.tmp 39) 54 (by rfl) i0 _ 16 Tryz.underlying54 hi0 hz0 hz1 hz2 (by rfl) (by rfl)
        (by first|exact HA1.out.own|exact OwnK.alloc HA1.out.own _) _ 1 1 (by rfl) (jas.one (k:=kStr) (x:=s) (by first|exact Blk.at_new rfl|exact HA1.out.blk2 (Blk.drew (Blk.at_new (w:=w.alloc _) (by simp))) (by simp[Value.ownBlock])|exact HA1.out.blk2 (Blk.drew (Blk.alloc (Blk.at_new rfl) _)) (by simp[Value.ownBlock])) (HE2.out _ (by first|exact HX2.out|exact Ext.alloc HX2.out _))) (fun b hb=>⟨hb,hb⟩) (maxOf (by simp;omega)) (by simp;omega) (by have:=HX2.out.size;go_size) ?_
       intro v2 w3 hap2;obtain⟨A2,n2,c2,rfl,hn2,hd21,hd22⟩:=hap2.own.form2;have HX3:=zh (hap2.toExt (w0:=w) (by first|exact HX2.out|exact Ext.alloc HX2.out _) (Nat.le_refl _));have HA2:=zh hap2;clear hap2)
    | (refine jb2 (o:=⟨some 44,_,_,_,_,_⟩) (k:=kStr) (S:=fun b=>b<w.heap.size) (T:=fun b=>b<w.heap.size) (base:=w.heap.size) (xs:=([]++xs.take k)++[s]) (ys:=xs.drop k) (by rfl) (.tmp 40) (.tmp 43) 54 (by rfl) i0 _ 16 Tryz.underlying54 hi0 hz0 hz1 hz2 (by rfl) (by rfl)
        (by exact HA2.out.own) _ _ _ (by rfl) (HE3.out _ HX3.out) (fun b hb=>⟨hb,hb⟩) (maxOf (by simp;omega)) (by simp;omega) (by have:=HX3.out.size;go_size) ?_
       intro v3 w4 hap3;obtain⟨A3,n3,c3,rfl,hn3,hd31,hd32⟩:=hap3.own.form2;have HX4:=zh (hap3.toExt (w0:=w) HX3.out (Nat.le_refl _));have HA3:=zh hap3;clear hap3))
  all_goals go_wp2
  all_goals
   go_ret;refine⟨⟨_,rfl,?_⟩,HX4.out⟩;rw[HP.out];have h:=(OwnK.strs (S':=None) HA3.out.own).list (S':=fun b=>S b∨w.heap.size≤b) (fun b hb=>hb.elim) (fun b hb=>.inr hb);simp only[List.nil_append] at h;exact h
/-! ### Variables -/
def jdl (os:List ByteArray) (l:List GT):List ByteArray:=((l.filter (·.v)).map (·.n)).foldl putS os
theorem jsv (os:List ByteArray) (l:List GT) (x:GT):jdl os (l++[x])=if x.v then putS (jdl os l) x.n else jdl os l:=by
 unfold jdl;rw[List.filter_append,List.map_append,List.foldl_append];cases h:x.v<;>simp[h]
theorem jnn (os:List ByteArray):∀ l:List GT,(jdl os l).length≤os.length+l.length:=by
 intro l;unfold jdl
 generalize hvs:(l.filter (·.v)).map (·.n)=vs
 have hl:vs.length≤l.length:=by rw[← hvs,List.length_map];exact List.length_filter_le _ _
 clear hvs
 have key:∀ (vs os:List ByteArray),(vs.foldl putS os).length≤os.length+vs.length:=by
  intro vs
  induction vs with
  | nil=>intro os;exact Nat.le_refl _
  | cons v vs ih =>
    intro os;have h1:=ih (putS os v);have h2:=jzr os v;simp only[List.foldl_cons,List.length_cons];omega
 have:=key vs os;omega
theorem jxn (a:GA) (v o:Value) (os:List ByteArray) (w:World) {S T:Nat→Prop} (hv:jae S w v a.args) (ho:StrsR T w o os) (hn:os.length+a.args.length≤1000000) :
  Calls Tryz.prog 125 #[.agg #[.string a.n,v],o] w fun e w'=>(∃ v',e=.returned v'∧StrsR (fun b=>T b∨w.heap.size≤b) w' v' (ja9 os a))∧Ext w w':=by
 obtain⟨A,c,rfl,hc1,hc2⟩:=jaa.form hv;have HV:=zh (hv.ext ((Ext.refl w).alloc (.cells #[.string a.n,.slice A a.args.length c] 43)));have HO:=zh (StrsR.imp (S':=fun b=>T b∨w.heap.size≤b) ho (fun _ h=>.inl h) (.of_ext ((Ext.refl w).alloc (.cells #[.string a.n,.slice A a.args.length c] 43))) (by go_size));have HB:=zh (Blk.new w 43 #[.string a.n,.slice A a.args.length c]);clear hv ho
 go_enter Tryz.func125,Tryz.ntmps125;go_wp2;go_loopw [1,5] (fun o i wr=>∃ k:Nat,k≤a.args.length∧i=.int .i64 k∧Hid (StrsR (fun b=>T b∨w.heap.size≤b) wr o (jdl os (a.args.take k)))∧Ext (w.alloc (.cells #[.string a.n,.slice A a.args.length c] 43)) wr) (fun _ i _=>a.args.length-(intOf i).toNat)
 case atStart=>exact⟨0,Nat.zero_le _,rfl,HO,Ext.refl _⟩
 case round =>
  obtain⟨k,hk,rfl,ho,hx⟩:=hrel;have hb1:=HB.out.ext hx;have q0:=hb1.cell 0;have q1:=hb1.cell 1;have hl:=hb1.lt;clear hb1;obtain⟨B,d,rfl,hd1,hd2⟩:=jaa.form ho.out;obtain⟨n1,hn1⟩:∃ n1,n1=(jdl os (a.args.take k)).length:=⟨_,rfl⟩
  have hln:=jnn os (a.args.take k);rw[List.length_take] at hln;rw[← hn1] at ho hln ⊢;by_cases hlt:k<a.args.length
  · obtain ⟨b,off,x,rfl,hb,hxk,hxs,hc0,hc1⟩:=jae.at_ (HV.out.ext hx) hlt
    have hstep:jdl os (a.args.take (k+1))=if x.v then putS (jdl os (a.args.take k)) x.n else jdl os (a.args.take k):=by
     obtain⟨hk',rfl⟩:=List.getElem?_eq_some_iff.1 hxk;rw[List.take_succ_eq_append_getElem hk',jsv]
    cases hxv:x.v
    · have HP:=zh (show jdl os (a.args.take (k+1))=jdl os (a.args.take k) from by rw[hstep,hxv];rfl)
      rw[hxv] at hc0;clear hstep hxk hxv hn1;go_wp2;go_roundw
      case rel=>exact⟨k+1,by omega,by go_num,(by rw[HP.out];exact ho),hx⟩
      case measure=>simp[intOf];omega
    have HP:=zh (show jdl os (a.args.take (k+1))=putS (jdl os (a.args.take k)) x.n from by rw[hstep,hxv];rfl);have HL:=zh (show (jdl os (a.args.take k)).length≤1000000 from by rw[← hn1];omega);rw[hxv] at hc0;clear hstep hxk hxv hn1;go_wp2_with (go_at_call 170;refine (jzs _ (jdl os (a.args.take k)) x.n _ ho.out hxs HL.out).mono ?_;rintro e w1 ⟨⟨v1,rfl,hv1⟩,hx1⟩)
    go_roundw
    case rel=>exact⟨k+1,by omega,by go_num,zh (by rw[HP.out];exact StrsR.imp hv1 (fun b hb=>hb.elim id (fun h=>.inr (Nat.le_trans (((Ext.refl w).alloc _).trans' hx).size h))) (.refl _ _) (Nat.le_refl _)),hx.trans' hx1⟩
    case measure=>simp[intOf];omega
  have HP:=zh (show jdl os (a.args.take k)=ja9 os a from by rw[List.take_of_length_le (by omega)];rfl);clear hn1;go_wp2;go_ret;exact⟨⟨_,rfl,by rw[← HP.out];exact ho.out⟩,((Ext.refl _).alloc _).trans' hx⟩
theorem jgu (a:GA) (v o:Value) (os:List ByteArray) (w:World) {S T:Nat→Prop} (hv:jae S w v a.args) (ho:StrsR T w o os) (hn:os.length+a.args.length≤1000000) :
  Calls Tryz.prog 125 #[.agg #[.string a.n,v],o] w fun e w'=>(∃ v',e=.returned v'∧StrsR Any w' v' (ja9 os a))∧Ext w w' :=
 (jxn a v o os w hv ho hn).mono fun e w' ⟨⟨v',h1,h2⟩,h3⟩=>⟨⟨v',h1,StrsR.imp h2 (fun _ _=>trivial) (.refl _ _) (Nat.le_refl _)⟩,h3⟩
def allTo (o:List ByteArray) (l:List GP):List ByteArray:=l.foldl (fun o p=>ja9 o p.atom) o
def jds (l:List GP):List ByteArray:=l.foldl (fun o p=>if p.no then o else ja9 o p.atom) []
theorem jej (o:List ByteArray) (a:GA):(ja9 o a).length≤o.length+a.args.length:=jnn o a.args
theorem jsw (r:GR) (v u:Value) (w:World) {S T:Nat→Prop} (hs:r.head.n.size≤maxLen) (hv:jae S w v r.head.args) (hu:jao T w u r.body) (hargs:r.head.args.length≤12∧r.body.length≤4∧∀ p∈r.body,p.atom.args.length≤3) :
  Calls Tryz.prog 124 #[.agg #[.string r.head.n,v,u]] w fun e w'=>e=.returned (.bool (jce r))∧Ext w w':=by
 obtain⟨hh,hbl,hpl⟩:=hargs;obtain⟨A,c,rfl,hc1,hc2⟩:=jaa.form hv;obtain⟨B,d,rfl,hd1,hd2⟩:=jaa.form hu;have HV:=zh (hv.ext ((Ext.refl w).alloc (.cells #[.string r.head.n,.slice A r.head.args.length c,.slice B r.body.length d] 45)));have HU:=zh (hu.ext ((Ext.refl w).alloc (.cells #[.string r.head.n,.slice A r.head.args.length c,.slice B r.body.length d] 45)));have HB:=zh (Blk.new w 45 #[.string r.head.n,.slice A r.head.args.length c,.slice B r.body.length d]);have HPL:=zh hpl;have htl:=jw9 r;have HT:=zh htl;have tok:True:=trivial;clear hv hu hpl htl
 go_enter Tryz.func124,Tryz.ntmps124
 go_wp2_with (first
  | (go_at_call 125;refine (jgu (S:=S) (T:=Any) r.head _ _ [] _ (HV.out.ext (((Ext.refl _).alloc _).alloc _)) (jaa.nil_ 0 (Nat.zero_le _) _) (by simp;omega)).mono ?_;rintro e w1 ⟨⟨v1,rfl,hv1⟩,hx1⟩
     have HV1:=zh hv1;have HX1:=zh (((((Ext.refl (w.alloc (.cells #[.string r.head.n,.slice A r.head.args.length c,.slice B r.body.length d] 45)))).alloc (.cells #[] 9)).alloc (.cells #[] 9)).trans' hx1);clear hv1 hx1))
 go_loopw [3,4,5] (fun bo al i wr=>∃ k:Nat,k≤r.body.length∧i=.int .i64 k∧Hid (StrsR Any wr al (allTo (ja9 [] r.head) (r.body.take k)))∧Hid (StrsR Any wr bo (jds (r.body.take k)))∧Hid ((allTo (ja9 [] r.head) (r.body.take k)).length≤12+3*k∧(jds (r.body.take k)).length≤3*k)∧Ext (w.alloc (.cells #[.string r.head.n,.slice A r.head.args.length c,.slice B r.body.length d] 45)) wr) (fun _ _ i _=>r.body.length-(intOf i).toNat)
 case atStart=>exact⟨0,Nat.zero_le _,rfl,HV1,zh (jaa.nil_ 0 (Nat.zero_le _) _),zh ⟨by have:=jej [] r.head;show (ja9 [] r.head).length≤_;simp at this;omega,Nat.zero_le _⟩,HX1.out⟩
 case round =>
  obtain⟨k,hk,rfl,hal,hbo,hlen,hx⟩:=hrel;have hb1:=HB.out.ext hx;have q0:=hb1.cell 0;have q1:=hb1.cell 1;have q2:=hb1.cell 2;have hl:=hb1.lt;clear hb1;obtain⟨C,e,rfl,he1,he2⟩:=jaa.form hal.out;obtain⟨D,f,rfl,hf1,hf2⟩:=jaa.form hbo.out;obtain⟨n1,hn1⟩:∃ n1,n1=(allTo (ja9 [] r.head) (r.body.take k)).length:=⟨_,rfl⟩
  obtain⟨m1,hm1⟩:∃ m1,m1=(jds (r.body.take k)).length:=⟨_,rfl⟩
  rw[← hn1,← hm1] at hlen;rw[← hn1] at hal ⊢;rw[← hm1] at hbo ⊢;by_cases hlt:k<r.body.length
  · obtain ⟨b,off,x,y,rfl,hb,hxk,hxs,htx,p0,p1,p2⟩:=jao.at_ (HU.out.ext hx) hlt
    obtain⟨E,g,rfl,hg1,hg2⟩:=jaa.form htx;have hx3:=HPL.out x (List.mem_of_getElem? hxk)
    have hst:r.body.take (k+1)=r.body.take k++[x]:=by
     obtain⟨hk',rfl⟩:=List.getElem?_eq_some_iff.1 hxk;exact List.take_succ_eq_append_getElem hk'
    have hA1:allTo (ja9 [] r.head) (r.body.take (k+1))=ja9 (allTo (ja9 [] r.head) (r.body.take k)) x.atom:=by
     unfold allTo;rw[hst,List.foldl_append];rfl
    have hB1:jds (r.body.take (k+1))=if x.no then jds (r.body.take k) else ja9 (jds (r.body.take k)) x.atom:=by
     unfold jds;rw[hst,List.foldl_append];rfl
    have HT1:=zh htx;have HA1:=zh hA1;have HN1:=zh hn1;have HM1:=zh hm1;clear hxk htx hst hA1 hn1 hm1;cases hno:x.no
    · have HBB:=zh (show jds (r.body.take (k+1))=ja9 (jds (r.body.take k)) x.atom from by rw[hB1,hno];rfl)
      rw[hno] at p0;clear hB1 hno
      go_wp2_with (first
       | (go_at_call 125;have _t:=tok;refine (jgu (T:=Any) x.atom _ _ (allTo (ja9 [] r.head) (r.body.take k)) _ HT1.out hal.out (by have h:=hlen.out;have h2:=HN1.out;omega)).mono ?_;clear tok _t;rintro e w1 ⟨⟨v1,rfl,hv1⟩,hx1⟩
          have HV2:=zh hv1;have HX2:=zh hx1;obtain⟨hcc,hcf⟩:=hx1.cells;have hz1:=hx1.size;clear hv1)
       | (go_at_call 125;refine (jgu (T:=Any) x.atom _ _ (jds (r.body.take k)) _ (HT1.out.ext HX2.out) (StrsR.imp hbo.out (fun _ h=>h) (.of_ext HX2.out) HX2.out.size) (by have h:=hlen.out;have h2:=HM1.out;omega)).mono ?_;rintro e w2 ⟨⟨v2,rfl,hv2⟩,hx2⟩
          have HV3:=zh hv2;have HX3:=zh hx2;clear hv2))
      go_roundw
      case rel =>
       have h1:=jej (allTo (ja9 [] r.head) (r.body.take k)) x.atom;have h2:=jej (jds (r.body.take k)) x.atom;have h3:=hlen.out;have h4:=HN1.out;have h5:=HM1.out;exact⟨k+1,by omega,by go_num,zh (by rw[HA1.out];exact StrsR.imp HV2.out (fun _ h=>h) (.of_ext HX3.out) HX3.out.size),zh (by rw[HBB.out];exact HV3.out),zh ⟨by rw[HA1.out];omega,by rw[HBB.out];omega⟩,(hx.trans' HX2.out).trans' HX3.out⟩
      case measure=>simp[intOf];omega
    have HBB:=zh (show jds (r.body.take (k+1))=jds (r.body.take k) from by rw[hB1,hno];rfl);rw[hno] at p0;clear hB1 hno
    go_wp2_with (first
     | (go_at_call 125;refine (jgu (T:=Any) x.atom _ _ (allTo (ja9 [] r.head) (r.body.take k)) _ HT1.out hal.out (by have h:=hlen.out;have h2:=HN1.out;omega)).mono ?_;rintro e w1 ⟨⟨v1,rfl,hv1⟩,hx1⟩
        have HV2:=zh hv1;have HX2:=zh hx1;obtain⟨hcc,hcf⟩:=hx1.cells;have hz1:=hx1.size;clear hv1))
    go_roundw
    case rel =>
     have h1:=jej (allTo (ja9 [] r.head) (r.body.take k)) x.atom;have h3:=hlen.out;have h4:=HN1.out;have h5:=HM1.out;exact⟨k+1,by omega,by go_num,zh (by rw[HA1.out];exact HV2.out),zh (by rw[HBB.out];exact StrsR.imp hbo.out (fun _ h=>h) (.of_ext HX2.out) HX2.out.size),zh ⟨by rw[HA1.out];omega,by rw[HBB.out];omega⟩,hx.trans' HX2.out⟩
    case measure=>simp[intOf];omega
  have hall:r.body.take k=r.body:=List.take_of_length_le (by omega);rw[hall] at hn1 hm1;have HF:=zh (show jce r=(n1 == m1) from by rw[HT.out,hn1,hm1];rfl);clear hn1 hm1 hlen hal hbo hall;go_wp2;go_ret;refine⟨ja6 ?_,((Ext.refl _).alloc _).trans' hx⟩;rw[HF.out,Bool.eq_iff_iff];simp;omega
theorem jsx (r:GR) (v u:Value) (w:World) {S T:Nat→Prop} (hs:r.head.n.size≤maxLen) (hv:jae S w v r.head.args) (hu:jao T w u r.body) (hok:jbd r=true) :
  Calls Tryz.prog 124 #[.agg #[.string r.head.n,v,u]] w fun e w'=>e=.returned (.bool (jce r))∧Ext w w':=by
 refine jsw r v u w hs hv hu ?_;unfold jbd at hok;simp only[Bool.and_eq_true,List.all_eq_true,decide_eq_true_eq] at hok;have h1:=(jcj hok.2.1).2.1;exact⟨by omega,hok.2.2,fun p hp=>(jcj (hok.1 p hp)).2.1⟩
theorem jqu:∀ {ns:List ByteArray} {k:Nat} {x:ByteArray},ns[k]? = some x→(∀ i y,i<k→ns[i]? = some y→y≠x)→idxB ns x=some k
 | y :: l,0,x,h,_=>by
   have:y=x:=by simpa using h
   unfold idxB;rw[if_pos this]
 | y :: l,k+1,x,h,hl=>by
   have hx:l[k]? = some x:=by simpa using h
   have hne:¬ y=x:=hl 0 y (Nat.succ_pos _) rfl;unfold idxB;rw[if_neg hne,jqu hx (fun i z hi hz=>hl (i+1) z (by omega) (by simpa using hz))];rfl
theorem jxo {ns:List ByteArray} {x:ByteArray} (h:∀ i y,i<ns.length→ns[i]? = some y→y≠x):idxB ns x=none:=by
 cases hi:idxB ns x with
 | none=>rfl
 | some i=>exact absurd rfl (h i x (jc6 hi) (jdx hi))
theorem jhj (b:LB) (v u:Value) (x:ByteArray) (w:World) {S T:Nat→Prop} (hv:StrsR S w v b.ns) (hu:StrsR T w u b.vs) (hok:b.ok) :
  Calls Tryz.prog 306 #[.agg #[v,u],.string x] w fun e w'=>e=.returned (.tuple #[.string ((b.get x).getD jqf),.bool (b.get x).isSome])∧Ext w w':=by
 obtain⟨A,c,rfl,hc1,hc2⟩:=jaa.form hv;obtain⟨B,d,rfl,hd1,hd2⟩:=jaa.form hu;have hx0:=(Ext.refl w).alloc (.cells #[.slice A b.ns.length c,.slice B b.vs.length d] 322);have HV:=zh (hv.ext hx0);have HU:=zh (hu.ext hx0);have HB:=zh (Blk.new w 322 #[.slice A b.ns.length c,.slice B b.vs.length d]);have HX0:=zh hx0;have HOK:=zh hok;clear hv hu hx0 hok
 go_enter Tryz.func306,Tryz.ntmps306;go_wp2;go_loopw [6] (fun i wr=>∃ k:Nat,k≤b.ns.length∧i=.int .i64 k∧Hid (∀ i y,i<k→b.ns[i]? = some y→y≠x)∧Ext (w.alloc (.cells #[.slice A b.ns.length c,.slice B b.vs.length d] 322)) wr) (fun i _=>b.ns.length-(intOf i).toNat)
 case atStart=>exact⟨0,Nat.zero_le _,rfl,zh (fun i y h=>absurd h (Nat.not_lt_zero _)),Ext.refl _⟩
 case round =>
  obtain⟨k,hk,rfl,hp,hx⟩:=hrel;have hk0:(0:Int)≤(k:Int):=by omega
  have hb1:=HB.out.ext hx;have q0:=hb1.cell 0;have q1:=hb1.cell 1;have hl:=hb1.lt;clear hb1;by_cases hlt:k<b.ns.length
  · have hk1:(k:Int)<(b.ns.length:Int):=by omega
    have hk3:k<b.vs.length:=by have h:=HOK.out;unfold LB.ok at h;omega
    have hk2:(k:Int)<(b.vs.length:Int):=by omega
    obtain⟨bb,off,y,rfl,hbb,hyk,hys,hc⟩:=StrsR.at_ (HV.out.ext hx) hlt;obtain⟨bc,off2,z,rfl,hbc,hzk,hzs,hc2'⟩:=StrsR.at_ (HU.out.ext hx) (k:=k) hk3;by_cases hyx:y=x
    · subst hyx
      have h3:(y.toList == y.toList)=true:=beq_self_eq_true _;have HG:=zh (show b.get y=some z from by unfold LB.get;rw[jqu hyk hp.out];exact hzk);clear hyk hzk hp;go_wp2;go_ret2;rw[HG.out];exact⟨rfl,HX0.out.trans' hx⟩
    have h3:(y.toList == x.toList)=false:=jdg hyx
    have HP:=zh (show ∀ i u,i<k+1→b.ns[i]? = some u→u≠x from fun i u hi hu=>by
     rcases Nat.lt_or_ge i k with h|h
     · exact hp.out i u h hu
     have e:i=k:=by omega
     subst e;rw[hyk] at hu;injection hu with hu
     exact fun e=>hyx (hu.trans e))
    clear hyk hzk hp hyx;go_wp2;go_roundw
    case rel=>exact⟨k+1,by omega,by go_num,HP,hx⟩
    case measure=>simp[intOf];omega
  have HG:=zh (show b.get x=none from by
    unfold LB.get;rw[jxo (fun i y hi hy=>hp.out i y (by omega) hy)])
  clear hp;go_wp2;go_ret2;rw[HG.out];exact⟨rfl,HX0.out.trans' hx⟩
end Go.Proofs.YthdojieomhighaaGreatDoor
