/- Own texts, joined. -/
import Derived.Test.YthiflhkcpanaaaaGreatDoorDas29
import Derived.Test.YthiflhkcpanaaaaGreatDoorDas30
import Derived.Conc.LoneCalls
set_option linter.unusedSimpArgs false
set_option linter.unusedVariables false
set_option maxHeartbeats 8000000
set_option maxRecDepth 100000
namespace Go.Proofs.YthiflhkcpanaaaaGreatDoor
open Go.RowKit
theorem PatsR.form2 {S:Nat->Prop} {w:World} {v:Value} {xs:List GPat} (h:PatsR S w v xs):∃ A n c,v=.slice A n c/\J1 (n=xs.length)/\n<=c/\c<=9223372036854775807:=by
 obtain⟨A,c,rfl,h1,h2⟩:=jaa.form h;exact⟨A,_,c,rfl,zh rfl,h1,h2⟩
theorem PatsR.low0 {S:Nat->Prop} {w:World} {v:Value} {xs:List GPat} (h:PatsR S w v xs):PatsR (fun b=>S b/\b<w.heap.size) w v xs:=ListK.low (k:=kPat) h
section
variable {w w':World} {sb:Nat} {s:Sea}
theorem SeaAt.setT (h:SeaAt w sb s) {i:Nat} (hi:i<12) (b:Bool):SeaAt (w.setCell ⟨sb,4+i,none⟩ (.bool b)) sb { s with wanted:=s.wanted.set i b }:=by
 refine⟨?_,h.lW,h.lB,by rw[List.length_set];exact h.lw,h.small⟩;have h1:=h.blk.set_ (4+i) (.bool b)
 rwa [s.set_ { s with wanted:=s.wanted.set i b } (by omega) (by
  unfold Sea.f;rw[if_neg (by omega),if_neg (by omega),if_neg (by omega),if_neg (by omega),if_pos (by omega)];rw[show 4+i-4=i by omega];show Value.bool ((s.wanted.set i b).getD i false)=_;rw[List.getD_eq_getElem?_getD,List.getElem?_set_self (by rw[h.lw];exact hi)];rfl) (fun j hj hne=>by
  by_cases h18:4<=j/\j<16
  . unfold Sea.f
    rw[if_neg (by omega),if_neg (by omega),if_neg (by omega),if_neg (by omega),if_pos (by omega)];rw[if_neg (by omega),if_neg (by omega),if_neg (by omega),if_neg (by omega),if_pos (by omega)];show Value.bool ((s.wanted.set i b).getD (j-4) false)=_;rw[List.getD_eq_getElem?_getD,List.getElem?_set_ne (by omega),<- List.getD_eq_getElem?_getD]
  rcases (by omega:j=0∨j=1∨j=2∨j=3∨j=16∨j=17∨j=18∨j=19∨j=20∨j=21∨j=22∨j=23∨j=24∨j=25∨j=26∨j=27∨j=28∨j=29∨j=30∨j=31∨j=32∨j=33∨j=34∨j=35∨j=36∨j=37∨j=38∨j=39∨j=40∨j=41∨j=42∨j=43) with rfl|rfl|rfl|rfl|rfl|rfl|rfl|rfl|rfl|rfl|rfl|rfl|rfl|rfl|rfl|rfl|rfl|rfl|rfl|rfl|rfl|rfl|rfl|rfl|rfl|rfl|rfl|rfl|rfl|rfl|rfl|rfl<;>rfl)] at h1
theorem SeaAt.setTell (h:SeaAt w sb s) (v:Value):SeaAt (w.setCell ⟨sb,43,none⟩ v) sb { s with tell:=v }:=by
 refine⟨?_,h.lW,h.lB,h.lw,h.small⟩;have h1:=h.blk.set_ 43 v
 rwa [s.set_ { s with tell:=v } (j:=43) (u:=v) (by omega) rfl (fun j hj hne=>by
  rcases (by omega:j=0∨j=1∨j=2∨j=3∨j=4∨j=5∨j=6∨j=7∨j=8∨j=9∨j=10∨j=11∨j=12∨j=13∨j=14∨j=15∨j=16∨j=17∨j=18∨j=19∨j=20∨j=21∨j=22∨j=23∨j=24∨j=25∨j=26∨j=27∨j=28∨j=29∨j=30∨j=31∨j=32∨j=33∨j=34∨j=35∨j=36∨j=37∨j=38∨j=39∨j=40∨j=41∨j=42) with rfl|rfl|rfl|rfl|rfl|rfl|rfl|rfl|rfl|rfl|rfl|rfl|rfl|rfl|rfl|rfl|rfl|rfl|rfl|rfl|rfl|rfl|rfl|rfl|rfl|rfl|rfl|rfl|rfl|rfl|rfl|rfl|rfl|rfl|rfl|rfl|rfl|rfl|rfl|rfl|rfl|rfl|rfl<;>rfl)] at h1
end
def sea0 (st q0 q1 q2 t:Value):Sea:=⟨st,q0,q1,q2,List.replicate 12 false,false,0,List.replicate 12 jcr,List.replicate 12 0,0,t⟩
theorem j1m {s:Sea} {cs:Array Value} (hs:cs.size=44) (h:∀ i,i<44->cs[i]? = some (s.f i)):cs=s.cells:=by
 apply Array.ext_getElem?
 intro i;by_cases hi:i<44
 . rw[s.at_ hi];exact h i hi
 rw[Array.getElem?_eq_none (by omega),Array.getElem?_eq_none (by rw[s.size];omega)]
def jlm (st q0 q1 q2:Value):Array Value:= #[st,q0,q1,q2,.bool false,.bool false,.bool false,.bool false,.bool false,.bool false,.bool false,.bool false,.bool false,.bool false,.bool false,.bool false,.bool false,.int .i64 0,.string ⟨#[]⟩,.string ⟨#[]⟩,.string ⟨#[]⟩,.string ⟨#[]⟩,.string ⟨#[]⟩,.string ⟨#[]⟩,.string ⟨#[]⟩,.string ⟨#[]⟩,.string ⟨#[]⟩,.string ⟨#[]⟩,.string ⟨#[]⟩,.string ⟨#[]⟩,.int .i64 0,.int .i64 0,.int .i64 0,.int .i64 0,.int .i64 0,.int .i64 0,.int .i64 0,.int .i64 0,.int .i64 0,.int .i64 0,.int .i64 0,.int .i64 0,.int .i64 0,.nilFunc]
theorem j2f (st q0 q1 q2:Value) (w:World):SeaAt (w.alloc (.cells (jlm st q0 q1 q2) 256)) w.heap.size (sea0 st q0 q1 q2 .nilFunc):=by
 refine⟨?_,rfl,rfl,rfl,fun x hx=>?_⟩
 . rw [<- j1m (s:=sea0 st q0 q1 q2 .nilFunc) (cs:=jlm st q0 q1 q2) rfl (fun i hi=>by
     rcases (by omega:i=0∨i=1∨i=2∨i=3∨i=4∨i=5∨i=6∨i=7∨i=8∨i=9∨i=10∨i=11∨i=12∨i=13∨i=14∨i=15∨i=16∨i=17∨i=18∨i=19∨i=20∨i=21∨i=22∨i=23∨i=24∨i=25∨i=26∨i=27∨i=28∨i=29∨i=30∨i=31∨i=32∨i=33∨i=34∨i=35∨i=36∨i=37∨i=38∨i=39∨i=40∨i=41∨i=42∨i=43) with rfl|rfl|rfl|rfl|rfl|rfl|rfl|rfl|rfl|rfl|rfl|rfl|rfl|rfl|rfl|rfl|rfl|rfl|rfl|rfl|rfl|rfl|rfl|rfl|rfl|rfl|rfl|rfl|rfl|rfl|rfl|rfl|rfl|rfl|rfl|rfl|rfl|rfl|rfl|rfl|rfl|rfl|rfl|rfl<;>rfl)]
   exact Blk.new _ _ _
 rw[List.eq_of_mem_replicate hx];exact Nat.zero_le _
end Go.Proofs.YthiflhkcpanaaaaGreatDoor
namespace Go.Proofs.YthiflhkcpanaaaaGreatDoor
open Go.RowKit
def jby (l:List Bool) (s:GS):List Bool:=match s.v with
 | some v=>l.set v true
 | none=>l
def wantP (l:List Bool) (p:GPat):List Bool:=p.slots.foldl jby l
theorem jk0 (l:List Bool) (s:GS):(jby l s).length=l.length:=by unfold jby;split<;>simp
theorem jk1:∀ (ss:List GS) (l:List Bool),(ss.foldl jby l).length=l.length
 | [],_=>rfl
 | s :: ss,l=>by rw[List.foldl_cons,jk1 ss,jk0]
theorem jv6 (p:GPat) (pv:Value) (S:Sea) (sb:Nat) (w:World) {P:Nat->Prop} (hs:SeaAt w sb S) (hp:ja9 P w pv p.slots) (hP:¬ P sb) (hok:∀ s∈p.slots,jb2 12 s) :
  Calls Tryz.prog 276 #[.pointer (some ⟨sb,0,none⟩),.agg #[.string p.n,pv]] w fun e w'=>e=.returned (.tuple #[])/\SeaAt w' sb { S with wanted:=wantP S.wanted p }/\jac (fun b=>b=sb) w w':=by
 obtain⟨A,c,rfl,hc1,hc2⟩:=jaa.form hp;have hsl:=hs.lt;obtain⟨W0,hW0⟩:=nm (w.alloc (.cells #[.string p.n,.slice A p.slots.length c] 297));have hB0:Blk W0 w.heap.size 297 #[.string p.n,.slice A p.slots.length c]:=by rw[hW0];exact Blk.new _ _ _
 have HE0:=zh (show Ext w W0 from by rw[hW0];exact (Ext.refl _).alloc _);have HW0:=zh hW0;have p1:=hB0.cell 1;have pl:=hB0.lt;have HS:=zh (hs.ext HE0.o);have HP:=zh (hp.ext HE0.o);have HOK:=zh hok;clear hs hp hok hB0
 go_in;go_wp2_with fail
 rw[<- HW0.o];go_loopw [9] (fun i wr=>∃ k:Nat,k<=p.slots.length/\i=.int .i64 k/\J1 (SeaAt wr sb { S with wanted:=(p.slots.take k).foldl jby S.wanted })/\J1 (jac (fun b=>b=sb) W0 wr)) (fun i _=>p.slots.length-(intOf i).toNat)
 case atStart=>exact⟨0,Nat.zero_le _,rfl,HS,zh (jac.refl _ _)⟩
 case round =>
  obtain⟨k,hk,rfl,hse,hin⟩:=hrel;have hk0:(0:Int)<=(k:Int):=by omega
  by_cases hlt:k<p.slots.length
  . have hk1:(k:Int)<(p.slots.length:Int):=by omega
    obtain⟨bs,os,sl,rfl,hbs,hsk,hss,hs0,hs1⟩:=ja9.at_ (ja9.impL (S':=P) HP.o (fun _ h _=>h) (fun b hb hlt=>hin.o.block b hlt (fun e=>hP (e▸hb))) hin.o.size) hlt;have HT:=zh (show (p.slots.take (k+1)).foldl jby S.wanted=jby ((p.slots.take k).foldl jby S.wanted) sl from jfc jby _ _ _ _ hsk);have HSO:=zh (HOK.o sl (List.mem_of_getElem? hsk));have hsl1:=hse.o.lt;clear hsk
    cases hv:sl.v with
    | none =>
      have hnum:sl.num = -1:=by unfold GS.num;rw[hv]
      rw[hnum] at hs0;have HST:=zh (show jby ((p.slots.take k).foldl jby S.wanted) sl=(p.slots.take k).foldl jby S.wanted from by unfold jby;rw[hv]);clear hv hnum;go_wp2_with fail
      go_roundw
      case rel =>
       refine⟨k+1,by omega,by go_num,zh ?_,zh (hin.o.t (jac.of_ext ((Ext.refl _).alloc _)))⟩;rw[HT.o,HST.o];exact hse.o.ext ((Ext.refl _).alloc _)
      case measure=>simp[intOf];omega
    | some v =>
      have hv12:v<12:=by have h1:=HSO.o;unfold jb2 at h1;rw[hv] at h1;exact h1
      have hnum:sl.num=(v:Int):=by unfold GS.num;rw[hv]
      rw[hnum] at hs0;have hv0:(0:Int)<=(v:Int):=by omega
      have hv1:(v:Int)<12:=by omega
      have HST:=zh (show jby ((p.slots.take k).foldl jby S.wanted) sl=((p.slots.take k).foldl jby S.wanted).set v true from by unfold jby;rw[hv]);have HX:=zh (Blk.new wr 332 #[.int .i64 (v:Int),.string sl.w]);clear hv hnum;go_wp2_with fail
      obtain⟨w1,hw1⟩:=nm (wr.alloc (.cells #[.int .i64 (v:Int),.string sl.w] 332));have HE1:=zh (show Ext wr w1 from by rw[hw1];exact (Ext.refl _).alloc _);have hbx:Blk w1 wr.heap.size 332 #[.int .i64 (v:Int),.string sl.w]:=by rw[hw1];exact Blk.new _ _ _
      rw[<- hw1];clear hw1 hs0 hs1;have hs2:=hse.o.ext HE1.o;have x0:=hbx.cell 0;have xl:=hbx.lt;have y0:=hs2.want hv12;have yf:=hs2.frozen (4+v);have yl:=hs2.lt;have HS2:=zh hs2;clear hs2 hbx
      go_still_tail 6,(by kernel_rfl)
      change wpList _ _ _ _ _ w1.drew;go_wp2_with fail
      go_roundw
      case rel =>
       refine⟨k+1,by omega,by go_num,zh ?_,zh ((hin.o.t (jac.of_ext HE1.o)).t ((jac.of_ext (Ext.refl w1).drew).t (jac.set (S:=fun b=>b=sb) _ ⟨sb,4+v,none⟩ _ rfl)))⟩;rw[HT.o,HST.o];exact (HS2.o.ext (Ext.refl w1).drew).setT hv12 true
      case measure=>simp[intOf];omega
  have hk1:¬ (k:Int)<(p.slots.length:Int):=by omega
  obtain rfl:k=p.slots.length:=by omega
  have h:=hse.o;rw[List.take_length] at h;have HF:=zh h;clear h;go_wp2_with fail
  go_end0
  exact⟨rfl,HF.o,(jac.of_ext HE0.o).t hin.o⟩
/-! ### Who wants facts -/
structure Light (a:GA):Prop where
 args:a.args.length<=1000
 w:wAtom a<=4194304
 n:a.n.size<=maxLen
structure Hears (H:Hunt) {σ:Type} (base:Nat) (g:Nat) (caps:Array Value) (R:σ->World->Prop) (put:σ->GA->σ × Bool) (rank:σ->Nat) (N:Nat):Prop where
 go:∀ args w,(callFunc g args).run Tryz.prog w=.ok (.enter g args) w
 up:∀ st a,rank (put st a).1<=rank st+1
 put:∀ (st:σ) (a:GA) (v:Value) (n:Nat) (w:World),jd7 H.F w H.stb H.E.facts H.E.rounds H.fv H.rv H.mb H.pb H.nm H.np H.f->base<=n->jad (fun b=>n<=b/\b<w.heap.size) w v a.args->Light a->R st w->rank st<N ->
  Calls Tryz.prog g (#[.agg #[.string a.n,v]]++caps) w fun e w'=>e=.returned (.bool (put st a).2)/\R (put st a).1 w'/\jac H.M w w'
 keep:∀ st w w',R st w->jac (fun b=>b=H.sb) w w'->R st w'
def j1n {σ:Type} (R:σ->World->Prop) (P:Nat->Prop) (tb hb:Nat) (g:Nat) (caps:Array Value) (p:GPat) (pv:Value) (st:σ) (w:World):Prop :=
 R st w/\w.cell? ⟨tb,0,none⟩=some (.func (.func g) #[] caps)/\Blk w hb 297 #[.string p.n,pv]/\ja9 P w pv p.slots/\tb<w.heap.size
theorem jnm:∀ args w,(callFunc 277 args).run Tryz.prog w=.ok (.enter 277 args) w:=enters_of Tryz.func277 (by kernel_rfl) (by rfl)
theorem jnn {σ:Type} (H:Hunt) {base g:Nat} {caps:Array Value} {R:σ->World->Prop} {put:σ->GA->σ × Bool} {rank:σ->Nat} {N:Nat} (hY:Hears H base g caps R put rank N) {tb hb:Nat} {p:GPat} {pv:Value} (hp:PatOk p) (hG:H.G=Gok)
  (h1:tb≠H.sb) (h2:hb≠H.sb) (h3:¬ H.M tb) (h4:¬ H.M hb) (h5:∀ b,H.P b->b≠H.sb/\¬ H.M b) (h6:base<=H.sb+1) :
  jzg H 277 #[.pointer (some ⟨tb,0,none⟩),.pointer (some ⟨hb,0,none⟩)] (j1n R H.P tb hb g caps p pv) (fun st W=>((put st (factP W p)).1,(put st (factP W p)).2)) rank N:=by
 refine⟨jnm,fun st Q w hs hr hGW hrk=>?_,fun st w w' hr hi=>?_,fun st W=>hY.up _ _⟩
 . obtain ⟨r1,r2,r3,r4,r5⟩:=hr
   rw[hG] at hGW;have eg:=hY.go;have hn1:=(jg3 hp.n).2;have hmx:(8:Nat)<=maxLen:=by decide
   have hlight:Light (factP Q.W p):=⟨by show (List.map _ _).length<=1000;rw[List.length_map];exact Nat.le_trans hp.few (by omega),jmq hGW hp,Nat.le_trans hn1 hmx⟩
   have hsb:=hs.sea.lt;have HBF:=zh (fun (W:World) (hW:Ext w W)=>jrv p pv Q H.sb W (hs.sea.ext hW) (r4.ext hW) hp.slot (Nat.le_trans hp.few (by omega)))
   have HPU:=zh (fun (W:World) (hW:Ext w W) (v:Value) (n:Nat) (hn:base<=n) (hv:jad (fun b=>n<=b/\b<W.heap.size) W v (factP Q.W p).args) =>
    hY.put st (factP Q.W p) v n W (hs.st.ext hW) hn hv hlight (hY.keep _ _ _ r1 (jac.of_ext hW)) hrk)
   have HR2:=zh r2;have HR3:=zh r3;have HR4:=zh r4;obtain⟨a,ha⟩:=nm (factP Q.W p);have hbw:hb<w.heap.size:=r3.lt
   have HKP:=zh (fun (W:World) (hW:jac H.M w W)=>(show W.cell? ⟨tb,0,none⟩=some (.func (.func g) #[] caps)/\W.cell? ⟨hb,0,none⟩=some (.string p.n)/\W.cell? ⟨hb,1,none⟩=some pv from
    ⟨hW.cell r5 h3 HR2.o,hW.cell hbw h4 (HR3.o.cell 0),hW.cell hbw h4 (HR3.o.cell 1)⟩))
   have q0:=r3.cell 0;have q1:=r3.cell 1;clear hs r1 hGW hrk hY r3 r4;show Calls _ _ #[.pointer (some ⟨H.sb,18,none⟩),.pointer (some ⟨tb,0,none⟩),.pointer (some ⟨hb,0,none⟩)] _ _
   go_in;go_wp2_with fail
   go_region_held3 (fun W'=>W'.cell? ⟨tb,0,none⟩=some (.func (.func g) #[] caps)/\W'.cell? ⟨hb,0,none⟩=some (.string p.n)/\W'.cell? ⟨hb,1,none⟩=some pv)
    (first|exact HKP.o _ HI2.o|exact HKP.o _ (jac.of_ext HX1.o)|exact HKP.o _ (jac.of_ext (Ext.refl _).drew))
    (first
     | (go_at_call 278;refine (HBF.o _ (Ext.refl w).drew).mono ?_;rintro e w1 ⟨⟨v1,rfl,hv1⟩,hx1⟩
        have HX1:=zh (show Ext w w1 from (Ext.refl w).drew.t hx1);have HV1:=zh hv1;clear hv1 hx1)
     | (go_at_fn g;refine (HPU.o w1 HX1.o v1 w.heap.size (Nat.le_trans h6 hsb) (ListK.low (k:=kTerm) HV1.o)).mono ?_;rintro e w2 ⟨rfl,hr2,hi2⟩
        have HR2':=zh hr2;have HI2:=zh (show jac H.M w w2 from (jac.of_ext HX1.o).t hi2);clear hr2 hi2))
   all_goals go_wp2_with fail
   all_goals go_ret
   all_goals exact⟨rfl,⟨HR2'.o,HI2.o.cell r5 h3 HR2.o,HI2.o.blk HR3.o h4,HR4.o.impL (fun _ h _=>h) (fun b hb hlt=>HI2.o.block b hlt (h5 b hb).2) HI2.o.size,Nat.lt_of_lt_of_le r5 HI2.o.size⟩,HI2.o⟩
 obtain⟨r1,r2,r3,r4,r5⟩:=hr;exact⟨hY.keep _ _ _ r1 hi,hi.cell r5 h1 r2,hi.blk r3 h2,r4.impL (fun _ h _=>h) (fun b hb hlt=>hi.block b hlt (h5 b hb).1) hi.size,Nat.lt_of_lt_of_le r5 hi.size⟩
/-! ### What is wanted -/
theorem jh4:∀ (ss:List GS) (l:List Bool) (i:Nat),i<l.length->(ss.foldl jby l).getD i false=(l.getD i false || ss.any fun s=>s.v == some i)
 | [],l,i,_=>by simp
 | s :: ss,l,i,h=>by
   rw[List.foldl_cons,jh4 ss _ i (by rw[jk0];exact h),List.any_cons];unfold jby
   cases hv:s.v with
   | none=>simp
   | some v =>
     by_cases e:v=i
     . subst e
       simp[List.getD_eq_getElem?_getD,h]
     have e2:(some v == some i)=false:=by simp[e]
     rw[e2];simp[List.getD_eq_getElem?_getD,List.getElem?_set_ne e]
theorem jiz (l:List Bool) (p:GPat):(wantP l p).length=l.length:=jk1 _ _
theorem jo0:∀ (ps:List GPat) (l:List Bool),(ps.foldl wantP l).length=l.length
 | [],_=>rfl
 | p :: ps,l=>by rw[List.foldl_cons,jo0 ps,jiz]
theorem jsy:∀ (ps:List GPat) (l:List Bool) (i:Nat),i<l.length->(ps.foldl wantP l).getD i false=(l.getD i false || ps.any fun p=>p.slots.any fun s=>s.v == some i)
 | [],l,i,_=>by simp
 | p :: ps,l,i,h=>by
   rw[List.foldl_cons,jsy ps _ i (by rw[jiz];exact h),List.any_cons];unfold wantP;rw[jh4 _ _ _ h,Bool.or_assoc]
theorem j0a (vs:List ByteArray) (r:GR):(jci vs r.body).foldl wantP (wantP (List.replicate 12 false) (patOf vs r.head))=wantF vs r:=by
 have h1:((jci vs r.body).foldl wantP (wantP (List.replicate 12 false) (patOf vs r.head))).length=12:=by rw[jo0,jiz,List.length_replicate]
 have h2:(wantF vs r).length=12:=by simp[wantF]
 apply List.ext_getElem?
 intro i;by_cases hi:i<12
 . have k1:=jsy (jci vs r.body) (wantP (List.replicate 12 false) (patOf vs r.head)) i (by rw[jiz,List.length_replicate];exact hi)
   have k2:(wantP (List.replicate 12 false) (patOf vs r.head)).getD i false=((List.replicate 12 false).getD i false || (patOf vs r.head).slots.any fun s=>s.v == some i):=jh4 _ _ _ (by rw[List.length_replicate];exact hi);have k3:(List.replicate 12 false).getD i false=false:=by rw[List.getD_eq_getElem?_getD,List.getElem?_replicate];split<;>rfl
   rw[k2,k3,Bool.false_or] at k1;have e1:∀ {l:List Bool},i<l.length->l[i]? = some (l.getD i false):=fun {l} h=>by rw[List.getD_eq_getElem?_getD,List.getElem?_eq_getElem h];rfl
   rw[e1 (by rw[h1];exact hi),k1];unfold wantF;rw[List.getElem?_map,List.getElem?_range hi]
   rfl
 rw[List.getElem?_eq_none (by omega),List.getElem?_eq_none (by omega)]
def feedA {σ:Type} (put:σ->GA->σ × Bool):List GA->σ->σ × Bool
 | [],st=>(st,true)
 | a :: l,st=>if (put st a).2 then feedA put l (put st a).1 else ((put st a).1,false)
theorem j1y {σ:Type} (put:σ->GA->σ × Bool) (p:GPat):∀ (Ws:List Words) (st:σ),feed (fun st W=>((put st (factP W p)).1,(put st (factP W p)).2)) Ws st=feedA put (Ws.map fun W=>factP W p) st
 | [],st=>rfl
 | W :: Ws,st=>by
   rw[List.map_cons];unfold feed feedA;cases h:(put st (factP W p)).2
   . simp[h]
   simp[h];exact j1y put p Ws _
theorem ja9.low0 {S:Nat->Prop} {w:World} {v:Value} {xs:List GS} (h:ja9 S w v xs):ja9 (fun b=>S b/\b<w.heap.size) w v xs:=ListK.low (k:=kSlot) h
theorem ja9.form2 {S:Nat->Prop} {w:World} {v:Value} {xs:List GS} (h:ja9 S w v xs):∃ A n c,v=.slice A n c/\J1 (n=xs.length)/\n<=c/\c<=9223372036854775807:=by
 obtain⟨A,c,rfl,h1,h2⟩:=jaa.form h;exact⟨A,_,c,rfl,zh rfl,h1,h2⟩
theorem jxs {σ:Type} (r:GR) (hv bv:Value) (w:World) {S:Nat->Prop} (hh:jad S w hv r.head.args) (hb:jao S w bv r.body) (hnm:r.head.n.size<=maxLen) (hfine:Fine r)
  {F:Nat->Prop} {stb mb pb nm np:Nat} {facts:List GA} {rounds:List Nat} {fv rv:Value} {f:Value->Value} (hst:jd7 F w stb facts rounds fv rv mb pb nm np f) (hF:∀ b,F b->b<w.heap.size) (hrl:rounds.length=facts.length) (hf:∀ a∈facts,factB a=true)
  (M0:Nat->Prop) (hM0:∀ b,M0 b->b<w.heap.size) (hFM:∀ b,F b->¬ M0 b)
  {g:Nat} {caps:Array Value} {R:Nat->σ->World->Prop} {put:σ->GA->σ × Bool} {rank:σ->Nat} {N:Nat} (st0:σ)
  (hY:∀ (sb:Nat) (E:SE) (P:Nat->Prop),w.heap.size<=sb->E.facts=facts->E.rounds=rounds->Hears ⟨E,F,P,fun b=>M0 b∨sb+1<=b,Gok,stb,fv,rv,mb,pb,nm,np,f,sb⟩ (sb+1) g caps (R sb) put rank N)
  (hR:∀ sb W,Ext w W->w.heap.size<=sb->R sb st0 W) (hN:rank st0+(jcv facts rounds r).length<=N) :
  Calls Tryz.prog 232 #[.pointer (some ⟨stb,0,none⟩),.agg #[.string r.head.n,hv,bv],.func (.func g) #[] caps] w fun e w'=>e=.returned (.tuple #[]) /\
   (∃ sb,w.heap.size<=sb/\sb<w'.heap.size/\R sb (feedA put (jcv facts rounds r) st0).1 w')/\jac (fun b=>M0 b∨w.heap.size<=b) w w':=by
 have hab:=hfine.able;have hn12:=hab.few;have hps:∀ p∈r.body,p.atom.args.length<=3:=fun p hp=>jjp (hfine.body p hp)
 have hha:=jjp hfine.head;obtain⟨A,c,rfl,hc1,hc2⟩:=jaa.form hh;obtain⟨A',c',rfl,hc1',hc2'⟩:=jaa.form hb;have HQO:=zh (fun (W:World) (hW:Ext w W)=>jur r.body _ W (hb.ext hW) (fun p hp=>by have:=hps p hp;omega) hfine.few);have HPA:=zh (fun (W:World) (hW:Ext w W) (u0 u1 qv:Value) (V:Nat->Prop) (hq:StrsR V W qv (varsN r.body))=>jm4 r.head (varsN r.body) u0 u1 qv _ W hq (hh.ext hW) (jgq r.body) hfine.hvars (by omega) (by omega));have HST:=zh hst;have HF:=zh hF;have HRL:=zh hrl;have HFF:=zh hf;have HM0:=zh hM0;have HFM:=zh hFM;have HY:=zh hY;have HR:=zh hR;have HN:=zh hN;have HFI:=zh hfine;have HAB:=zh hab;obtain⟨vs,hvs⟩:∃ vs,vs=(varsN r.body):=⟨_,rfl⟩;obtain⟨W0,hW0⟩:∃ W0,W0=((w.alloc (.cells #[.string r.head.n,.slice A r.head.args.length c,.slice A' r.body.length c'] 178)).alloc (.cells #[.func (.func g) #[] caps] 172)):=⟨_,rfl⟩;have HB0:=zh (show Blk W0 w.heap.size 178 #[.string r.head.n,.slice A r.head.args.length c,.slice A' r.body.length c'] from by rw[hW0];exact (Blk.new _ _ _).alloc _);have HB1:=zh (show Blk W0 (w.heap.size+1) 172 #[.func (.func g) #[] caps] from by rw[hW0];exact Blk.at_new (by simp));have HX0:=zh (show Ext w W0 from by rw[hW0];exact ((Ext.refl _).alloc _).alloc _);have hz0:W0.heap.size=w.heap.size+1+1:=by rw[hW0];simp
 have HZ0:=zh hz0;have p0:=HB0.o.cell 0;have p1:=HB0.o.cell 1;have p2:=HB0.o.cell 2;have pl:=HB0.o.lt;clear hh hb hst hF hrl hf hM0 hFM hY hR hN hfine hab hps hz0
 go_in
 go_upto_region 1 with fail
 rw[<- hW0];clear hW0
 go_upto_region 2 with (first
  | (go_at_call 219;refine (HQO.o _ HX0.o).mono ?_;rintro e w1 ⟨⟨v0,v1,v2,rfl,hq0,hq1,hq2⟩,hx1⟩
     obtain⟨P0,pn,pc,rfl,hpn,hp1,hp2⟩:=PatsR.form2 hq0;obtain⟨N0,nn,nc,rfl,hnn,hn1,hn2⟩:=PatsR.form2 hq1;obtain⟨V0,vn,vc,rfl,hvn,hv1,hv2⟩:=StrsR.form2 hq2)
  | fail)
 obtain⟨W1,hW1⟩:∃ W1,W1=(w1.alloc (.cells #[.slice P0 pn pc,.slice N0 nn nc,.slice V0 vn vc] 246)):=⟨_,rfl⟩;have HX1:=zh hx1;have HE1:=zh (show Ext w1 W1 from by rw[hW1];exact (Ext.refl _).alloc _);have HB2:=zh (show Blk W1 w1.heap.size 246 #[.slice P0 pn pc,.slice N0 nn nc,.slice V0 vn vc] from by rw[hW1];exact Blk.new _ _ _);have HQ0:=zh (hq0.ext HE1.o);have HQ1:=zh (hq1.ext HE1.o);have HQ2:=zh (hq2.ext HE1.o);have hzW1:W1.heap.size=w1.heap.size+1:=by rw[hW1];simp
 have HZ1:=zh hzW1;have hs01:=HX1.o.size;have hs12:=HE1.o.size;rw[<- hW1];clear hW1 hq0 hq1 hq2 hx1 hzW1 p0 p1 p2 pl;have HXW1:=zh (HX1.o.t HE1.o);have p0:=(HB0.o.ext HXW1.o).cell 0;have p1:=(HB0.o.ext HXW1.o).cell 1;have p2:=(HB0.o.ext HXW1.o).cell 2;have pl:=(HB0.o.ext HXW1.o).lt;have c0:=HB2.o.cell 0;have c1:=HB2.o.cell 1;have c2:=HB2.o.cell 2;have cl:=HB2.o.lt
 go_upto_region 3 with (first
  | (go_at_call 259;refine (HPA.o _ (HX0.o.t HXW1.o) _ _ _ _ HQ2.o).mono ?_;rintro e w2 ⟨⟨hv2,rfl,hp2'⟩,hx2⟩
     obtain⟨H0,hn,hc0,rfl,hhn,hh1,hh2⟩:=ja9.form2 hp2')
  | fail)
 obtain⟨W2,hW2⟩:∃ W2,W2=(w2.alloc (.cells #[.string r.head.n,.slice H0 hn hc0] 297)):=⟨_,rfl⟩;have HX2:=zh hx2;have HE2:=zh (show Ext w2 W2 from by rw[hW2];exact (Ext.refl _).alloc _);have HB3:=zh (show Blk W2 w2.heap.size 297 #[.string r.head.n,.slice H0 hn hc0] from by rw[hW2];exact Blk.new _ _ _);have HHP:=zh (hp2'.ext HE2.o);have HZ2:=zh (show W2.heap.size=w2.heap.size+1 from by rw[hW2];simp);have hs23:=HX2.o.size;have hs34:=HE2.o.size;rw[<- hW2];clear hW2 hp2' hx2 p0 p1 p2 pl c0 c1 c2 cl;have HXW2:=zh (HX2.o.t HE2.o);have c0:=(HB2.o.ext HXW2.o).cell 0;have c1:=(HB2.o.ext HXW2.o).cell 1;have c2:=(HB2.o.ext HXW2.o).cell 2;have cl:=(HB2.o.ext HXW2.o).lt
 go_upto_region 4 with fail
 obtain⟨W3,hW3⟩:∃ W3,W3=(W2.alloc (.cells (jlm (.pointer (some ⟨stb,0,none⟩)) (.slice P0 pn pc) (.slice N0 nn nc) (.slice V0 vn vc)) 256)):=⟨_,rfl⟩;have HE3:=zh (show Ext W2 W3 from by rw[hW3];exact (Ext.refl _).alloc _);have HSE:=zh (show SeaAt W3 W2.heap.size (sea0 (.pointer (some ⟨stb,0,none⟩)) (.slice P0 pn pc) (.slice N0 nn nc) (.slice V0 vn vc) .nilFunc) from by rw[hW3];exact j2f _ _ _ _ _);have HZ3:=zh (show W3.heap.size=W2.heap.size+1 from by rw[hW3];simp);have HWW:=zh hW3;unfold jlm at hW3;rw[<- hW3];clear hW3 c0 c1 c2 cl;have hs45:=HE3.o.size;have hab:=HAB.o;have hn12:=hab.few;have HPO:=zh (show PatOk (patOf vs r.head) from by rw[hvs];exact jpt HFI.o.head HFI.o.hvars hn12)
 have HNO:=zh (show ∀ p∈jci vs r.body,PatOk p from fun p hp=>by
  obtain⟨q,hq,rfl⟩:=List.mem_map.1 (show p∈jci vs r.body from hp);rw[hvs];exact jpt (HFI.o.body q (List.mem_filter.1 hq).1) (hab.mem q (List.mem_filter.1 hq).1) hn12)
 obtain⟨P,hP⟩:∃ P:Nat->Prop,P=fun b=>w.heap.size<=b/\b<W2.heap.size:=⟨_,rfl⟩
 have HPD:=zh hP;have hPs:¬ P W2.heap.size:=by rw[hP];exact fun h=>Nat.lt_irrefl _ h.2
 have HHP3:=zh (show ja9 P W3 (.slice H0 hn hc0) (patOf vs r.head).slots from by
  have h:=HHP.o.low0;rw[hvs];exact (ja9.impL h (fun b hb _=>by rw[hP];exact⟨Nat.le_trans (Nat.le_trans (HX0.o.t HXW1.o).size (Nat.le_refl _)) hb.1,hb.2⟩) (.refl _ _) (Nat.le_refl _)).ext HE3.o)
 have hq:∀ {v:Value} {l:List GPat},PatsR (From W0.heap.size) W1 v l->PatsR P W3 v l:=fun {v l} h=>by
  have h1:=h.low0;exact (PatsR.impL h1 (fun b hb _=>by rw[hP];exact⟨Nat.le_trans HX0.o.size hb.1,Nat.lt_of_lt_of_le hb.2 (HXW2.o).size⟩) (.refl _ _) (Nat.le_refl _)).ext (HXW2.o.t HE3.o)
 have HQ03:=zh (show PatsR P W3 (.slice P0 pn pc) (jcf vs r.body) from by rw[hvs];exact hq HQ0.o);have HQ13:=zh (show PatsR P W3 (.slice N0 nn nc) (jci vs r.body) from by rw[hvs];exact hq HQ1.o);have hnn':nn=(jci vs r.body).length:=by rw[hvs];exact hnn.o
 have HNN:=zh hnn';have hvn':=hvn.o;have HB33:=zh (HB3.o.ext HE3.o);have HB23:=zh ((HB2.o.ext HXW2.o).ext HE3.o);have c0:=HB33.o.cell 0;have c1:=HB33.o.cell 1;have cl:=HB33.o.lt;clear hq hP hab hnn'
 go_upto_region 5 with (first
  | (go_at_call 276;refine (jv6 (patOf vs r.head) _ _ W2.heap.size W3 HSE.o HHP3.o hPs HPO.o.slot).mono ?_;rintro e w4 ⟨rfl,hse4,hi4⟩)
  | fail)
 have HSE4:=zh hse4;have HI4:=zh hi4;have d1:=(hi4.blk HB23.o (fun e=>by have e:w1.heap.size=W2.heap.size:=e;have:=HZ1.o;omega)).cell 1;have dl:=(hi4.blk HB23.o (fun e=>by have e:w1.heap.size=W2.heap.size:=e;have:=HZ1.o;omega)).lt;clear hse4 hi4 c0 c1 cl;go_wp2_with fail
 clear d1 dl;go_loopw [28] (fun i wr=>∃ k:Nat,k<=nn/\i=.int .i64 k/\J1 (SeaAt wr W2.heap.size { sea0 (.pointer (some ⟨stb,0,none⟩)) (.slice P0 pn pc) (.slice N0 nn nc) (.slice V0 vn vc) .nilFunc with wanted:=((jci vs r.body).take k).foldl wantP (wantP (List.replicate 12 false) (patOf vs r.head)) })/\J1 (jac (fun b=>b=W2.heap.size) W3 wr)) (fun i _=>nn-(intOf i).toNat)
 case atStart=>exact⟨0,Nat.zero_le _,rfl,HSE4,HI4⟩
 case round =>
  obtain⟨k,hk,rfl,hse,hin⟩:=hrel;have hk0:(0:Int)<=(k:Int):=by omega
  by_cases hlt:k<nn
  . have hk1:(k:Int)<(nn:Int):=by omega
    obtain⟨bs,os,q,qv,rfl,hbs,hqk,hqs,hqt,hc0',hc1''⟩:=PatsR.at_ (PatsR.impL (S':=P) HQ13.o (fun _ h _=>h) (fun b hb hlt=>hin.o.block b hlt (fun e=>hPs (e▸hb))) hin.o.size) hlt;obtain⟨QA,qn,qc,rfl,_,_,_⟩:=ja9.form2 hqt;have HT:=zh (show ((jci vs r.body).take (k+1)).foldl wantP (wantP (List.replicate 12 false) (patOf vs r.head))=wantP (((jci vs r.body).take k).foldl wantP (wantP (List.replicate 12 false) (patOf vs r.head))) q from jfc wantP _ _ _ _ hqk);have HOK:=zh ((HNO.o q (List.mem_of_getElem? hqk)).slot);have HWA:=zh (fun (W:World) (hW:Ext wr W)=>jv6 q _ _ W2.heap.size W (hse.o.ext hW) (hqt.ext hW) hPs HOK.o);have hsl:=hse.o.lt;clear hqk hqt
    go_wp2_with (first
     | (go_at_call 276;refine (HWA.o _ ((Ext.refl _).alloc _)).mono ?_;rintro e w5 ⟨rfl,hse5,hi5⟩)
     | fail)
    go_roundw
    case rel =>
     refine⟨k+1,by omega,by go_num,zh ?_,zh ((hin.o.t (jac.of_ext ((Ext.refl _).alloc _))).t hi5)⟩;rw[HT.o];exact hse5
    case measure=>simp[intOf];omega
  obtain rfl:k=nn:=by omega
  have hsea:=hse.o;rw[List.take_of_length_le (Nat.le_of_eq HNN.o.symm),j0a] at hsea;have hin':=hin.o;have hs2:=hsea.frozen 43;have hs3:=hsea.lt;have hs1':=hsea.tell;have HSEA:=zh hsea;have HIN:=zh hin';clear hsea hin' hse hin
  have HALL:=zh (show Calls Tryz.prog 221 #[.pointer (some ⟨W2.heap.size,0,none⟩)] (wr.setCell ⟨W2.heap.size,43,none⟩ (.func (.func 277) #[] #[.pointer (some ⟨w.heap.size+1,0,none⟩),.pointer (some ⟨w2.heap.size,0,none⟩)]))
    fun e w'=>e=.returned (.tuple #[])/\R W2.heap.size (feedA put (jcv facts rounds r) st0).1 w'/\jac (fun b=>b=W2.heap.size∨M0 b∨W2.heap.size+1<=b) (wr.setCell ⟨W2.heap.size,43,none⟩ (.func (.func 277) #[] #[.pointer (some ⟨w.heap.size+1,0,none⟩),.pointer (some ⟨w2.heap.size,0,none⟩)])) w' from by
   have hle:w.heap.size<=W2.heap.size:=((HX0.o.t HXW1.o).t HXW2.o).size;have hxw:Ext w W3:=(HX0.o.t HXW1.o).t (HXW2.o.t HE3.o);have hPD:=HPD.o;obtain⟨w5,hw5⟩:∃ x,x=wr.setCell ⟨W2.heap.size,43,none⟩ (.func (.func 277) #[] #[.pointer (some ⟨w.heap.size+1,0,none⟩),.pointer (some ⟨w2.heap.size,0,none⟩)]):=⟨_,rfl⟩
   have hse5:=HSEA.o.setTell (.func (.func 277) #[] #[.pointer (some ⟨w.heap.size+1,0,none⟩),.pointer (some ⟨w2.heap.size,0,none⟩)]);have hr5:jac (fun b=>b=W2.heap.size) wr w5:=by rw[hw5];exact jac.set _ _ _ rfl
   rw[<- hw5] at hse5 ⊢;clear hw5;have hi5:jac (fun b=>b=W2.heap.size) W3 w5:=HIN.o.t hr5;have hx5:Ext w w5:=hi5.toExt hxw (fun i hi=>by subst hi;exact hle);have hz3:=HZ3.o;have hsz5:=hi5.size;subst hvs;have hab:=HAB.o;have hfo:∀ a∈facts,jlr a:=fun a ha=>jpr (HFF.o a ha)
   obtain⟨H,hH⟩:∃ H:Hunt,H=⟨seF facts rounds r,F,P,fun b=>M0 b∨W2.heap.size+1<=b,Gok,stb,fv,rv,mb,pb,nm,np,f,W2.heap.size⟩:=⟨_,rfl⟩
   have hPM:∀ b,P b->b≠W2.heap.size/\¬ (M0 b∨W2.heap.size+1<=b):=fun b hb=>by
    rw[hPD] at hb;refine⟨by omega,?_⟩;rintro (h|h)
    . have:=HM0.o b h;omega
    omega
   have hfit:H.Fit:=by
    rw[hH];refine j2r rfl HFF.o (fun p hp=>?_) HNO.o ?_ HRL.o (jpv HFI.o).len (j1x (rounds:=rounds) hab hfo (jpv HFI.o)).nots ?_ ?_ ?_ ?_ ?_
    . obtain ⟨q,hq,rfl⟩:=List.mem_map.1 (show p∈jcf (varsN r.body) r.body from hp)
      exact jpt (HFI.o.body q (List.mem_filter.1 hq).1) (hab.mem q (List.mem_filter.1 hq).1) hn12
    . show (jcf (varsN r.body) r.body).length<=4
      unfold jcf;rw[List.length_map];exact Nat.le_trans (List.length_filter_le _ _) HFI.o.few
    . intro h
      have:=HF.o _ h;have this:W2.heap.size<w.heap.size:=this;omega
    . exact fun h=>(hPM _ h).1 rfl
    . rintro (h|h)
      . have h2:W2.heap.size<w.heap.size:=HM0.o _ h
        omega
      exact absurd h (Nat.not_succ_le_self _)
    . rintro b h (h2|h2)
      . exact HFM.o b h h2
      have:=HF.o _ h;omega
    exact fun b h=>(hPM b h).2
   have hpat:∀ {v:Value} {l:List GPat},PatsR P W3 v l->PatsR P w5 v l:=fun {v l} h=>PatsR.impL h (fun _ h _=>h) (fun b hb hlt=>hi5.block b hlt (hPM b hb).1) hi5.size
   have hseek:Seek H { sea0 (.pointer (some ⟨stb,0,none⟩)) (.slice P0 pn pc) (.slice N0 k nc) (.slice V0 vn vc) .nilFunc with wanted:=wantF (varsN r.body) r,tell:=.func (.func 277) #[] #[.pointer (some ⟨w.heap.size+1,0,none⟩),.pointer (some ⟨w2.heap.size,0,none⟩)] } w5:=by
    rw[hH];exact⟨HST.o.ext hx5,hse5,rfl,hpat HQ03.o,hpat HQ13.o,rfl,rfl,rfl,⟨List.nodup_nil,fun v hv=>by cases hv⟩,Nat.zero_le _,fun b hb=>Nat.lt_of_lt_of_le (HF.o b hb) hx5.size⟩
   have hyi:Hears H (W2.heap.size+1) g caps (R W2.heap.size) put rank N:=by rw[hH];exact HY.o W2.heap.size (seF facts rounds r) P hle rfl rfl
   have hM1:∀ b,w.heap.size<=b->b<W2.heap.size->¬ H.M b:=fun b h1 h2=>by
    rw[hH];rintro (h|h)
    . have:=HM0.o b h;omega
    have h:W2.heap.size+1<=b:=h;omega
   have hs02:=HX0.o.size;have hz0:=HZ0.o;have htb:w.heap.size+1<W2.heap.size:=by omega
   have hhb:w2.heap.size<W2.heap.size:=by have:=HZ2.o;omega
   have hte:=jnn H hyi (tb:=w.heap.size+1) (hb:=w2.heap.size) (p:=patOf (varsN r.body) r.head) (pv:=.slice H0 hn hc0) HPO.o (by rw[hH]) (by rw[hH];show w.heap.size+1≠W2.heap.size;omega) (by rw[hH];show w2.heap.size≠W2.heap.size;omega)
    (hM1 _ (by omega) htb) (hM1 _ (by omega) hhb) (by rw[hH];exact hPM) (by rw[hH];exact Nat.le_refl _)
   have htc:w5.cell? ⟨w.heap.size+1,0,none⟩=some (.func (.func g) #[] caps):=hi5.cell (by omega) (fun e=>by have e:w.heap.size+1=W2.heap.size:=e;omega) ((HB1.o.ext (HXW1.o.t (HXW2.o.t HE3.o))).cell 0);have hhc:Blk w5 w2.heap.size 297 #[.string r.head.n,.slice H0 hn hc0]:=hi5.blk HB33.o (fun e=>by have e:w2.heap.size=W2.heap.size:=e;omega);have hsl5:ja9 H.P w5 (.slice H0 hn hc0) (patOf (varsN r.body) r.head).slots:=by rw[hH];exact ja9.impL HHP3.o (fun _ h _=>h) (fun b hb hlt=>hi5.block b hlt (hPM b hb).1) hi5.size
   have hall:=j2e H hfit hte _ st0 w5 hseek rfl ⟨HR.o W2.heap.size w5 hx5 hle,htc,hhc,hsl5,by omega⟩ (by rw[hH];exact jzh) (by
    rw[hH];have h:=HN.o;unfold jcv at h;rw[List.length_map] at h;exact h)
   rw[hH] at hall;refine hall.mono fun e w' ⟨h1,h2,h3⟩=>⟨h1,?_,h3.sub (fun b hb _=>hb)⟩
   have h4:=h2.1;rw[j1y] at h4;exact h4)
  clear HSEA HST HQ03 HQ13 HSE4;go_wp2_with (first|(go_at_call 221;refine HALL.o.mono ?_;rintro e w6 ⟨rfl,hr6,hi6⟩)|fail)
  go_end0
  have hxw:Ext w W3:=(HX0.o.t HXW1.o).t (HXW2.o.t HE3.o);have hz3:=HZ3.o;have hle:w.heap.size<=W2.heap.size:=((HX0.o.t HXW1.o).t HXW2.o).size;have hi7:=(HIN.o.t (jac.set (S:=fun b=>b=W2.heap.size) wr ⟨W2.heap.size,43,none⟩ (.func (.func 277) #[] #[.pointer (some ⟨w.heap.size+1,0,none⟩),.pointer (some ⟨w2.heap.size,0,none⟩)]) rfl))
  refine⟨rfl,⟨W2.heap.size,hle,Nat.lt_of_lt_of_le (by show W2.heap.size<_;have:=hi7.size;omega) hi6.size,hr6⟩,?_⟩;have k1:∀ b,b=W2.heap.size->b<W3.heap.size->M0 b∨w.heap.size<=b:=fun b hb _=>.inr (by omega)
  have k3:∀ b,(b=W2.heap.size∨M0 b∨W2.heap.size+1<=b)->M0 b∨w.heap.size<=b:=fun b hb=>by
   rcases hb with hb|hb|hb
   . exact .inr (by omega)
   . exact .inl hb
   exact .inr (by omega)
  exact (jac.of_ext hxw).t ((hi7.sub k1).t (hi6.sub (fun b hb _=>k3 b hb)))
end Go.Proofs.YthiflhkcpanaaaaGreatDoor
namespace Go.Proofs.YthiflhkcpanaaaaGreatDoor
open Go.RowKit Go.Conc
def Wn (P:Program) (c:Code) (Q:Exit->Act->World->Prop) (a:Act) (w:World):Prop :=
 ∀ (b:Frame) (k:List Item) (cs:List Frame),b.kind=.normal->∃ e a' w',Q e a' w'/\Arrives P (lone (b.at a (.code c :: k)) cs w) b k cs e a' w'
def WnOps (P:Program) (ops:Array Oper) (Q:Exit->Act->World->Prop) (l:List Nat) (a:Act) (w:World):Prop :=
 ∀ (b:Frame) (k:List Item) (cs:List Frame),b.kind=.normal->∃ e a' w',Q e a' w'/\Arrives P (lone (b.at a (.inRegion ops l :: k)) cs w) b k cs e a' w'
section
variable {P:Program} {Q:Exit->Act->World->Prop} {a:Act} {w:World}
theorem Wn.of {c:Code} (h:c.wp P Q a w):Wn P c Q a w:=fun b k cs _=>h b k cs
theorem Wn.seq {x y:Code} (h:Wn P x (Exit.then (Wn P y Q) Q) a w):Wn P (Code.seq x y) Q a w:=by
 intro b k cs hb;obtain⟨e,a₁,w₁,hq,harr⟩:=h b (.code y :: k) cs hb
 cases e with
 | normal =>
   obtain⟨e₂,a₂,w₂,hq₂,harr₂⟩:=hq b k cs hb;exact⟨e₂,a₂,w₂,hq₂,.of_steps (.head step_seq harr) harr₂⟩
 | exit id=>exact⟨_,a₁,w₁,hq,.of_steps (.one step_seq) (.pass (x:=.code y) rfl (fun _ _=>.inl (by simp)) harr)⟩
 | goto l=>exact⟨_,a₁,w₁,hq,.of_steps (.one step_seq) (.pass (x:=.code y) rfl (fun _ _=>.inl (by simp)) harr)⟩
 | ret=>exact⟨_,a₁,w₁,hq,.of_steps (.one step_seq) (.pass (x:=.code y) rfl (fun _ _=>.inl (by simp)) harr)⟩
 | panic ch=>exact⟨_,a₁,w₁,hq,.of_steps (.one step_seq) (.pass (x:=.code y) rfl (fun _ _=>.inl (by simp)) harr)⟩
 | outgrown=>exact⟨_,a₁,w₁,hq,.of_steps (.one step_seq) (.pass (x:=.code y) rfl (fun _ _=>.inl (by simp)) harr)⟩
theorem Wn.cond {c:Operand} {x y:Code} {t:Bool} (hc:a.eval c=.bool t) (h:Wn P (if t then x else y) Q a w):Wn P (Code.cond c x y) Q a w :=
 fun b k cs hb=>let ⟨e,a',w',q,r⟩:=h b k cs hb;⟨e,a',w',q,.of_steps (.one (step_cond hc)) r⟩
theorem Wn.block {id:Nat} {c:Code} (h:Wn P c (Exit.inBlock id Q) a w):Wn P (Code.block id c) Q a w:=by
 intro b k cs hb;obtain⟨e,a₁,w₁,hq,harr⟩:=h b (.inBlock id :: k) cs hb
 cases e with
 | normal=>exact⟨.normal,a₁,w₁,hq,.head step_block (Steps.trans harr (.one step_inBlock))⟩
 | exit id' =>
   by_cases hid:id'=id
   . simp only [Exit.inBlock,hid,if_true] at hq
     exact⟨.normal,a₁,w₁,hq,.head step_block (harr k (by simp[exitTo,hid]))⟩
   . simp only [Exit.inBlock,hid,if_false] at hq
     refine⟨.exit id',a₁,w₁,hq,fun k' hk=>.head step_block (harr k' ?_)⟩;have:(id == id')=false:=by simp;exact fun h=>hid h.symm
     simp[exitTo,this,hk]
 | goto l=>exact⟨_,a₁,w₁,hq,fun k' hk=>.head step_block (harr k' (by simp[gotoIn,hk]))⟩
 | ret=>exact⟨_,a₁,w₁,hq,.of_steps (.one step_block) harr⟩
 | panic ch=>exact⟨_,a₁,w₁,hq,.of_steps (.one step_block) harr⟩
 | outgrown=>exact⟨_,a₁,w₁,hq,.of_steps (b:=b) (k:=k) (cs:=cs) (e:=.outgrown) (.one step_block) harr⟩
theorem Wn.loop {c:Code} (I:Act->World->Prop) (μ:Act->World->Nat) (h₀:I a w)
  (round:∀ a w,I a w->Wn P c (Exit.then (fun a' w'=>I a' w'/\μ a' w'<μ a w) Q) a w):Wn P (Code.loop c) Q a w:=by
 intro b k cs hb
 have key:∀ n a w,μ a w=n->I a w ->
   ∃ e a' w',Q e a' w'/\Arrives P (lone (b.at a (.code c :: .inLoop c :: k)) cs w) b k cs e a' w':=by
  intro n
  induction n using Nat.strongRecOn with
  | _ n ih =>
    intro a w hn hI;obtain⟨e,a₁,w₁,hq,harr⟩:=round a w hI b (.inLoop c :: k) cs hb
    cases e with
    | normal =>
      obtain⟨hI₁,hlt⟩:=hq;obtain⟨e₂,a₂,w₂,hq₂,harr₂⟩:=ih (μ a₁ w₁) (hn▸hlt) a₁ w₁ rfl hI₁;exact⟨e₂,a₂,w₂,hq₂,.of_steps (Steps.trans harr (.one step_inLoop)) harr₂⟩
    | exit id=>exact⟨_,a₁,w₁,hq,.pass (x:=.inLoop c) rfl (fun _ _=>.inl (by simp)) harr⟩
    | goto l=>exact⟨_,a₁,w₁,hq,.pass (x:=.inLoop c) rfl (fun _ _=>.inl (by simp)) harr⟩
    | ret=>exact⟨_,a₁,w₁,hq,.pass (x:=.inLoop c) rfl (fun _ _=>.inl (by simp)) harr⟩
    | panic ch=>exact⟨_,a₁,w₁,hq,.pass (x:=.inLoop c) rfl (fun _ _=>.inl (by simp)) harr⟩
    | outgrown=>exact⟨_,a₁,w₁,hq,.pass (x:=.inLoop c) rfl (fun _ _=>.inl (by simp)) harr⟩
 obtain⟨e,a',w',hq,harr⟩:=key _ a w rfl h₀;exact⟨e,a',w',hq,.of_steps (.one step_loop) harr⟩
theorem Wn.exit {id:Nat} (h:Q (.exit id) a w):Wn P (Code.exit id) Q a w:=Wn.of (wp_exit h)
theorem Wn.region {id:Nat} {ops:Array Oper} (h:WnOps P ops Q (List.range ops.size) a w):Wn P (Code.region id ops false) Q a w :=
 fun b k cs hb=>let ⟨e,a',w',q,r⟩:=h b k cs hb;⟨e,a',w',q,.of_steps (.one step_region) r⟩
variable {ops:Array Oper} {l:List Nat}
theorem WnOps.of (h:wpOps P ops Q l a w):WnOps P ops Q l a w:=fun b k cs _=>wp_ops l a w h b k cs
theorem WnOps.nil (h:Q .normal a w):WnOps P ops Q [] a w:=fun b k cs _=>⟨.normal,a,w,h,.one step_region_end⟩
theorem WnOps.value {i:Nat} {o:Oper} {v:Value} {w':World} (ho:ops[i]? = some o) (hw:Region.wanted o (yielded ops a.tmps)=true) (hr:(execOp a.eval o).run P w=.ok (.value v) w')
  (h:WnOps P ops Q l (a.put o.dst v) w'):WnOps P ops Q (i :: l) a w:=by
 intro b k cs hb;obtain⟨e,a',w'',hq,harr⟩:=h b k cs hb;refine⟨e,a',w'',hq,.of_steps (.one (step_lone_go ?_)) harr⟩
 have hfin:(b.at a (.inRegion ops (i :: l) :: k)).finish v=b.at (a.put o.dst v) (.inRegion ops l :: k):=by
  rw[Frame.finish_at,ho];rfl
 rw[Go.stepG_op ho hw,<- hfin];simp[stepG.apply,hr]
theorem WnOps.skip {i:Nat} {o:Oper} {w':World} (ho:ops[i]? = some o) (hw:Region.wanted o (yielded ops a.tmps)=true) (hr:(execOp a.eval o).run P w=.ok .skip w')
  (h:WnOps P ops Q l (a.put o.dst undef) w'):WnOps P ops Q (i :: l) a w:=by
 intro b k cs hb;obtain⟨e,a',w'',hq,harr⟩:=h b k cs hb;refine⟨e,a',w'',hq,.of_steps (.one (step_lone_go ?_)) harr⟩
 have hfin:(b.at a (.inRegion ops (i :: l) :: k)).finish undef=b.at (a.put o.dst undef) (.inRegion ops l :: k):=by
  rw[Frame.finish_at,ho];rfl
 rw[Go.stepG_op ho hw,<- hfin];simp[stepG.apply,hr]
theorem WnOps.send {i:Nat} {o:Oper} {w':World} {c cap s r:Nat} {buf:Array Value} {v z:Value} {tm:Bool} (ho:ops[i]? = some o) (hw:Region.wanted o (yielded ops a.tmps)=true)
  (hr:(execOp a.eval o).run P w=.ok (.comm #[scase c v z] true .send) w') (hc:w'.heap[c]? = some (.chan cap buf false s r tm)) (hroom:buf.size<cap)
  (h:WnOps P ops Q l (a.put o.dst undef) (w'.setChan c cap (buf.push v) false (s+1) r tm)):WnOps P ops Q (i :: l) a w:=by
 intro b k cs hb;obtain⟨e,a',w'',hq,harr⟩:=h b k cs hb;refine⟨e,a',w'',hq,.of_steps (.one ?_) harr⟩
 have hfin:(b.at a (.inRegion ops (i :: l) :: k)).finish undef=b.at (a.put o.dst undef) (.inRegion ops l :: k):=by
  rw[Frame.finish_at,ho];rfl
 have h1:=step_lone_send_room (cs:=cs) (stepG_comm (P:=P) (main:=true) (b:=b) (k:=k) (cs:=cs) (rest:=l) ho hw (by rw[hb];simp) hr) hc hroom;rw[hfin] at h1;exact h1
theorem WnOps.recv {i:Nat} {o:Oper} {w':World} {c cap s r:Nat} {buf:Array Value} {z:Value} {tm closed:Bool} (ok:Bool) (ho:ops[i]? = some o) (hw:Region.wanted o (yielded ops a.tmps)=true)
  (hr:(execOp a.eval o).run P w=.ok (.comm #[rcase c z] true (.recv ok)) w') (hc:w'.heap[c]? = some (.chan cap buf closed s r tm)) (hsome:0<buf.size)
  (h:WnOps P ops Q l (a.put o.dst (got ok (buf.getD 0 undef) true)) (w'.setChan c cap (buf.extract 1 buf.size) closed s (r+1) tm)):WnOps P ops Q (i :: l) a w:=by
 intro b k cs hb;obtain⟨e,a',w'',hq,harr⟩:=h b k cs hb;refine⟨e,a',w'',hq,.of_steps (.one ?_) harr⟩
 have hfin:(b.at a (.inRegion ops (i :: l) :: k)).finish (got ok (buf.getD 0 undef) true)=b.at (a.put o.dst (got ok (buf.getD 0 undef) true)) (.inRegion ops l :: k):=by
  rw[Frame.finish_at,ho];rfl
 have h1:=step_lone_recv_buf (cs:=cs) ok (stepG_comm (P:=P) (main:=true) (b:=b) (k:=k) (cs:=cs) (rest:=l) ho hw (by rw[hb];simp) hr) hc hsome;rw[hfin] at h1;exact h1
theorem WnOps.shut {i:Nat} {o:Oper} {w':World} {c cap s r:Nat} {z:Value} {tm:Bool} (ok:Bool) (ho:ops[i]? = some o) (hw:Region.wanted o (yielded ops a.tmps)=true)
  (hr:(execOp a.eval o).run P w=.ok (.comm #[rcase c z] true (.recv ok)) w') (hc:w'.heap[c]? = some (.chan cap #[] true s r tm))
  (h:WnOps P ops Q l (a.put o.dst (got ok z false)) w'):WnOps P ops Q (i :: l) a w:=by
 intro b k cs hb;obtain⟨e,a',w'',hq,harr⟩:=h b k cs hb;refine⟨e,a',w'',hq,.of_steps (.one ?_) harr⟩
 have hfin:(b.at a (.inRegion ops (i :: l) :: k)).finish (got ok z false)=b.at (a.put o.dst (got ok z false)) (.inRegion ops l :: k):=by
  rw[Frame.finish_at,ho];rfl
 have h1:=step_lone_recv_shut (cs:=cs) ok (stepG_comm (P:=P) (main:=true) (b:=b) (k:=k) (cs:=cs) (rest:=l) ho hw (by rw[hb];simp) hr) hc;rw[hfin] at h1;exact h1
theorem jm5 {f:FuncId} {fn:Func} {c:Code} {args:Array Value} {R:Ending->World->Prop} (hf:P.funcs[f]? = some fn) (hb:fn.body=some c)
  (h:Wn P c (bodyPost P fn R) { tmps:=args++Array.replicate (fn.ntmps-args.size) undef,defers:=[] } w):Calls P f args w R:=by
 intro cs
 let b:Frame:= { (default:Frame) with fn:=f,kind:=.normal }
 have henter:Frame.enter P f args .normal=b.at { tmps:=args++Array.replicate (fn.ntmps-args.size) undef,defers:=[] } [.code c]:=by
  simp[Frame.enter,Frame.at,hf,hb,b]
 obtain⟨e,a',w',hq,harr⟩:=h b [] cs rfl;rw[<- henter] at harr
 cases e with
 | normal =>
   obtain⟨hd,v,hr,hR⟩:=hq;exact⟨.returned v,w',_,hR,Steps.trans harr (.one step_end),rfl,rfl,hd,rfl,fn,hf,hr⟩
 | ret =>
   obtain⟨hd,v,hr,hR⟩:=hq;obtain⟨todo,hs⟩:=harr;exact⟨.returned v,w',_,hR,hs,rfl,rfl,hd,rfl,fn,hf,hr⟩
 | panic chain =>
   obtain⟨hd,hR⟩:=hq;obtain⟨todo,hs⟩:=harr;exact⟨.panicked chain,w',_,hR,hs,rfl,rfl,hd,fn,hf⟩
 | exit id=>exact hq.elim
 | goto l=>exact hq.elim
 | outgrown=>exact⟨.outgrown,w',b,hq,harr.resolve_left (by simp[b]),rfl,trivial⟩
end
end Go.Proofs.YthiflhkcpanaaaaGreatDoor
