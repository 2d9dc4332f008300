/- Own texts, joined. -/
import Derived.Test.YthdojieomhighaaGreatDoorCas28
import Derived.Test.YthdojieomhighaaGreatDoorCas22
import Derived.Test.YthdojieomhighaaGreatDoorCas23
set_option linter.unusedSimpArgs false
set_option linter.unusedVariables false
set_option maxHeartbeats 8000000
set_option maxRecDepth 100000
namespace Go.Proofs.YthdojieomhighaaGreatDoor
open Go.RowKit Go.Conc
theorem jtf {n num stb mb pb nm np:Nat} {facts:List GA} {rounds:List Nat} {fv rv:Value} {f:Value→Value} {F:Nat→Prop} (hF:∀ b,F b→b<n) (hnum:num≤1000000) (hfl:facts.length≤1000) {N:Nat} (hN:N≤10000000000000) (sb:Nat) (E:SE) (P:Nat→Prop) (h1:E.facts=facts) (h2:E.rounds=rounds) :
  Hears ⟨E,F,P,fun b=>(n+2≤b∧b<n+7)∨sb+1≤b,Gok,stb,fv,rv,mb,pb,nm,np,f,sb⟩ (sb+1) 209 #[.pointer (some ⟨n+5,0,none⟩),.pointer (some ⟨n,0,none⟩),.pointer (some ⟨n+1,0,none⟩),.pointer (some ⟨n+6,0,none⟩),.pointer (some ⟨n+3,0,none⟩)] (RndR n num stb sb) (stepR facts) (fun st=>st.sn.length) N:=by
 refine⟨jpi,fun st a=>jwh _ _ _,fun st a v m w hst hm hv ha hR hr=>?_,fun st w w' h hi=>h.keep hi⟩
 have hst':jdz F w stb facts rounds fv rv mb pb nm np f:=by
  have h:jdz F w stb E.facts E.rounds fv rv mb pb nm np f:=hst;rw[h1,h2] at h;exact h
 refine (jwj n num stb sb m a v st w hst' hv hm ha hR hF hnum (by omega) hfl).mono fun e w' ⟨k1,k2,k3⟩=>⟨k1,k2,k3.sub (fun b hb hlt=>?_)⟩
 rcases hb with hb|hb
 · exact .inl hb
 omega
def cameF (fr:List GA) (x:ByteArray):Option Nat:=if fr.any (fun a=>decide (a.n=x)) then some (fr.filter (fun a=>decide (a.n=x))).length else none
theorem jwk (fr:List GA) (a:GA):cameF (fr++[a])=fun x=>if x=a.n then some ((cameF fr a.n).getD 0+1) else cameF fr x:=by
 funext x
 unfold cameF;by_cases h:x=a.n
 · subst h
   rw[if_pos rfl,if_pos (by simp)];by_cases h2:fr.any (fun b=>decide (b.n=a.n))=true
   · rw[if_pos h2];simp
   rw[if_neg h2]
   have:fr.filter (fun b=>decide (b.n=a.n))=[]:=by
    rw[List.filter_eq_nil_iff];intro b hb hc;exact h2 (List.any_eq_true.2 ⟨b,hb,hc⟩)
   simp[this]
 rw[if_neg h];have e:(fr++[a]).any (fun b=>decide (b.n=x))=fr.any (fun b=>decide (b.n=x)):=by simp;exact fun e=>absurd e.symm h
 rw[e];have e2:(fr++[a]).filter (fun b=>decide (b.n=x))=fr.filter (fun b=>decide (b.n=x)):=by simp;exact fun e=>h e.symm
 rw[e2]
theorem RndR.move {n num stb sb sb':Nat} {st:RS} {w:World} (h:RndR n num stb sb st w) (hs:w.heap.size≤sb'):RndR n num stb sb' st w:=by
 obtain⟨b,s,r,Z,h1,h2,h3⟩:=h.buf;exact⟨Nat.le_trans h.sz hs,h.sz,h.sB,h.nB,h.fB,h.map,h.mB,h.oB,h.few,b,s,r,Z,h1,h2,fun i hi=>⟨(h3 i hi).1,(h3 i hi).2.1,by have:=(h3 i hi).2.1;omega⟩⟩
theorem jmj (facts:List GA) (rounds:List Nat) (r:GR):∀ (rs:List GR) (fr:List GA),jck facts rounds (rs++[r]) fr=match jck facts rounds rs fr with
  | none=>none
  | some fr'=>jd0 facts fr' (jcu facts rounds r)
 | [],fr=>by
   simp only[List.nil_append,jck];cases jd0 facts fr (jcu facts rounds r)<;>rfl
 | q :: rs,fr=>by
   simp only[List.cons_append,jck]
   cases jd0 facts fr (jcu facts rounds q) with
   | none=>rfl
   | some fr'=>exact jmj facts rounds r rs fr'
theorem jmk (facts:List GA) (rounds:List Nat):∀ (rs qs:List GR) (fr:List GA),jck facts rounds rs fr=none→jck facts rounds (rs++qs) fr=none
 | [],_,_,h=>by simp[jck] at h
 | r :: rs,qs,fr,h=>by
   simp only[List.cons_append,jck] at h ⊢
   cases hc:jd0 facts fr (jcu facts rounds r) with
   | none=>rfl
   | some fr'=>rw[hc] at h;exact jmk facts rounds rs qs fr' h
theorem jgl {facts:List GA} {rounds:List Nat} (hf:Facts facts) (hl:facts.length≤300) {rules:List GR} (hr:∀ r∈rules,Fine r) {fr:List GA} (h:jck facts rounds rules []=some fr):Facts fr∧facts.length+fr.length≤300:=by
 have k:=(jjk hf (all:=rules) (fun r hr'=>⟨hr r hr',hr'⟩) (jus hl) h).1;exact⟨k.fact,k.fits⟩
theorem jyu (w:World):(Instr.makeChan 257 (.int .i64 301)).run Tryz.prog w=.ok (.chan (some w.heap.size)) (w.alloc (.chan 301 #[] false 0 0 false)):=by
 obtain⟨i,hi,hz,hs,hb⟩:=info_parts jdy;simpa using run_makeChan (P:=Tryz.prog) (w:=w) Tryz.underlying257 hi .i64 301 (by omega) (by rw[hb];omega)
theorem ja2.inside {base:Nat} {S T Q:Nat→Prop} {w w':World} {sb mb pb:Nat} {fv rv:Value} {f:Value→Value} {facts:List GA} {rounds:List Nat} {un:ByteArray→Nat→Option (Nat × ByteArray)→List Nat} {nm:Nat} {pm:ByteArray→Option Nat} {np:Nat} (h:ja2 base S T w sb mb pb fv rv f facts rounds un nm pm np) (hi:jab Q w w') (hQ:∀ b,Q b→T b∧¬ S b):ja2 base S T w' sb mb pb fv rv f facts rounds un nm pm np:=by
 have n1:¬ Q sb:=fun hq=>(h.tb sb (hQ sb hq).1).2.1 rfl
 have n2:¬ Q mb:=fun hq=>(h.tb mb (hQ mb hq).1).2.2.1 rfl
 have n3:¬ Q pb:=fun hq=>(h.tb pb (hQ pb hq).1).2.2.2 rfl
 have hl:=h.lo;refine⟨hi.blk h.blk n1,⟨hl.1,hl.2.1,hl.2.2.1,hl.2.2.2.1,hl.2.2.2.2.1,hl.2.2.2.2.2.1,Nat.le_trans hl.2.2.2.2.2.2 hi.size⟩,?_,h.sub,?_,h.mp.inside hi n2,fun n s o=>?_,h.pl.ext (hi.block _ h.pl.lt n3),h.a1,h.a2,h.a3,fun b hb=>⟨Nat.lt_of_lt_of_le (h.tb b hb).1 hi.size,(h.tb b hb).2⟩⟩
 · exact h.fa.agree (fun b hb hlt=>hi.block b hlt (fun hq=>(hQ b hq).2 hb)) (fun g hg=>hi.block g (h.fa.at_ g hg).2 (fun hq=>(h.a1 g hg).2.1 (hQ g hq).1)) hi.size
 · exact h.ro.agree (fun b hb _=>hb.elim) (fun g hg=>hi.block g (h.ro.at_ g hg).2 (fun hq=>(h.a2 g hg).1 (hQ g hq).1)) hi.size
 exact (h.gr n s o).agree (fun b hb _=>hb.elim) (fun g hg=>hi.block g ((h.gr n s o).at_ g hg).2 (fun hq=>(h.a3 n s o g hg).1 (hQ g hq).1)) hi.size
theorem ja2.wider {base:Nat} {S S' T:Nat→Prop} {w:World} {sb mb pb:Nat} {fv rv:Value} {f:Value→Value} {facts:List GA} {rounds:List Nat} {un:ByteArray→Nat→Option (Nat × ByteArray)→List Nat} {nm:Nat} {pm:ByteArray→Option Nat} {np:Nat} (h:ja2 base S T w sb mb pb fv rv f facts rounds un nm pm np) (h1:∀ b,S b→S' b) (h2:∀ b,S' b→T b):ja2 base S' T w sb mb pb fv rv f facts rounds un nm pm np :=
 ⟨h.blk,h.lo,h.fa.sub (Nat.le_refl _) h1,h2,h.ro,h.mp,h.gr,h.pl,h.a1,h.a2,h.a3,h.tb⟩
structure j1j (base:Nat) (S T:Nat→Prop) (stb mb pb:Nat) (facts:List GA) (rounds:List Nat) (num nm np:Nat) (fr:List GA) (ba:Array Value) (n mc:Nat) (Z T0:Nat→Prop) (w0:World) (j:Nat) (w:World):Prop where
 le:j≤fr.length
 st:∃ (fv rv:Value) (f:Value→Value) (nm' np':Nat),ja2 base S T w stb mb pb fv rv f (facts++fr.take j) (rounds++List.replicate j num) (jam (facts++fr.take j)) nm' (pmOf (facts++fr.take j)) np'∧nm'≤nm+2000*j∧np'≤np+j
 ch:∃ s r,w.heap[n+2]? = some (.chan 301 (ba.extract j ba.size) true s r false)
 mp:∃ k,MapN w mc k (cameF (fr.take j))∧(k=0↔fr.take j=[])∧k≤j
 bf:BufR Z w ba fr
 sB:Blk w n 144 #[.pointer (some ⟨stb,0,none⟩)]
 nB:Blk w (n+1) 3 #[.int .i64 (num:Int)]
 st0:Still T0 w0 w
 mlt:mc<w.heap.size
def ju3 (n:Nat) (w:World):Nat:=match w.heap[n+2]? with
 | some (.chan _ b _ _ _ _)=>b.size
 | _=>0
def jis (rules:List GR) (num base:Nat) (S T:Nat→Prop) (w:World) (stb mb pb:Nat) (facts:List GA) (rounds:List Nat) (nm np:Nat) (e:Ending) (w':World):Prop :=
 match jck facts rounds rules [] with
 | none=>e=.returned (.tuple #[.map none,.bool false])∧Ext w w'
 | some fr=>∃ (mc k nm' np':Nat) (fv' rv':Value) (f':Value→Value) (S' T':Nat→Prop),e=.returned (.tuple #[.map (some mc),.bool true])∧ja2 base S' T' w' stb mb pb fv' rv' f' (facts++fr) (rounds++List.replicate fr.length num) (jam (facts++fr)) nm' (pmOf (facts++fr)) np' ∧
     nm'≤nm+2000*fr.length∧np'≤np+fr.length∧MapN w' mc k (cameF fr)∧(k=0↔fr=[])∧w.heap.size≤mc∧(∀ b,T b→T' b)∧(∀ b,T' b→T b∨w.heap.size≤b)∧Still T w w'
theorem jyv (rules:List GR) (v:Value) (num base:Nat) (S T U:Nat→Prop) (w:World) (stb mb pb:Nat) (fv rv:Value) (f:Value→Value) (facts:List GA) (rounds:List Nat) (nm np:Nat)
  (hst:ja2 base S T w stb mb pb fv rv f facts rounds (jam facts) nm (pmOf facts) np) (hv:jal U w v rules) (hU:∀ b,U b→T b) (hfine:∀ r∈rules,Fine r) (hrn:∀ r∈rules,r.head.n.size≤maxLen) (hrules:rules.length≤8) (hf:Facts facts) (hfl:facts.length≤300) (hrl:rounds.length=facts.length) (hnum:num≤1000000) (hnm:nm≤1000000) (hnp:np≤10000) :
  Calls Tryz.prog 160 #[.pointer (some ⟨stb,0,none⟩),v,.int .i64 (num:Int)] w fun e w' =>
   jis rules num base S T w stb mb pb facts rounds nm np e w':=by
 obtain⟨A,c,rfl,hc1,hc2⟩:=jaa.form hv;have HO:=zh hst;have HSR:=zh (hst.toR (lo:=0) ⟨Nat.zero_le _,Nat.zero_le _,Nat.zero_le _⟩);have HFW:=zh (show ∀ b,(S b∨(0≤b∧b<w.heap.size))→b<w.heap.size from fun b hb=>hb.elim (fun h=>(hst.tb b (hst.sub b h)).1) (fun h=>h.2));have HV:=zh hv;have HFI:=zh hfine;have HRN:=zh hrn;have HFF:=zh hf;clear hst hv hfine hrn hf;refine jmi Tryz.func160 rfl ?_;simp only[Tryz.ntmps160,List.size_toArray,List.length_cons,List.length_nil,Nat.reduceAdd,Nat.reduceSub,Array.replicate_succ,Array.replicate_zero,List.push_toArray,List.append_toArray,List.nil_append,List.cons_append];have hmm:= @run_makeMap Tryz.prog;have hmc:=jyu;refine Wn.seq (Wn.of ?_);go_wp2_with fail
 refine Wn.seq (Wn.of ?_);go_wp2_with fail
 refine Wn.seq (Wn.of ?_);go_wp2_with fail
 refine Wn.seq (Wn.of ?_);go_wp2_with fail
 simp only[Nat.add_assoc,Nat.reduceAdd];obtain⟨W,hW⟩:∃ W,W=(((((((w.alloc (.cells #[.pointer (some ⟨stb,0,none⟩)] 144)).alloc (.cells #[.int .i64 (num:Int)] 3)).alloc (.chan 301 #[] false 0 0 false)).alloc (.cells #[.chan (some (w.heap.size+2))] 257)).alloc (.map #[] 0)).alloc (.cells #[.map (some (w.heap.size+4))] 116)).alloc (.cells #[.bool true] 4)):=⟨_,rfl⟩
 have hzW:W.heap.size=w.heap.size+7:=by rw[hW];simp
 have HX:=zh (show Ext w W from by rw[hW];exact (((((((Ext.refl _).alloc _).alloc _).alloc _).alloc _).alloc _).alloc _).alloc _)
 have HR:=zh (show RndR w.heap.size num stb W.heap.size ⟨[],[],true⟩ W from by
  refine⟨Nat.le_of_eq hzW.symm,Nat.le_of_eq hzW.symm,?_,?_,?_,?_,?_,?_,Nat.le_refl _,#[],0,0,fun _=>False,?_,BufR.nil _ _,fun i h=>h.elim⟩
  · rw[hW];exact ((((((Blk.new _ _ _).alloc _).alloc _).alloc _).alloc _).alloc _).alloc _
  · rw[hW];exact (((((Blk.at_new (by simp)).alloc _).alloc _).alloc _).alloc _).alloc _
  · rw[hW];exact (((Blk.at_new (by simp)).alloc _).alloc _).alloc _
  · rw [hW]
    have h:=MapN.made (((((w.alloc (.cells #[.pointer (some ⟨stb,0,none⟩)] 144)).alloc (.cells #[.int .i64 (num:Int)] 3)).alloc (.chan 301 #[] false 0 0 false)).alloc (.cells #[.chan (some (w.heap.size+2))] 257)));have e:((((w.alloc (.cells #[.pointer (some ⟨stb,0,none⟩)] 144)).alloc (.cells #[.int .i64 (num:Int)] 3)).alloc (.chan 301 #[] false 0 0 false)).alloc (.cells #[.chan (some (w.heap.size+2))] 257)).heap.size=w.heap.size+4:=by simp
    rw[e] at h;exact ((h.alloc _).alloc _).same (fun _=>rfl)
  · rw[hW];exact (Blk.at_new (by simp)).alloc _
  · rw[hW];exact Blk.at_new (by simp)
  rw[hW];refine (Below.heap_alloc _ _ _ (by simp)).trans ((Below.heap_alloc _ _ _ (by simp)).trans ((Below.heap_alloc _ _ _ (by simp)).trans ((Below.heap_alloc _ _ _ (by simp)).trans ?_)));have h:=World.alloc_heap_new ((w.alloc (.cells #[.pointer (some ⟨stb,0,none⟩)] 144)).alloc (.cells #[.int .i64 (num:Int)] 3)) (.chan 301 #[] false 0 0 false);have e:((w.alloc (.cells #[.pointer (some ⟨stb,0,none⟩)] 144)).alloc (.cells #[.int .i64 (num:Int)] 3)).heap.size=w.heap.size+2:=by simp
  rw[e] at h;exact h)
 rw[← hW];clear hW hmc;refine Wn.seq (Wn.of ?_);go_wp2_with fail
 go_loopw [19] (fun i wr=>∃ (k:Nat) (fr:List GA),k≤rules.length∧i=.int .i64 k∧Hid (jck facts rounds (rules.take k) []=some fr)∧Hid (RndR w.heap.size num stb wr.heap.size ⟨fr,fr,true⟩ wr)∧Hid (Ext w wr)) (fun i _=>rules.length-(intOf i).toNat)
 case atStart=>exact⟨0,[],Nat.zero_le _,rfl,zh rfl,HR,HX⟩
 case round =>
  obtain⟨k,fr,hk,rfl,hfr,hrr,hxr⟩:=hrel;have hk0:(0:Int)≤(k:Int):=by omega
  by_cases hlt:k<rules.length
  · have hk1:(k:Int)<(rules.length:Int):=by omega
    obtain⟨bs,os,x,tv,bv,rfl,hbs,hxk,hxs,hxt,hxb,d0,d1,d2⟩:=jal.at_ (HV.out.ext hxr.out) hlt;obtain⟨TA,tc,rfl,_,_⟩:=jaa.form hxt;obtain⟨BA,bc,rfl,_,_⟩:=jaa.form hxb;have hxm:=List.mem_of_getElem? hxk;have hfx:=HFI.out x hxm;have HTK:=zh (show rules.take (k+1)=rules.take k++[x] from by rw[List.take_add_one,hxk];rfl);have hfac:=jgl HFF.out hfl (fun r hr=>HFI.out r (List.mem_of_mem_take hr)) hfr.out;have HRS:=zh (jmj facts rounds x (rules.take k) []);obtain⟨w0,hw0⟩:∃ w0,w0=wr.alloc (.cells #[.string x.head.n,.slice TA x.head.args.length tc,.slice BA x.body.length bc] 45):=⟨_,rfl⟩
    have HE0:=zh (show Ext wr w0 from by rw[hw0];exact (Ext.refl _).alloc _);have HB0:=zh (show Blk w0 wr.heap.size 45 #[.string x.head.n,.slice TA x.head.args.length tc,.slice BA x.body.length bc] from by rw[hw0];exact Blk.new _ _ _);have HX0:=zh (hxr.out.trans' HE0.out);have hrsz:=hrr.out.sz;have hsz0:w.heap.size+7≤w0.heap.size:=Nat.le_trans hrsz HE0.out.size;have hff:∀ a∈jcu facts rounds x,factB a=true:=fun a ha=>jij hfx HFF.out ((jgx hfx HFF.out).1 ha)
    have hfeed:=jjw (facts:=facts) HFF.out (l:=jcu facts rounds x) (fr:=fr) hff hfac.1;obtain⟨stf,hstf⟩:∃ stf,stf=(feedA (stepR facts) (jcu facts rounds x) ⟨fr,fr,true⟩).1:=⟨_,rfl⟩
    have hlenF:(jcu facts rounds x).length≤2430000000000:=by
     unfold jcu;rw[List.length_map];refine js5 hfl ?_;show (jcc _ _).length≤4;unfold jcc;rw[List.length_map];exact Nat.le_trans (List.length_filter_le _ _) hfx.few
    have HFO:=zh (show Calls Tryz.prog 208 #[.pointer (some ⟨stb,0,none⟩),.agg #[.string x.head.n,.slice TA x.head.args.length tc,.slice BA x.body.length bc],.func (.func 209) #[] #[.pointer (some ⟨w.heap.size+5,0,none⟩),.pointer (some ⟨w.heap.size,0,none⟩),.pointer (some ⟨w.heap.size+1,0,none⟩),.pointer (some ⟨w.heap.size+6,0,none⟩),.pointer (some ⟨w.heap.size+3,0,none⟩)]] w0
      fun e w'=>e=.returned (.tuple #[])∧(∃ sb,w0.heap.size≤sb∧sb<w'.heap.size∧RndR w.heap.size num stb sb stf w')∧jab (fun b=>(w.heap.size+2≤b∧b<w.heap.size+7)∨w0.heap.size≤b) w0 w' from by
     rw[hstf]
     exact jwg x _ _ w0 (hxt.ext HE0.out) (hxb.ext HE0.out) (HRN.out x hxm) hfx (HSR.out.ext HX0.out) (fun b hb=>Nat.lt_of_lt_of_le (HFW.out b hb) HX0.out.size) hrl HFF.out (fun b=>w.heap.size+2≤b∧b<w.heap.size+7) (fun b hb=>by omega) (fun b hb h=>by have:=HFW.out b hb;omega)
      ⟨fr,fr,true⟩ (fun sb E P _ h1 h2=>jtf (N:=2430000001000) HFW.out hnum (by omega) (by omega) sb E P h1 h2) (fun sb W' hW' hsb=>(hrr.out.move (Nat.le_trans HE0.out.size hsb)).ext (HE0.out.trans' hW')) (by
       show fr.length+_≤_;have:=hfac.2;omega))
    have s0:=(hrr.out.ext HE0.out).sB.cell 0;have sl:=(hrr.out.ext HE0.out).sB.lt;have b0:=HB0.out.cell 0;have b1:=HB0.out.cell 1;have b2:=HB0.out.cell 2;have bl:=HB0.out.lt
    cases hfn:jd0 facts fr (jcu facts rounds x) with
    | none =>
      rw[hfn] at hfeed;have hok:stf.ok=false:=by rw[hstf];exact hfeed
      have HNO:=zh (show jck facts rounds rules []=none from by
       have h:jck facts rounds (rules.take (k+1)) []=none:=by rw[HTK.out,HRS.out,hfr.out];exact hfn
       have h2:=jmk facts rounds (rules.take (k+1)) (rules.drop (k+1)) [] h
       rwa [List.take_append_drop] at h2)
      clear hxk hxt hxb hfx hff hfeed hfac hstf hlenF hfn;rw[hw0] at HFO s0 sl b0 b1 b2 bl
      go_wp2_with (first
       | (go_at_call 208;refine HFO.out.mono ?_;rintro e w2 ⟨rfl,⟨sb2,hsb1,hsb2,hR2⟩,hi2⟩
          have HX2:=zh (show Ext w w2 from hi2.toExt (hw0▸HX0.out) (fun i hi=>by rw[← hw0] at hi;omega));have o0:=hR2.oB.cell 0;have ol:=hR2.oB.lt;rw[hok] at o0;clear hR2 hi2 s0 sl b0 b1 b2 bl d0 d1 d2)
       | fail)
      go_ret2;unfold jis;rw[HNO.out];exact⟨rfl,HX2.out⟩
    | some fr2 =>
      rw[hfn] at hfeed;have hst2:stf=⟨fr2,fr2,true⟩:=by rw[hstf];exact (Prod.ext_iff.1 hfeed).1
      have HNS:=zh (show jck facts rounds (rules.take (k+1)) []=some fr2 from by rw[HTK.out,HRS.out,hfr.out];exact hfn);clear hxk hxt hxb hfx hff hfeed hfac hstf hlenF hfn;rw[hw0,hst2] at HFO;rw[hw0] at s0 sl b0 b1 b2 bl
      go_wp2_with (first
       | (go_at_call 208;refine HFO.out.mono ?_;rintro e w2 ⟨rfl,⟨sb2,hsb1,hsb2,hR2⟩,hi2⟩
          have HX2:=zh (show Ext w w2 from hi2.toExt (hw0▸HX0.out) (fun i hi=>by rw[← hw0] at hi;omega));have o0:=hR2.oB.cell 0;have ol:=hR2.oB.lt;have HR2:=zh hR2;clear hR2 hi2 s0 sl b0 b1 b2 bl d0 d1 d2)
       | fail)
      go_roundw
      case rel=>exact⟨k+1,fr2,by omega,by go_num,HNS,zh (HR2.out.move (Nat.le_refl _)),HX2⟩
      case measure=>simp[intOf];omega
  obtain rfl:k=rules.length:=by omega
  rw[List.take_length] at hfr;obtain⟨hfrf,hfrl⟩:=jgl HFF.out hfl HFI.out hfr.out;obtain⟨ba,sa,ra,Z,hch,hbu,hZ⟩:=hrr.out.buf;have hrsz:=hrr.out.sz;have HFR:=zh hfrf;have f0:=hrr.out.fB.cell 0;have fl:=hrr.out.fB.lt;go_wp2_with fail
  have hcl:=fun ats ty=>run_close_open (P:=Tryz.prog) (w:=wr) ats ty hch
  refine Wn.seq (Wn.of ?_);go_wp2_with fail
  obtain⟨wc,hwc⟩:∃ wc,wc=({ wr with heap:=wr.heap.setIfInBounds (w.heap.size+2) (.chan 301 ba true sa ra false) }:World):=⟨_,rfl⟩
  rw[← hwc];have hzc:wc.heap.size=wr.heap.size:=by rw[hwc];simp
  have hbc:∀ i,i≠w.heap.size+2→wc.heap[i]? = wr.heap[i]? :=fun i hi=>by rw[hwc];simp only;rw[Array.getElem?_setIfInBounds_ne (fun e=>hi e.symm)]
  have hcc:wc.heap[w.heap.size+2]? = some (.chan 301 ba true sa ra false):=by rw[hwc];simp only;rw[Array.getElem?_setIfInBounds_self_of_lt (by omega)]
  have hIc:jab (fun b=>b=w.heap.size+2) wr wc:=⟨by rw[hwc],by rw[hwc],by rw[hwc],Nat.le_of_eq hzc.symm,fun i _ hi=>hbc i hi⟩
  clear hcl hwc f0 fl;have f0:=(hIc.blk hrr.out.fB (by omega)).cell 0;have fl:=(hIc.blk hrr.out.fB (by omega)).lt;refine Wn.seq (Wn.of ?_);go_wp2_with fail
  rename Value=>u29
  obtain⟨wd,hwd⟩:∃ wd,wd=wc.alloc (.map #[] 0):=⟨_,rfl⟩
  have HXD:=zh (show Ext wc wd from by rw[hwd];exact (Ext.refl _).alloc _);have hmd:MapN wd wr.heap.size 0 (fun _=>none):=by rw[hwd,← hzc];exact MapN.made wc
  have hzd:wd.heap.size=wr.heap.size+1:=by rw[hwd,← hzc];simp
  rw[← hwd];clear hwd f0 fl;have g0:=((hIc.blk hrr.out.fB (by omega)).ext HXD.out).cell 0;have gl:=((hIc.blk hrr.out.fB (by omega)).ext HXD.out).lt;refine Wn.seq ?_;refine Wn.seq (Wn.of ?_);go_wp2_with fail
  refine Wn.block ?_;refine Wn.loop (fun a w'=>∃ (j:Nat) (x14 x33 x34 x35 x36 x37 x38 x39 x40 x41 x42 x43 x44:Value),a = { tmps:= #[.pointer (some ⟨stb,0,none⟩),.slice A rules.length c,.int .i64 (num:Int),.pointer (some ⟨w.heap.size,0,none⟩),undef,.pointer (some ⟨w.heap.size+1,0,none⟩),u6,u7,.pointer (some ⟨w.heap.size+3,0,none⟩),.pointer (some ⟨w.heap.size+5,0,none⟩),.pointer (some ⟨w.heap.size+6,0,none⟩),undef,u12,.map (some wr.heap.size),x14,.chan (some (w.heap.size+2)),.map (some (w.heap.size+4)),.slice A rules.length c,.int .i64 (rules.length:Int),.int .i64 (rules.length:Int),.bool false,u21,u22,u23,u24,u25,u26,u27,u28,u29,.chan (some (w.heap.size+2)),.map (some wr.heap.size),.chan (some (w.heap.size+2)),x33,x34,x35,x36,x37,x38,x39,x40,x41,x42,x43,x44,undef],defers:=[] }∧j1j base (fun b=>S b∨Z b) (fun b=>T b∨(w.heap.size≤b∧b<wd.heap.size)) stb mb pb facts rounds num nm np fr ba w.heap.size wr.heap.size Z T w j w') (fun _ w'=>ju3 w.heap.size w') ?_ ?_
  · have hE:Ext w wd:=(hIc.toExt hxr.out (fun i hi=>by omega)).trans' HXD.out
    refine⟨0,_,_,_,_,_,_,_,_,_,_,_,_,_,rfl,⟨Nat.zero_le _,⟨fv,rv,f,nm,np,?_,by omega,by omega⟩,⟨sa,ra,?_⟩,⟨0,hmd.same (fun x=>rfl),⟨fun _=>rfl,fun _=>rfl⟩,Nat.le_refl _⟩,?_,(hIc.blk hrr.out.sB (by omega)).ext HXD.out,(hIc.blk hrr.out.nB (by omega)).ext HXD.out,⟨hE.os,hE.tape,hE.output,hE.size,fun i _ hi=>hE.block i hi⟩,by omega⟩⟩
    · have h:=(HO.out.more hE (T':=fun b=>w.heap.size≤b∧b<wd.heap.size) (fun b hb=>hb)).wider (S':=fun b=>S b∨Z b) (fun b hb=>.inl hb) (fun b hb=>hb.elim (fun h=>.inl (HO.out.sub b h)) (fun h=>.inr ⟨by have:=(hZ b h).1;omega,by have:=(hZ b h).2.1;omega⟩))
      simpa using h
    · rw [Array.extract_size]
      exact (HXD.out.block _ (by omega)).trans hcc
    exact (hbu.imp (fun _ h=>h) (fun b hb hlt=>hIc.block b hlt (fun e=>by have e:b=w.heap.size+2:=e;have:=(hZ b hb).1;omega)) hIc.size).imp (fun _ h=>h) (.of_ext HXD.out) HXD.out.size
  rintro a w' ⟨j,x14,x33,x34,x35,x36,x37,x38,x39,x40,x41,x42,x43,x44,rfl,hD⟩;have hbs:ba.size=fr.length:=hD.bf.1;by_cases hj:j<fr.length
  · obtain ⟨v,hbv,hvt,hla⟩:=hD.bf.2 j fr[j] (List.getElem?_eq_getElem hj)
    obtain⟨VA,vc,rfl,_,_⟩:=jaa.form hvt;obtain⟨sx,rx,hch2⟩:=hD.ch;obtain⟨ga,hga⟩:∃ ga,ga=fr[j]:=⟨_,rfl⟩
    rw[← hga] at hbv hvt hla
    have hget:(ba.extract j ba.size).getD 0 undef=.agg #[.string ga.n,.slice VA ga.args.length vc]:=by
     rw[Array.getD_eq_getD_getElem?,Array.getElem?_extract];simp only[Nat.add_zero,Nat.zero_add];rw[if_pos (by omega),hbv]
     rfl
    have HTJ:=zh (show fr.take (j+1)=fr.take j++[ga] from by rw[hga,List.take_succ_eq_append_getElem hj]);clear hga;refine Wn.seq ?_;refine Wn.region ?_;simp only[List.size_toArray,List.length_cons,List.length_nil,Nat.reduceAdd,Nat.zero_add,List.range,List.range.loop];refine WnOps.recv (c:=w.heap.size+2) (z:=.agg #[.string ⟨#[]⟩,.slice none 0 0]) (w':=w') true rfl (by rfl) (by simp[go_sem,rcase]) hch2 (by simp;omega) ?_;rw[hget];simp only[got,if_true,List.getElem_toArray,List.getElem_cons_succ,List.getElem_cons_zero,Act.put,List.setIfInBounds_toArray,List.set_cons_zero,List.set_cons_succ];obtain⟨w1,hw1⟩:∃ w1,w1=w'.setChan (w.heap.size+2) 301 ((ba.extract j ba.size).extract 1 (ba.extract j ba.size).size) true sx (rx+1) false:=⟨_,rfl⟩
    have hn4:w.heap.size+2<w'.heap.size:=(Array.getElem?_eq_some_iff.1 hch2).1
    have hc1':w1.heap[w.heap.size+2]? = some (.chan 301 (ba.extract (j+1) ba.size) true sx (rx+1) false):=by
     rw[hw1,heap_setChan w' _ _ _ _ _ _ _ hn4]
     congr 2
     rw[Array.extract_extract]
     congr 1
     simp;omega
    have hz1:w1.heap.size=w'.heap.size:=by rw[hw1];exact size_setChan _ _ _ _ _ _ _ _
    have hb1:∀ i,i≠w.heap.size+2→w1.heap[i]? = w'.heap[i]? :=fun i hi=>by
     rw[hw1];simp only[World.setChan];rw[Array.getElem?_setIfInBounds_ne (fun e=>hi e.symm)]
    have hI1:jab (fun b=>b=w.heap.size+2) w' w1:=⟨by rw[hw1];rfl,by rw[hw1];rfl,by rw[hw1];rfl,Nat.le_of_eq hz1.symm,fun i _ hi=>hb1 i hi⟩
    have HZ1:=zh hz1;rw[← hw1];clear hw1 hz1;refine WnOps.value (v:=.bool true) (w':=w1) rfl (by rfl) (by go_simp) ?_;simp only[List.getElem_toArray,List.getElem_cons_succ,List.getElem_cons_zero,Act.put,List.setIfInBounds_toArray,List.set_cons_zero,List.set_cons_succ];refine WnOps.nil ?_;simp only[Exit.then];refine Wn.seq ?_;refine Wn.cond (t:=true) rfl ?_;simp only[if_true];refine Wn.of (wp_skip ?_);simp only[Exit.then];refine Wn.of ?_;obtain⟨fv',rv',f',nm',np',hst,hnm',hnp'⟩:=hD.st;have hTl:∀ b,(S b∨Z b)→b<w.heap.size∨w.heap.size+7≤b:=fun b hb=>hb.elim (fun h=>.inl ((HO.out.tb b (HO.out.sub b h)).1)) (fun h=>.inr (hZ b h).1)
    have hst1:=hst.inside hI1 (fun b hb=>by subst hb;exact⟨.inr ⟨by omega,by omega⟩,fun h=>by rcases hTl _ h with h|h<;>omega⟩);obtain⟨w2,hw2⟩:∃ w2,w2=w1.alloc (.cells #[.string ga.n,.slice VA ga.args.length vc] 43):=⟨_,rfl⟩
    have hE2:Ext w1 w2:=by rw[hw2];exact (Ext.refl _).alloc _
    have hst2:=hst1.more hE2 (T':=fun b=>b=w1.heap.size) (fun b hb=>by subst hb;rw[hw2];simp);have hB2:Blk w2 w1.heap.size 43 #[.string ga.n,.slice VA ga.args.length vc]:=by rw[hw2];exact Blk.new _ _ _
    have hI2:jab (fun b=>b=w.heap.size+2) w' w2:=hI1.trans' (jab.of_ext hE2);have hv2:=hvt.impL (S':=fun b=>S b∨Z b) (fun b hb _=>.inr hb) (fun b hb hlt=>hI2.block b hlt (fun e=>by have e:b=w.heap.size+2:=e;have:=(hZ b hb).1;omega)) hI2.size;have hnl:nm'≤10000000:=by omega
    have HPT:=zh (jxk ga _ num base _ _ w2 stb mb pb fv' rv' f' _ _ nm' _ np' hst2 hv2 hla.n hla.args hla.w (by simp;omega) (by simp;omega) hnl (by omega));have s0:=(hI2.blk hD.sB (by omega)).cell 0;have sl:=(hI2.blk hD.sB (by omega)).lt;have n0:=(hI2.blk hD.nB (by omega)).cell 0;have nl:=(hI2.blk hD.nB (by omega)).lt;have b0:=hB2.cell 0;have b1:=hB2.cell 1;have bl:=hB2.lt;have hmc:wr.heap.size<w'.heap.size:=hD.mlt;obtain⟨kk,hmp,hk0',hkj⟩:=hD.mp;obtain⟨gd,hgd⟩:∃ gd,gd=(cameF (fr.take j) ga.n).getD 0:=⟨_,rfl⟩
    have hgl:gd≤300:=by
     rw[hgd];unfold cameF;split
     · show (List.filter _ _).length≤300
       exact Nat.le_trans (List.length_filter_le _ _) (by rw[List.length_take];omega)
     exact Nat.zero_le _
    have HGD:=zh hgd;clear hgd;rw[hw2] at HPT s0 sl n0 nl b0 b1 bl
    go_wp2_with (first
     | (go_at_call 206;refine HPT.out.mono ?_;rintro e w3 ⟨rfl,⟨fv3,rv3,f3,nm3,np3,hst3,hnm3,hnp3⟩,hs3⟩
        rw[← hw2] at hs3;have hmp3:MapN w3 wr.heap.size kk (cameF (fr.take j)):=hmp.ext ((hs3.block _ (.inl (.inr ⟨by omega,by omega⟩)) (Nat.lt_of_lt_of_le hmc hI2.size)).trans (hI2.block _ hmc (by show ¬ wr.heap.size=w.heap.size+2;omega)));have hB3:Blk w3 w1.heap.size 43 #[.string ga.n,.slice VA ga.args.length vc]:=(hs3.block _ (.inr rfl) hB2.lt).trans hB2;have q0:=hB3.cell 0;have ql:=hB3.lt;clear s0 sl n0 nl b0 b1 bl)
     | (at_lookup;refine jfq _ rfl _ _ rfl wr.heap.size kk (cameF (fr.take j)) rfl hmp3 ga.n rfl hla.n ?_;rw[← HGD.out])
     | (at_mapUpdate;refine jf2 _ rfl _ _ _ rfl wr.heap.size kk (cameF (fr.take j)) rfl hmp3 (by omega) ga.n rfl hla.n (gd+1) rfl (by omega) ?_;intro w4 hm4 hg4)
     | fail)
    have hblk:∀ i,(T i∨(w.heap.size≤i∧i<wd.heap.size))→i<w'.heap.size→i≠w.heap.size+2→i≠wr.heap.size→w4.heap[i]? = w'.heap[i]? :=fun i hT hi h1 h2 =>
     (hg4.block i (Nat.lt_of_lt_of_le hi (Nat.le_trans hI2.size hs3.size)) (fun e=>h2 (by injection e))).trans ((hs3.block i (.inl hT) (Nat.lt_of_lt_of_le hi hI2.size)).trans (hI2.block i hi h1))
    have hsz4:w'.heap.size≤w4.heap.size:=Nat.le_trans hI2.size (Nat.le_trans hs3.size hg4.size);have hwd':wd.heap.size≤w'.heap.size:=by omega
    have hc4:w4.heap[w.heap.size+2]? = some (.chan 301 (ba.extract (j+1) ba.size) true sx (rx+1) false) :=
     (hg4.block _ (Nat.lt_of_lt_of_le hn4 (Nat.le_trans hI2.size hs3.size)) (fun e=>by injection e with e;omega)).trans ((hs3.block _ (.inl (.inr ⟨by omega,by omega⟩)) (Nat.lt_of_lt_of_le hn4 hI2.size)).trans ((hE2.block _ (by rw[HZ1.out];exact hn4)).trans hc1'))
    refine⟨⟨j+1,_,_,_,_,_,_,_,_,_,_,_,_,_,rfl,⟨by omega,⟨fv3,rv3,f3,nm3,np3,?_,by omega,by omega⟩,⟨sx,rx+1,hc4⟩,⟨if (cameF (fr.take j) ga.n).isSome=true then kk else kk+1,?_,?_,?_⟩,?_,?_,?_,?_,Nat.lt_of_lt_of_le hmc hsz4⟩⟩,?_⟩
    · have h1:=(hst3.less (T':=fun b=>T b∨(w.heap.size≤b∧b<wd.heap.size)) (fun b hb=>.inl hb) hst.sub)
      have h2:ja2 base (fun b=>S b∨Z b) (fun b=>T b∨(w.heap.size≤b∧b<wd.heap.size)) w4 _ _ _ _ _ _ _ _ _ _ _ _:=h1.inside (Q:=fun b=>b=wr.heap.size) ⟨hg4.os,hg4.tape,hg4.output,hg4.size,fun i hi hne=>hg4.block i hi (fun e=>hne (by injection e))⟩ (fun b hb=>by
       subst hb;refine⟨.inr ⟨by omega,by omega⟩,fun h=>?_⟩;rcases h with h|h
       · have:=(HO.out.tb _ (HO.out.sub _ h)).1;omega
       have:=(hZ _ h).2.1;omega)
      rw[HTJ.out,← List.append_assoc,jqq,List.replicate_succ',← List.append_assoc];exact h2
    · rw [HTJ.out,jwk,← HGD.out]
      exact hm4
    · rw [HTJ.out]
      have hne:¬ (fr.take j++[ga]=[]):=by simp
      refine⟨fun h=>?_,fun h=>absurd h hne⟩;split at h
      · rename_i hs
        have:=hk0'.1 h;rw[this] at hs;simp[cameF] at hs
      omega
    · split<;>omega
    · exact hD.bf.imp (fun _ h=>h) (fun b hb hlt=>hblk b (.inr ⟨by have:=(hZ b hb).1;omega,by have:=(hZ b hb).2.1;omega⟩) hlt (by have:=(hZ b hb).1;omega) (by have:=(hZ b hb).2.1;omega)) hsz4
    · exact (hblk _ (.inr ⟨by omega,by omega⟩) hD.sB.lt (by omega) (by omega)).trans hD.sB
    · exact (hblk _ (.inr ⟨by omega,by omega⟩) hD.nB.lt (by omega) (by omega)).trans hD.nB
    · have h0:=hD.st0
      refine⟨hg4.os.trans (hs3.os.trans (hI2.os.trans h0.os)),hg4.tape.trans (hs3.tape.trans (hI2.tape.trans h0.tape)),hg4.output.trans (hs3.output.trans (hI2.output.trans h0.output)),Nat.le_trans h0.size hsz4,fun i hT hi=>?_⟩;exact (hblk i (.inl hT) (Nat.lt_of_lt_of_le hi h0.size) (by omega) (by omega)).trans (h0.block i hT hi)
    unfold ju3;rw[hc4,hch2];simp;omega
  obtain rfl:j=fr.length:=by have:=hD.le;omega
  obtain⟨sx,rx,hch2⟩:=hD.ch;have hemp:ba.extract fr.length ba.size = #[]:=by rw[← hbs];simp
  rw[hemp] at hch2;refine Wn.seq ?_;refine Wn.region ?_;simp only[List.size_toArray,List.length_cons,List.length_nil,Nat.reduceAdd,Nat.zero_add,List.range,List.range.loop];refine WnOps.shut (c:=w.heap.size+2) (z:=.agg #[.string ⟨#[]⟩,.slice none 0 0]) (w':=w') true rfl (by rfl) (by simp[go_sem,rcase]) hch2 ?_;simp only[got,if_true,List.getElem_toArray,List.getElem_cons_succ,List.getElem_cons_zero,Act.put,List.setIfInBounds_toArray,List.set_cons_zero,List.set_cons_succ];refine WnOps.value (v:=.bool false) (w':=w') rfl (by rfl) (by go_simp) ?_;simp only[List.getElem_toArray,List.getElem_cons_succ,List.getElem_cons_zero,Act.put,List.setIfInBounds_toArray,List.set_cons_zero,List.set_cons_succ];refine WnOps.nil ?_;simp only[Exit.then];refine Wn.seq ?_;refine Wn.cond (t:=false) rfl ?_;simp only[Bool.false_eq_true,if_false];refine Wn.of (wp_exit ?_);simp only[Exit.then,Exit.inBlock,if_true];refine Wn.of ?_;go_wp2_with fail
  go_ret2;unfold jis;rw[hfr.out];obtain⟨fv',rv',f',nm',np',hst,hnm',hnp'⟩:=hD.st;obtain⟨kk,hmp,hk0',hkj⟩:=hD.mp;rw[List.take_length] at hst hmp hk0';exact⟨wr.heap.size,kk,nm',np',fv',rv',f',_,_,rfl,hst,hnm',hnp',hmp,hk0',by omega,fun b hb=>.inl hb,fun b hb=>hb.imp id (fun h=>h.1),hD.st0⟩
end Go.Proofs.YthdojieomhighaaGreatDoor
namespace Go.Proofs.YthdojieomhighaaGreatDoor
open Go.RowKit
def jfg (fr:List GA) (p:GP):Bool:= !p.no && fr.any fun a=>decide (a.n=p.atom.n)
theorem j05 (fr:List GA) (r:GR):jda fr r=r.body.any (jfg fr):=rfl
theorem jyw (fr:List GA) (x:ByteArray):(0<(cameF fr x).getD 0)↔fr.any (fun a=>decide (a.n=x))=true:=by
 unfold cameF;by_cases h:fr.any (fun a=>decide (a.n=x))=true
 · rw [if_pos h]
   simp only[Option.getD_some,h,iff_true];obtain⟨a,ha,hx⟩:=List.any_eq_true.1 h;exact List.length_pos_of_mem (List.mem_filter.2 ⟨ha,hx⟩)
 rw[if_neg h];simp[h]
theorem jg6 {P:Program} {ops:Array Oper} {Q:Exit→Act→World→Prop} {a:Act} {w:World} {rest:List Oper} {o:Oper}
  (hw:Region.wanted o (yielded ops a.tmps)=true) (h:wpList P ops Q ({ o with guard:=none } :: rest) a w):wpList P ops Q (o :: rest) a w:=by
 simp only[wpList] at h ⊢;rw[if_pos hw];rw[if_pos (show Region.wanted { o with guard:=none } (yielded ops a.tmps)=true from rfl)] at h;exact h
theorem jml:∀ args w,(callFunc 213 args).run Tryz.prog w=.ok (.enter 213 args) w:=enters_of Tryz.func213 (by kernel_rfl) (by rfl)
theorem jrt (p:GP) (v:Value) (cb mc k:Nat) (fr:List GA) (w:World) {S:Nat→Prop} (hv:jae S w v p.atom.args) (hn:p.atom.n.size≤maxLen) (hc:w.cell? ⟨cb,0,none⟩=some (.map (some mc))) (hm:MapN w mc k (cameF fr)) :
  Calls Tryz.prog 213 #[.agg #[.bool p.no,.string p.atom.n,v],.pointer (some ⟨cb,0,none⟩)] w fun e w'=>e=.returned (.bool (jfg fr p))∧Ext w w':=by
 obtain⟨A,c,rfl,hc1,hc2⟩:=jaa.form hv;have hcb:=jcm hc;obtain⟨gd,hgd⟩:∃ gd,gd=(cameF fr p.atom.n).getD 0:=⟨_,rfl⟩
 have hpos:=jyw fr p.atom.n;rw[← hgd] at hpos;have HGD:=zh hgd;have HM:=zh hm;clear hgd hv hm
 cases hno:p.no with
 | true =>
   have HT:=zh (show jfg fr p=false from by unfold jfg;rw[hno];rfl);clear hpos
   go_enter Tryz.func213,Tryz.ntmps213;go_wp2_with fail
   go_ret;rw[HT.out];exact⟨rfl,(Ext.refl _).alloc _⟩
 | false =>
   cases hx:fr.any (fun a=>decide (a.n=p.atom.n)) with
   | true =>
     have HT:=zh (show jfg fr p=true from by unfold jfg;rw[hno,hx];rfl);have hg:(0:Int)<(gd:Int):=by have:=hpos.2 hx;omega
     clear hpos hx
     go_enter Tryz.func213,Tryz.ntmps213;go_wp2_with (first|(at_lookup;go_loud (refine jg6 (by rfl) ?_;refine jfq _ rfl _ _ rfl mc k (cameF fr) rfl (HM.out.alloc _) p.atom.n rfl hn ?_;rw[← HGD.out]))|fail)
     go_ret;rw[HT.out];exact⟨ja6 (decide_eq_true (show (0:Nat)<gd by omega)),(Ext.refl _).alloc _⟩
   | false =>
     have HT:=zh (show jfg fr p=false from by unfold jfg;rw[hno,hx];rfl)
     have hg:¬ (0:Int)<(gd:Int):=by
      intro h;have:=hpos.1 (by omega);rw[hx] at this;cases this
     clear hpos hx
     go_enter Tryz.func213,Tryz.ntmps213;go_wp2_with (first|(at_lookup;go_loud (refine jg6 (by rfl) ?_;refine jfq _ rfl _ _ rfl mc k (cameF fr) rfl (HM.out.alloc _) p.atom.n rfl hn ?_;rw[← HGD.out]))|fail)
     go_ret;rw[HT.out];exact⟨ja6 (decide_eq_false (show ¬ (0:Nat)<gd by omega)),(Ext.refl _).alloc _⟩
theorem jm1 (v:Value) (xs:List GP) (cb mc n:Nat) (fr:List GA) (w:World) (ba:Bool) (hba:xs.any (jfg fr)=ba) {S:Nat→Prop} (hv:jao S w v xs) (hc:w.cell? ⟨cb,0,none⟩=some (.map (some mc))) (hm:MapN w mc n (cameF fr)) :
  Calls Tryz.prog 278 #[v,.func (.func 213) #[] #[.pointer (some ⟨cb,0,none⟩)]] w fun e w'=>(∃ z:Int,e=.returned (.int .i64 z)∧(ba=false→z<0)∧(ba=true→0≤z))∧Ext w w':=by
 obtain⟨A,c,rfl,hc1,hc2⟩:=jaa.form hv;have HV:=zh hv;have HC:=zh hc;have HM:=zh hm;have HB:=zh hba;clear hv hc hm hba;have eg:=jml
 go_enter Tryz.func278,Tryz.ntmps278;go_wp2;go_loopw [8] (fun i wr=>∃ k:Nat,k≤xs.length∧i=.int .i64 k∧Hid ((xs.take k).any (jfg fr)=false)∧Ext w wr) (fun i _=>xs.length-(intOf i).toNat)
 case atStart=>exact⟨0,Nat.zero_le _,rfl,zh rfl,Ext.refl _⟩
 case round =>
  obtain⟨k,hk,rfl,hp,hx⟩:=hrel;have hk0:(0:Int)≤(k:Int):=by omega
  by_cases hlt:k<xs.length
  · have hk1:(k:Int)<(xs.length:Int):=by omega
    obtain⟨b,off,x,tv,rfl,hb,hxk,hxs,ht,p0,p1,p2⟩:=jao.at_ (HV.out.ext hx) hlt;obtain⟨C,e,rfl,he1,he2⟩:=jaa.form ht;have HW:=zh (jrt x _ cb mc n fr wr ht hxs ((hx.cells.1 cb 0 (jcm HC.out)).trans HC.out) (HM.out.ext (hx.block _ HM.out.lt)));obtain⟨tb,htb⟩:∃ tb,tb=jfg fr x:=⟨_,rfl⟩
    rw[← htb] at HW;have HTS:=zh (show (xs.take (k+1)).any (jfg fr)=tb from by rw[List.take_add_one,hxk,List.any_append,hp.out,htb];simp);have HTA:=zh (show tb=true→ba=true from fun h=>HB.out.symm.trans (List.any_eq_true.2 ⟨x,List.mem_of_getElem? hxk,by rw[← htb];exact h⟩));clear hxk ht htb;cases tb
    · clear HTA
      go_wp2_with (go_at_fn 213;refine HW.out.mono ?_;rintro e w1 ⟨rfl,hx1⟩)
      go_roundw
      case rel=>exact⟨k+1,by omega,by go_num,HTS,hx.trans' hx1⟩
      case measure=>simp[intOf];omega
    have HTZ:=HTA.out rfl;clear HTA HTS;subst HTZ;go_wp2_with (go_at_fn 213;refine HW.out.mono ?_;rintro e w1 ⟨rfl,hx1⟩)
    go_ret
    first|exact⟨⟨k,rfl,Int.natCast_nonneg _⟩,hx.trans' hx1⟩|exact⟨⟨k,rfl,fun h=>by first|(exact absurd h (by decide))|(cases h),fun _=>Int.natCast_nonneg _⟩,hx.trans' hx1⟩
  have hk1:¬ (k:Int)<(xs.length:Int):=by omega
  obtain rfl:k=xs.length:=by omega
  have HZ:=hp.out;rw[List.take_length] at HZ;have HZZ:=HB.out.symm.trans HZ;clear HZ;subst HZZ;go_wp2;go_ret
  first|exact⟨⟨-1,rfl,by decide⟩,hx⟩|exact⟨⟨-1,rfl,fun _=>by decide,fun h=>by first|(exact absurd h (by decide))|(cases h)⟩,hx⟩
theorem jjx (v:Value) (xs:List GP) (cb mc n:Nat) (fr:List GA) (w:World) (ba:Bool) (hba:xs.any (jfg fr)=ba) {S:Nat→Prop} (hv:jao S w v xs) (hc:w.cell? ⟨cb,0,none⟩=some (.map (some mc))) (hm:MapN w mc n (cameF fr)) :
  Calls Tryz.prog 212 #[v,.func (.func 213) #[] #[.pointer (some ⟨cb,0,none⟩)]] w fun e w'=>e=.returned (.bool ba)∧Ext w w':=by
 obtain⟨A,c,rfl,hc1,hc2⟩:=jaa.form hv;have HI:=zh (jm1 _ xs cb mc n fr w ba hba hv hc hm);clear hv hc hm hba;cases ba
 · go_enter Tryz.func212,Tryz.ntmps212
   go_wp2_with (go_at_call 278;refine HI.out.mono ?_;rintro e w1 ⟨⟨z,rfl,h1,h2⟩,hx1⟩;have hz:=h1 rfl;clear h1 h2)
   go_ret;exact⟨ja6 (by first|(simp;done)|(simp;omega)),hx1⟩
 go_enter Tryz.func212,Tryz.ntmps212;go_wp2_with (go_at_call 278;refine HI.out.mono ?_;rintro e w1 ⟨⟨z,rfl,h1,h2⟩,hx1⟩;have hz:=h2 rfl;clear h1 h2)
 go_ret;exact⟨ja6 (by first|(simp;done)|(simp;omega)),hx1⟩
theorem jks:(Tryz.prog.info? 45).map (fun i=>(i.zero,i.size,i.bytes))=some (some (.agg #[.string ByteArray.empty,.slice none 0 0,.slice none 0 0]),3,64):=by kernel_rfl
theorem jmm (v:Value) (l:List GR) (mc n:Nat) (fr:List GA) (w:World) {S:Nat→Prop} (hv:jal S w v l) (hm:MapN w mc n (cameF fr)) (hn:l.length≤4194304) :
  Calls Tryz.prog 161 #[v,.map (some mc)] w fun e w'=>(∃ u,e=.returned u∧jal (fun b=>((S b∧b<w.heap.size)∨w.heap.size≤b)∧b<w'.heap.size) w' u (l.filter (jda fr)))∧Ext w w':=by
 obtain⟨j0,hj0,hy0,hy1,hy2⟩:=info_parts jks;obtain⟨A,c,rfl,hc1,hc2⟩:=jaa.form hv;have HV:=zh (show jal (fun b=>S b∧b<w.heap.size) w (.slice A l.length c) l from ListK.low (k:=kRule) hv);have HM:=zh hm;have hml:=hm.lt;clear hv hm;obtain⟨W,hW⟩:∃ W,W=w.alloc (.cells #[.map (some mc)] 116):=⟨_,rfl⟩
 have HX:=zh (show Ext w W from by rw[hW];exact (Ext.refl _).alloc _);have HB:=zh (show Blk W w.heap.size 116 #[.map (some mc)] from by rw[hW];exact Blk.new _ _ _)
 go_enter Tryz.func161,Tryz.ntmps161;go_wp2;rw[← hW];go_loopw [5,10] (fun v i wr=>∃ k:Nat,k≤l.length∧i=.int .i64 k∧Hid (OwnK kRule W.heap.size 45 (fun b=>S b∧b<w.heap.size) wr v ((l.take k).filter (jda fr)))∧Ext W wr) (fun _ i _=>l.length-(intOf i).toNat)
 case atStart=>exact⟨0,Nat.zero_le _,rfl,OwnK.nil,Ext.refl _⟩
 case round =>
  obtain⟨k,hk,rfl,ho,hx⟩:=hrel;obtain⟨A0,n0,c0,rfl,hn0,ha0,hb0⟩:=ho.out.form2;have hsz:=hx.size;have hszW:=HX.out.size;have hk0:(0:Int)≤(k:Int):=by omega
  by_cases hlt:k<l.length
  · obtain ⟨b,off,x,v1,u1,rfl,hb,hxk,hxs,ht,hu,p0,p1,p2⟩:=jal.at_ (HV.out.ext (HX.out.trans' hx)) hlt
    obtain⟨A1,c1,rfl,ha1,hb1⟩:=jaa.form ht;obtain⟨B1,d1,rfl,hd1,hd2⟩:=jaa.form hu;have hbl:((l.take k).filter (jda fr)).length≤k:=Nat.le_trans (List.length_filter_le _ _) (by rw[List.length_take];omega);have hk1:(k:Int)<(l.length:Int):=by omega
    obtain⟨tb,htb⟩:∃ tb,tb=jda fr x:=⟨_,rfl⟩
    have HK:=zh (show (l.take (k+1)).filter (jda fr)=(l.take k).filter (jda fr)++(if tb then [x] else []) from by
     rw[List.take_add_one,hxk,List.filter_append,htb]
     congr 1
     simp[List.filter_cons])
    have HT:=zh ht;have HU:=zh hu;have HC:=zh (fun (W':World) (hW':Ext wr W')=>jjx _ x.body w.heap.size mc n fr W' tb (by rw[htb];exact (j05 fr x).symm) (HU.out.ext hW') ((HB.out.ext (hx.trans' hW')).cell 0) (HM.out.ext ((HX.out.trans' (hx.trans' hW')).block _ HM.out.lt)));clear hxk ht hu htb;cases tb
    · go_wp2_with (go_at_call 212;refine (HC.out _ ((Ext.refl _).alloc _)).mono ?_;rintro e w1 ⟨rfl,hx1⟩)
      go_roundw
      case rel=>exact⟨k+1,by omega,by go_num,zh (by rw[HK.out];simpa using ho.out.ext (((Ext.refl _).alloc _).trans' hx1)),hx.trans' (((Ext.refl _).alloc _).trans' hx1)⟩
      case measure=>simp[intOf];omega
    go_wp2_with (first
      | (go_at_call 212;refine (HC.out _ ((Ext.refl _).alloc _)).mono ?_;rintro e w1 ⟨rfl,hx1⟩;have HX1:=zh (((Ext.refl wr).alloc (.cells #[.string x.head.n,.slice A1 x.head.args.length c1,.slice B1 x.body.length d1] 45)).trans' hx1);have HB1:=zh ((Blk.new wr 45 #[.string x.head.n,.slice A1 x.head.args.length c1,.slice B1 x.body.length d1]).ext hx1);have q0:=HB1.out.cell 0;have q1:=HB1.out.cell 1;have q2:=HB1.out.cell 2;have ql:=HB1.out.lt)
      | (at_builtin;refine jcn (k:=kRule) (S:=fun b=>S b∧b<w.heap.size) (T:=fun b=>S b∧b<w.heap.size) rfl (.tmp 18) (.tmp 20) 29 (by rfl) j0 _ 64 Tryz.underlying29 hj0 hy0 hy1 hy2 (by rfl) (by rfl) (ho.out.ext (HX1.out.alloc _)) _ 1 1 (by rfl) (jas.one (k:=kRule) (x:=x) (Blk.new _ _ _) ⟨_,_,rfl,hxs,HT.out.ext (HX1.out.alloc _),HU.out.ext (HX1.out.alloc _)⟩) (fun _ hb _=>hb) (fun g hg hT=>absurd (ho.out.at_ g hg).1 (Nat.not_le.2 (Nat.lt_of_lt_of_le hT.2 hszW))) (maxOf (by omega)) (by omega) (Nat.le_trans (hx.trans' HX1.out).size (by go_size)) ?_;intro v3 w3 hap))
    go_roundw
    case rel=>exact⟨k+1,by omega,by go_num,zh (by rw[HK.out];exact hap.own),hap.toExt ((hx.trans' HX1.out).alloc _) (Nat.le_refl _)⟩
    case measure=>simp[intOf];omega
  have HK:=zh (show l.take k=l from List.take_of_length_le (by omega));go_wp2;go_ret;have h1:=ListK.low (k:=kRule) (ho.out.list (S':=fun b=>(S b∧b<w.heap.size)∨w.heap.size≤b) (fun _ h=>.inl h) (fun _ h=>.inr (Nat.le_trans hszW h)));rw[HK.out] at h1;exact⟨⟨_,rfl,h1⟩,HX.out.trans' hx⟩
end Go.Proofs.YthdojieomhighaaGreatDoor
