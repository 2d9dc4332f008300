/- Own texts, joined. -/
import Derived.Test.YthiflhkcpanaaaaGreatDoorDas31
set_option linter.unusedSimpArgs false
set_option linter.unusedVariables false
set_option maxHeartbeats 8000000
set_option maxRecDepth 100000
namespace Go.Proofs.YthiflhkcpanaaaaGreatDoor
open Go.RowKit Go.Conc
/-! ### In plain words -/
structure RS where
 sn:List GA
 fr:List GA
 ok:Bool
def stepR (facts:List GA) (st:RS) (a:GA):RS × Bool :=
 if jcg st.sn a || jcg facts a then (st,true) else if facts.length+(st.sn.length+1)<=300 then (⟨st.sn++[a],st.fr++[a],true⟩,true) else (⟨st.sn++[a],st.fr,false⟩,false)
theorem jxt (facts:List GA) (st:RS) (a:GA):(stepR facts st a).1.sn.length<=st.sn.length+1:=by
 unfold stepR;split
 . exact Nat.le_succ _
 split<;>simp
def seenF (num:Nat) (sn:List GA) (s:ByteArray):Option Nat:=if sn.any (fun b=>decide (s=strOf (atomL b))) then some num else none
theorem j0b (num:Nat) (sn:List GA) (a:GA):(seenF num sn (strOf (atomL a))).isSome=jcg sn a:=by
 unfold seenF jcg;split
 . rename_i h;rw[h];rfl
 rename_i h;simp only[Bool.not_eq_true] at h;rw[h];rfl
theorem jxu (num:Nat) (sn:List GA) (a:GA):(fun x=>if x=strOf (atomL a) then some num else seenF num sn x)=seenF num (sn++[a]):=by
 funext x
 unfold seenF;rw[List.any_append];by_cases h:x=strOf (atomL a)
 . simp[h]
 simp[h]
theorem jj7 {facts:List GA} (hf:∀ a∈facts,factB a=true):∀ {l fr:List GA},(∀ a∈l,factB a=true)->(∀ a∈fr,factB a=true) ->
  match jd8 facts fr l with
  | some fr'=>feedA (stepR facts) l ⟨fr,fr,true⟩=(⟨fr',fr',true⟩,true)
  | none=>(feedA (stepR facts) l ⟨fr,fr,true⟩).1.ok=false
 | [],fr,_,_=>by simp[jd8,feedA]
 | a :: l,fr,hl,hfr=>by
   have ha:=hl a List.mem_cons_self;have hl':∀ x∈l,factB x=true:=fun x hx=>hl x (List.mem_cons_of_mem _ hx)
   have e1:jcg fr a=fr.any (sameA a):=jgt hfr ha;have e2:jcg facts a=facts.any (sameA a):=jgt hf ha;simp only[jd8,feedA];by_cases hc:(facts.any (sameA a) || fr.any (sameA a))=true
   . rw [if_pos hc]
     have hs:stepR facts ⟨fr,fr,true⟩ a=(⟨fr,fr,true⟩,true):=by
      unfold stepR;rw[if_pos (by rw[e1,e2,Bool.or_comm];exact hc)]
     rw[hs];exact jj7 hf hl' hfr
   rw[if_neg hc]
   have hs:stepR facts ⟨fr,fr,true⟩ a=if facts.length+(fr.length+1)<=300 then (⟨fr++[a],fr++[a],true⟩,true) else (⟨fr++[a],fr,false⟩,false):=by
    unfold stepR;rw[if_neg (by rw[e1,e2,Bool.or_comm];exact hc)]
   rw[hs];by_cases hle:facts.length+(fr.length+1)<=300
   . rw [if_pos hle,if_pos hle]
     exact jj7 hf hl' (fun x hx=>(List.mem_append.1 hx).elim (hfr x) (fun h=>by simp at h;rw[h];exact ha))
   rw[if_neg hle,if_neg hle];rfl
/-! ### Where it lies -/
theorem jf8 (w:World) {ops:Array Oper} {rest:List Oper} {o:Oper} {a:Act} {Q:Exit->Act->World->Prop} (hg:o.guard=none) (m x v:Operand) (hop:o.op=Op.mapUpdate 187 m x v) (B n:Nat) (f:ByteArray->Option Nat) (hm:a.eval m=.map (some B)) (hown:MapN w B n f) (hn:n<=100000000000000) (s:ByteArray) (hx:a.eval x=.string s) (hs:s.size<=maxLen) (k:Nat) (hv:a.eval v=.int .i64 ((k:Nat):Int)) (hk:k<=1000000)
  (hK:∀ w',MapN w' B (if (f s).isSome then n else n+1) (fun x=>if x=s then some k else f x)->w.grownBy w' (some B)->wpList Tryz.prog ops Q rest (a.put o.dst undef) w'):wpList Tryz.prog ops Q (o :: rest) a w:=by
 obtain⟨D,h1,h2,h3⟩:=hown;refine wpList_mapUpdate_own w hg m x v _ hop 9 3 jl3 Tryz.underlying187 _ B n D hm h1 (by unfold maxLen;omega) _ _ _ hx hv (Go.WideMaps.keyOf_string_mk Tryz.underlying9 hs) _ [] (plainElem_int Tryz.underlying3 (WalkArith.wf_i64 (by omega))) ?_;intro w' h4 h5;exact hK w' (MapN.put h1 h2 h3 h4) h5
def BufR (Z:Nat->Prop) (w:World) (buf:Array Value) (fr:List GA):Prop:=buf.size=fr.length/\∀ (i:Nat) (a:GA),fr[i]? = some a->∃ v,buf[i]? = some (.agg #[.string a.n,v])/\jad Z w v a.args/\Light a
theorem BufR.nil (Z:Nat->Prop) (w:World):BufR Z w #[] []:=⟨rfl,fun i a h=>by simp at h⟩
theorem BufR.imp {Z Z':Nat->Prop} {w w':World} {buf:Array Value} {fr:List GA} (h:BufR Z w buf fr) (hZ:∀ b,Z b->Z' b) (he:Agree Z w w') (hs:w.heap.size<=w'.heap.size):BufR Z' w' buf fr :=
 ⟨h.1,fun i a hi=>by obtain⟨v,h1,h2,h3⟩:=h.2 i a hi;exact⟨v,h1,h2.impL (fun b hb _=>hZ b hb) he hs,h3⟩⟩
theorem BufR.push {Z:Nat->Prop} {w:World} {buf:Array Value} {fr:List GA} {a:GA} {v:Value} (h:BufR Z w buf fr) (hv:jad Z w v a.args) (ha:Light a):BufR Z w (buf.push (.agg #[.string a.n,v])) (fr++[a]):=by
 refine⟨by simp[h.1],fun i x hi=>?_⟩;rcases Nat.lt_or_ge i fr.length with hlt|hge
 . rw [List.getElem?_append_left hlt] at hi
   obtain⟨u,h1,h2,h3⟩:=h.2 i x hi;refine⟨u,?_,h2,h3⟩;rw[Array.getElem?_push,if_neg (by rw[h.1];omega)];exact h1
 have hil:i<(fr++[a]).length:=(List.getElem?_eq_some_iff.1 hi).1;simp only[List.length_append,List.length_cons,List.length_nil] at hil;obtain rfl:i=fr.length:=by omega
 rw[List.getElem?_append_right (Nat.le_refl _),Nat.sub_self] at hi;simp only[List.getElem?_cons_zero,Option.some.injEq] at hi;subst hi;exact⟨v,by rw[Array.getElem?_push,if_pos h.1.symm],hv,ha⟩
structure RndR (n num stb sb:Nat) (st:RS) (w:World):Prop where
 lo:n+7<=sb
 sz:n+7<=w.heap.size
 sB:Blk w n 158 #[.pointer (some ⟨stb,0,none⟩)]
 nB:Blk w (n+1) 3 #[.int .i64 (num:Int)]
 fB:Blk w (n+3) 274 #[.chan (some (n+2))]
 map:MapN w (n+4) st.sn.length (seenF num st.sn)
 mB:Blk w (n+5) 187 #[.map (some (n+4))]
 oB:Blk w (n+6) 4 #[.bool st.ok]
 few:st.fr.length<=st.sn.length
 buf:∃ (b:Array Value) (s r:Nat) (Z:Nat->Prop),w.heap[n+2]? = some (.chan 301 b false s r false)/\BufR Z w b st.fr/\∀ i,Z i->n+7<=i/\i<w.heap.size/\i≠sb
theorem RndR.keep {n num stb sb:Nat} {st:RS} {w w':World} (h:RndR n num stb sb st w) (hi:jac (fun b=>b=sb) w w'):RndR n num stb sb st w':=by
 have hl:=h.lo;have hz:=h.sz;have hne:∀ i,i<n+7->¬ i=sb:=fun i hi e=>by omega
 obtain⟨b,s,r,Z,h1,h2,h3⟩:=h.buf
 exact ⟨hl,Nat.le_trans hz hi.size,hi.blk h.sB (hne _ (by omega)),hi.blk h.nB (hne _ (by omega)),hi.blk h.fB (hne _ (by omega)),h.map.ext (hi.block _ (by omega) (hne _ (by omega))),hi.blk h.mB (hne _ (by omega)),hi.blk h.oB (hne _ (by omega)),h.few,
  b,s,r,Z,(hi.block _ (by omega) (hne _ (by omega))).trans h1,h2.imp (fun _ h=>h) (fun i hz hlt=>hi.block i hlt (h3 i hz).2.2) hi.size,fun i hz=>⟨(h3 i hz).1,Nat.lt_of_lt_of_le (h3 i hz).2.1 hi.size,(h3 i hz).2.2⟩⟩
theorem RndR.ext {n num stb sb:Nat} {st:RS} {w w':World} (h:RndR n num stb sb st w) (hx:Ext w w'):RndR n num stb sb st w':=h.keep (jac.of_ext hx)
theorem jqi:∀ args w,(callFunc 233 args).run Tryz.prog w=.ok (.enter 233 args) w:=enters_of Tryz.func233 (by kernel_rfl) (by rfl)
theorem jxv (n num stb sb m:Nat) (a:GA) (v:Value) (st:RS) (w:World) {F:Nat->Prop} {mb pb nm np:Nat} {facts:List GA} {rounds:List Nat} {fv rv:Value} {f:Value->Value} (hst:jd7 F w stb facts rounds fv rv mb pb nm np f) (hv:jad (fun b=>m<=b/\b<w.heap.size) w v a.args) (hm:sb<m) (ha:Light a) (hR:RndR n num stb sb st w)
  (hF:∀ b,F b->b<n) (hnum:num<=1000000) (hN:st.sn.length<=10000000000000) (hfl:facts.length<=1000) :
  Calls Tryz.prog 233 #[.agg #[.string a.n,v],.pointer (some ⟨n+5,0,none⟩),.pointer (some ⟨n,0,none⟩),.pointer (some ⟨n+1,0,none⟩),.pointer (some ⟨n+6,0,none⟩),.pointer (some ⟨n+3,0,none⟩)] w fun e w' =>
   e=.returned (.bool (stepR facts st a).2)/\RndR n num stb sb (stepR facts st a).1 w'/\jac (fun b=>(n+2<=b/\b<n+7)∨w.heap.size<=b) w w':=by
 obtain⟨A,c,rfl,hc1,hc2⟩:=jaa.form hv;obtain⟨W0,hW0⟩:∃ W0,W0=(w.alloc (.cells #[.string a.n,.slice A a.args.length c] 69)):=⟨_,rfl⟩;have HB0:=zh (show Blk W0 w.heap.size 69 #[.string a.n,.slice A a.args.length c] from by rw[hW0];exact Blk.new _ _ _);have HX0:=zh (show Ext w W0 from by rw[hW0];exact (Ext.refl _).alloc _);have HZ0:=zh (show W0.heap.size=w.heap.size+1 from by rw[hW0];simp);have HAT:=zh (fun (W:World) (hW:Ext w W)=>jgs a _ W (hv.ext hW) ha.w);have HHO:=zh (fun (W:World) (hW:Ext w W)=>jrx a _ W (hst.ext hW) (hv.ext hW) ha.w);have HV:=zh hv;have HR:=zh hR;have HST:=zh hst;have HF:=zh hF;have HA:=zh ha;have hts:(strOf (atomL a)).size<=maxLen:=by rw[jfd];have:=jl7 a;have:=ha.w;unfold maxLen;omega
 obtain⟨sx,hsx⟩:∃ sx,sx=(strOf (atomL a)):=⟨_,rfl⟩;rw[<- hsx] at HAT hts;have HSX:=zh hsx;have p0:=HB0.o.cell 0;have p1:=HB0.o.cell 1;have pl:=HB0.o.lt;clear hv hst hF ha hR hsx;refine jm5 Tryz.func233 rfl ?_;simp only[Tryz.ntmps233,List.size_toArray,List.length_cons,List.length_nil,Nat.reduceAdd,Nat.reduceSub,Array.replicate_succ,Array.replicate_zero,List.push_toArray,List.append_toArray,List.nil_append,List.cons_append];refine Wn.seq (Wn.of ?_);go_wp2_with fail
 rw[<- hW0];clear hW0;refine Wn.seq (Wn.of ?_);go_wp2_with (first|(go_at_call 234;refine (HAT.o _ HX0.o).mono ?_;rintro e w1 ⟨rfl,hx1⟩)|fail)
 have HX1:=zh (HX0.o.t hx1);have hr1:=HR.o.ext HX1.o;have HB1:=zh (HB0.o.ext hx1);have HR1:=zh hr1;have HMAP:=zh hr1.map;have q0:=HB1.o.cell 0;have q1:=HB1.o.cell 1;have ql:=HB1.o.lt;have m0:=hr1.mB.cell 0;have ml:=hr1.mB.lt;have s0:=hr1.sB.cell 0;have sl:=hr1.sB.lt;have n0:=hr1.nB.cell 0;have nl:=hr1.nB.lt;have f0:=hr1.fB.cell 0;have fl:=hr1.fB.lt;have o0:=hr1.oB.cell 0;have of0:=hr1.oB.frozen 0;have ol:=hr1.oB.lt;have hfu:=HST.o.blk.cell 0;clear hr1 hx1 p0 p1 pl;have hseen:=j0b num st.sn a;rw[<- HSX.o] at hseen
 cases h1:jcg st.sn a with
 | true =>
   have HSN:=zh (show seenF num st.sn sx=some num from by
    rw[h1] at hseen;unfold seenF at hseen ⊢;split at hseen
    . rename_i h;rw[if_pos h]
    cases hseen)
   have HSTEP:=zh (show stepR facts st a=(st,true) from by unfold stepR;rw[h1];rfl);clear hseen h1;refine Wn.seq (Wn.of ?_);go_wp2_with (first|(at_lookup;refine ja5 _ rfl _ _ rfl (n+4) st.sn.length (seenF num st.sn) rfl HMAP.o sx rfl hts num HSN.o ?_)|fail)
   go_ret;rw[HSTEP.o];exact⟨rfl,HR1.o,jac.of_ext HX1.o⟩
 | false =>
   have HSN:=zh (show seenF num st.sn sx=none from by
    rw[h1] at hseen
    cases h:seenF num st.sn sx with
    | none=>rfl
    | some k=>rw[h] at hseen;cases hseen)
   cases h2:jcg facts a with
   | true =>
     have HSTEP:=zh (show stepR facts st a=(st,true) from by unfold stepR;rw[h1,h2];rfl);rw[h2] at HHO;clear hseen h1 h2;refine Wn.seq (Wn.of ?_)
     go_wp2_with (first
      | (at_lookup;refine jb8 _ rfl _ _ rfl (n+4) st.sn.length (seenF num st.sn) rfl HMAP.o sx rfl hts HSN.o ?_)
      | (go_at_call 235;refine (HHO.o _ HX1.o).mono ?_;rintro e w2 ⟨rfl,hx2⟩)
      | fail)
     go_ret;rw[HSTEP.o];exact⟨rfl,HR1.o.ext hx2,jac.of_ext (HX1.o.t hx2)⟩
   | false =>
     rw[h2] at HHO;have HH1:=zh h1;have HH2:=zh h2;clear hseen h1 h2;refine Wn.seq (Wn.of ?_)
     go_wp2_with (first
      | (at_lookup;refine jb8 _ rfl _ _ rfl (n+4) st.sn.length (seenF num st.sn) rfl HMAP.o sx rfl hts HSN.o ?_)
      | (go_at_call 235;refine (HHO.o _ HX1.o).mono ?_;rintro e w2 ⟨rfl,hx2⟩)
      | fail)
     have HX2:=zh (HX1.o.t hx2);have hr2:=HR1.o.ext hx2;have HR2:=zh hr2;have HMA2:=zh hr2.map;have HB2:=zh (HB1.o.ext hx2);have m0':=hr2.mB.cell 0;have ml':=hr2.mB.lt;have n0':=hr2.nB.cell 0;have nl':=hr2.nB.lt;clear m0 ml s0 sl n0 nl f0 fl o0 of0 ol q0 q1 ql hfu hr2 hx2;refine Wn.seq (Wn.of ?_);go_wp2_with (first|(at_mapUpdate;refine jf8 _ rfl _ _ _ rfl (n+4) st.sn.length (seenF num st.sn) rfl HMA2.o (by omega) sx rfl hts num rfl hnum ?_;intro w3 hm3 hg3)|fail)
     rw[HSN.o,if_neg (by decide)] at hm3;have HM3:=zh (show MapN w3 (n+4) (st.sn.length+1) (seenF num (st.sn++[a])) from by rw[<- jxu,<- HSX.o];exact hm3);have hblk:∀ i,i<w2.heap.size->i≠n+4->w3.heap[i]? = w2.heap[i]? :=fun i hi hne=>hg3.block i hi (fun e=>hne (by injection e))
     have hsz3:w2.heap.size<=w3.heap.size:=hg3.size;have HG3:=zh hblk;have hI3:jac (fun b=>b=n+4) w2 w3:=⟨hg3.os,hg3.tape,hg3.output,hg3.size,fun i hi hne=>hblk i hi hne⟩
     have HI3:=zh hI3;have hlo:=HR2.o.lo;have hsz2:=HR2.o.sz;have HST3:=zh ((HST.o.ext HX2.o).inside hI3 (fun b hb e=>by have:=HF.o b hb;omega));have hb3:∀ {g:Nat} {t:TypeId} {cs:Array Value},Blk w2 g t cs->g≠n+4->Blk w3 g t cs:=fun hb hne=>hI3.blk hb hne
     have s0:=(hb3 HR2.o.sB (by omega)).cell 0;have sl:=(hb3 HR2.o.sB (by omega)).lt;have m0:=(hb3 HR2.o.mB (by omega)).cell 0;have ml:=(hb3 HR2.o.mB (by omega)).lt;have o0:=(hb3 HR2.o.oB (by omega)).cell 0;have of0:=(hb3 HR2.o.oB (by omega)).frozen 0;have ol:=(hb3 HR2.o.oB (by omega)).lt;have hfu:=HST3.o.blk.cell 0;have hful:=HST3.o.blk.lt;obtain⟨FA,fc,hfe,_,_⟩:=jaa.form HST3.o.fa;rw[hfe] at hfu
     have hlen:∀ (ty:TypeId),(Builtin.len_ #[187] ty #[.map (some (n+4))]).run Tryz.prog w3.drew=.ok (.int .i64 ((st.sn.length+1:Nat):Int)) w3.drew:=fun ty=>by
      obtain⟨D,k1,k2,_⟩:=HM3.o.drew;rw[k1.len Tryz.underlying187 ty,k2]
     clear m0' ml' n0' nl' hm3 hg3 hblk hI3;refine Wn.seq (Wn.of ?_)
     go_still_tail 9,(by kernel_rfl)
     change wpList _ _ _ _ _ w3.drew;have hfl0:(0:Int)<=(facts.length:Int):=by omega
     go_wp2_with fail
     obtain⟨ba,sa,ra,Z,hch,hbu,hZ⟩:=HR2.o.buf;have hfew:=HR2.o.few;have hszw2:w.heap.size+1<=w2.heap.size:=by rw[<- HZ0.o];exact Nat.le_trans (by have:=HB2.o.lt;have:=HZ0.o;omega) (Nat.le_refl _)
     have finish:∀ (sn' fr':List GA) (ok':Bool) (w5:World),sn'=st.sn++[a]->fr'.length<=sn'.length->jac (fun b=>b=n+2∨b=n+4∨b=n+6) w2 w5->w5.heap[n+4]? = w3.heap[n+4]? ->Blk w5 (n+6) 4 #[.bool ok'] ->
       (∃ (b:Array Value) (s r:Nat) (Z:Nat->Prop),w5.heap[n+2]? = some (.chan 301 b false s r false)/\BufR Z w5 b fr'/\∀ i,Z i->n+7<=i/\i<w5.heap.size/\i≠sb)->RndR n num stb sb ⟨sn',fr',ok'⟩ w5/\jac (fun b=>(n+2<=b/\b<n+7)∨w.heap.size<=b) w w5:=by
      intro sn' fr' ok' w5 e1 h1 hi h4 h6 hbuf;have hne:∀ i,i<n+7->i≠n+2->i≠n+4->i≠n+6->¬ (i=n+2∨i=n+4∨i=n+6):=fun i _ h1 h2 h3 h=>by omega
      refine⟨⟨hlo,Nat.le_trans hsz2 hi.size,hi.blk HR2.o.sB (hne _ (by omega) (by omega) (by omega) (by omega)),hi.blk HR2.o.nB (hne _ (by omega) (by omega) (by omega) (by omega)),hi.blk HR2.o.fB (hne _ (by omega) (by omega) (by omega) (by omega)),?_,hi.blk HR2.o.mB (hne _ (by omega) (by omega) (by omega) (by omega)),h6,h1,hbuf⟩,?_⟩
      . have h:=HM3.o.ext h4
        have e2:sn'.length=st.sn.length+1:=by rw[e1];simp
        show MapN w5 (n+4) sn'.length (seenF num sn');rw[e2,e1];exact h
      exact (jac.of_ext HX2.o).t (hi.sub (fun b hb _=>.inl (by omega)))
     by_cases hle:facts.length+(st.sn.length+1)<=300
     . have hli:((facts.length:Int)+((st.sn.length:Int)+1)<=300):=by omega
       have HSTEP:=zh (show stepR facts st a=(⟨st.sn++[a],st.fr++[a],true⟩,true) from by unfold stepR;rw[HH1.o,HH2.o,if_neg (by decide),if_pos hle]);simp only[hli,decide_true];obtain⟨w4,hw4⟩:∃ w4,w4=((w3.setCell ⟨n+6,0,none⟩ (.bool true)).drew):=⟨_,rfl⟩
       have hI4:jac (fun b=>b=n+2∨b=n+4∨b=n+6) w2 w4:=by
        rw[hw4];exact (HI3.o.sub (fun b hb _=>.inr (.inl hb))).t ((jac.set _ _ _ (.inr (.inr rfl))).t (jac.of_ext (Ext.refl _).drew))
       have hO4:Blk w4 (n+6) 4 #[.bool true]:=by rw[hw4];exact (show Blk (w3.setCell ⟨n+6,0,none⟩ (.bool true)) (n+6) 4 #[.bool true] from by simpa using (hb3 HR2.o.oB (by omega)).set_ 0 (.bool true)).drew
       have h44:w4.heap[n+4]? = w3.heap[n+4]? :=by rw[hw4];exact Below.heap_setCell w3 ⟨n+6,0,none⟩ _ (n+4) (by show n+4≠n+6;omega)
       have h42:w4.heap[n+2]? = some (.chan 301 ba false sa ra false):=by rw[hw4];exact (Below.heap_setCell w3 ⟨n+6,0,none⟩ _ (n+2) (by show n+2≠n+6;omega)).trans ((HG3.o _ (by omega) (by omega)).trans hch)
       rw[<- hw4];clear hw4 s0 sl m0 ml o0 of0 ol hfu hful hlen;have hne:∀ i,i≠n+2->i≠n+4->i≠n+6->¬ (i=n+2∨i=n+4∨i=n+6):=fun i h1 h2 h3 h=>by omega
       have o0:=hO4.cell 0;have ol:=hO4.lt;have hF4:=hI4.blk HR2.o.fB (hne _ (by omega) (by omega) (by omega));have f0:=hF4.cell 0;have fl:=hF4.lt;have hwn:n+7<=w.heap.size:=HR.o.sz;have hB4:=hI4.blk HB2.o (hne _ (by omega) (by omega) (by omega));have q0:=hB4.cell 0;have q1:=hB4.cell 1;have ql:=hB4.lt;have hroom:ba.size<301:=by rw[hbu.1];omega
       refine Wn.seq ?_;refine Wn.seq (Wn.of ?_);go_wp2_with fail
       refine Wn.cond (t:=true) rfl ?_;simp only[if_true];refine Wn.region ?_;simp only[List.size_toArray,List.length_cons,List.length_nil,Nat.reduceAdd,Nat.zero_add,List.range,List.range.loop];refine WnOps.value (v:=.chan (some (n+2))) (w':=w4) rfl (by rfl) (by go_simp) ?_;simp only[Act.put,List.setIfInBounds_toArray,List.set_cons_zero,List.set_cons_succ];refine WnOps.value (v:=.agg #[.string a.n,.slice A a.args.length c]) (w':=w4) rfl (by rfl) (by go_simp) ?_;simp only[Act.put,List.setIfInBounds_toArray,List.set_cons_zero,List.set_cons_succ];refine WnOps.send (c:=n+2) (v:=.agg #[.string a.n,.slice A a.args.length c]) (z:=.tuple #[]) (w':=w4) rfl (by rfl) (by simp[execOp,scase,Act.eval]) h42 hroom ?_;refine WnOps.nil ?_;simp only[Exit.then,List.getElem_toArray,List.getElem_cons_succ,List.getElem_cons_zero,Act.put,List.setIfInBounds_toArray,List.set_cons_zero,List.set_cons_succ];obtain⟨w5,hw5⟩:∃ w5,w5=(w4.setChan (n+2) 301 (ba.push (.agg #[.string a.n,.slice A a.args.length c])) false (sa+1) ra false):=⟨_,rfl⟩;have hn4:n+2<w4.heap.size:=Nat.lt_of_lt_of_le (by omega) hI4.size;have hc5:w5.heap[n+2]? = some (.chan 301 (ba.push (.agg #[.string a.n,.slice A a.args.length c])) false (sa+1) ra false):=by rw[hw5];exact heap_setChan w4 _ _ _ _ _ _ _ hn4
       have hz5:w5.heap.size=w4.heap.size:=by rw[hw5];exact size_setChan _ _ _ _ _ _ _ _
       have hb5:∀ i,i≠n+2->w5.heap[i]? = w4.heap[i]? :=fun i hi=>by
        rw[hw5];simp only[World.setChan];rw[Array.getElem?_setIfInBounds_ne (fun e=>hi e.symm)]
       have hI5:jac (fun b=>b=n+2∨b=n+4∨b=n+6) w4 w5:=⟨by rw[hw5];rfl,by rw[hw5];rfl,by rw[hw5];rfl,Nat.le_of_eq hz5.symm,fun i _ hi=>hb5 i (fun e=>hi (.inl e))⟩
       have hO5:Blk w5 (n+6) 4 #[.bool true]:=(hb5 _ (by omega)).trans hO4;have hI25:=hI4.t hI5;rw[<- hw5];clear hw5 o0 ol f0 fl q0 q1 ql;have o0:=hO5.cell 0;have ol:=hO5.lt;refine Wn.of ?_;go_wp2_with fail
       go_ret;rw[HSTEP.o]
       obtain ⟨k1,k2⟩:=finish (st.sn++[a]) (st.fr++[a]) true w5 rfl (by simp;omega) hI25 ((hb5 _ (by omega)).trans h44) hO5
        ⟨_, sa+1,ra,fun i=>Z i∨(m<=i/\i<w.heap.size),hc5,BufR.push (hbu.imp (fun _ h=>.inl h) (fun b hz hlt=>hI25.block b hlt (fun e=>by have:=(hZ b hz).1;omega)) hI25.size)
         ((HV.o.ext HX2.o).impL (fun b hb _=>.inr hb) (fun b hb hlt=>hI25.block b hlt (fun e=>by omega)) hI25.size) HA.o,
         fun i hz=>by
          have hs25:=hI25.size;have hs02:=HX2.o.size;rcases hz with hz|hz
          . exact⟨(hZ i hz).1,Nat.lt_of_lt_of_le (hZ i hz).2.1 hs25,(hZ i hz).2.2⟩
          exact⟨by omega,by omega,by omega⟩⟩
       exact⟨rfl,k1,k2⟩
     have hli:¬ ((facts.length:Int)+((st.sn.length:Int)+1)<=300):=by omega
     have HSTEP:=zh (show stepR facts st a=(⟨st.sn++[a],st.fr,false⟩,false) from by unfold stepR;rw[HH1.o,HH2.o,if_neg (by decide),if_neg hle]);simp only[hli,decide_false];obtain⟨w4,hw4⟩:∃ w4,w4=((w3.setCell ⟨n+6,0,none⟩ (.bool false)).drew):=⟨_,rfl⟩
     have hI4:jac (fun b=>b=n+2∨b=n+4∨b=n+6) w2 w4:=by
      rw[hw4];exact (HI3.o.sub (fun b hb _=>.inr (.inl hb))).t ((jac.set _ _ _ (.inr (.inr rfl))).t (jac.of_ext (Ext.refl _).drew))
     have hO4:Blk w4 (n+6) 4 #[.bool false]:=by rw[hw4];exact (show Blk (w3.setCell ⟨n+6,0,none⟩ (.bool false)) (n+6) 4 #[.bool false] from by simpa using (hb3 HR2.o.oB (by omega)).set_ 0 (.bool false)).drew
     have h44:w4.heap[n+4]? = w3.heap[n+4]? :=by rw[hw4];exact Below.heap_setCell w3 ⟨n+6,0,none⟩ _ (n+4) (by show n+4≠n+6;omega)
     have h42:w4.heap[n+2]? = w3.heap[n+2]? :=by rw[hw4];exact Below.heap_setCell w3 ⟨n+6,0,none⟩ _ (n+2) (by show n+2≠n+6;omega)
     rw[<- hw4];clear hw4 s0 sl m0 ml o0 of0 ol hfu hful hlen;have o0:=hO4.cell 0;have ol:=hO4.lt;refine Wn.of ?_;go_wp2_with fail
     go_ret;rw[HSTEP.o];obtain⟨k1,k2⟩:=finish (st.sn++[a]) st.fr false w4 rfl (by simp;omega) hI4 h44 hO4 ⟨ba,sa,ra,Z,h42.trans ((HG3.o _ (by omega) (by omega)).trans hch),hbu.imp (fun _ h=>h) (fun b hz hlt=>hI4.block b hlt (fun e=>by have:=(hZ b hz).1;omega)) hI4.size,fun i hz=>⟨(hZ i hz).1,Nat.lt_of_lt_of_le (hZ i hz).2.1 hI4.size,(hZ i hz).2.2⟩⟩;exact⟨rfl,k1,k2⟩
theorem jus {n num stb mb pb nm np:Nat} {facts:List GA} {rounds:List Nat} {fv rv:Value} {f:Value->Value} {F:Nat->Prop} (hF:∀ b,F b->b<n) (hnum:num<=1000000) (hfl:facts.length<=1000) {N:Nat} (hN:N<=10000000000000) (sb:Nat) (E:SE) (P:Nat->Prop) (h1:E.facts=facts) (h2:E.rounds=rounds) :
  Hears ⟨E,F,P,fun b=>(n+2<=b/\b<n+7)∨sb+1<=b,Gok,stb,fv,rv,mb,pb,nm,np,f,sb⟩ (sb+1) 233 #[.pointer (some ⟨n+5,0,none⟩),.pointer (some ⟨n,0,none⟩),.pointer (some ⟨n+1,0,none⟩),.pointer (some ⟨n+6,0,none⟩),.pointer (some ⟨n+3,0,none⟩)] (RndR n num stb sb) (stepR facts) (fun st=>st.sn.length) N:=by
 refine⟨jqi,fun st a=>jxt _ _ _,fun st a v m w hst hm hv ha hR hr=>?_,fun st w w' h hi=>h.keep hi⟩
 have hst':jd7 F w stb facts rounds fv rv mb pb nm np f:=by
  have h:jd7 F w stb E.facts E.rounds fv rv mb pb nm np f:=hst;rw[h1,h2] at h;exact h
 refine (jxv n num stb sb m a v st w hst' hv hm ha hR hF hnum (by omega) hfl).mono fun e w' ⟨k1,k2,k3⟩=>⟨k1,k2,k3.sub (fun b hb hlt=>?_)⟩
 rcases hb with hb|hb
 . exact .inl hb
 omega
def cameF (fr:List GA) (x:ByteArray):Option Nat:=if fr.any (fun a=>decide (a.n=x)) then some (fr.filter (fun a=>decide (a.n=x))).length else none
theorem jxw (fr:List GA) (a:GA):cameF (fr++[a])=fun x=>if x=a.n then some ((cameF fr a.n).getD 0+1) else cameF fr x:=by
 funext x
 unfold cameF;by_cases h:x=a.n
 . subst h
   rw[if_pos rfl,if_pos (by simp)];by_cases h2:fr.any (fun b=>decide (b.n=a.n))=true
   . rw[if_pos h2];simp
   rw[if_neg h2]
   have:fr.filter (fun b=>decide (b.n=a.n))=[]:=by
    rw[List.filter_eq_nil_iff];intro b hb hc;exact h2 (List.any_eq_true.2 ⟨b,hb,hc⟩)
   simp[this]
 rw[if_neg h];have e:(fr++[a]).any (fun b=>decide (b.n=x))=fr.any (fun b=>decide (b.n=x)):=by simp;exact fun e=>absurd e.symm h
 rw[e];have e2:(fr++[a]).filter (fun b=>decide (b.n=x))=fr.filter (fun b=>decide (b.n=x)):=by simp;exact fun e=>h e.symm
 rw[e2]
theorem RndR.move {n num stb sb sb':Nat} {st:RS} {w:World} (h:RndR n num stb sb st w) (hs:w.heap.size<=sb'):RndR n num stb sb' st w:=by
 obtain⟨b,s,r,Z,h1,h2,h3⟩:=h.buf;exact⟨Nat.le_trans h.sz hs,h.sz,h.sB,h.nB,h.fB,h.map,h.mB,h.oB,h.few,b,s,r,Z,h1,h2,fun i hi=>⟨(h3 i hi).1,(h3 i hi).2.1,by have:=(h3 i hi).2.1;omega⟩⟩
theorem jm6 (facts:List GA) (rounds:List Nat) (r:GR):∀ (rs:List GR) (fr:List GA),jcl facts rounds (rs++[r]) fr=match jcl facts rounds rs fr with
  | none=>none
  | some fr'=>jd8 facts fr' (jcv facts rounds r)
 | [],fr=>by
   simp only[List.nil_append,jcl];cases jd8 facts fr (jcv facts rounds r)<;>rfl
 | q :: rs,fr=>by
   simp only[List.cons_append,jcl]
   cases jd8 facts fr (jcv facts rounds q) with
   | none=>rfl
   | some fr'=>exact jm6 facts rounds r rs fr'
theorem jm7 (facts:List GA) (rounds:List Nat):∀ (rs qs:List GR) (fr:List GA),jcl facts rounds rs fr=none->jcl facts rounds (rs++qs) fr=none
 | [],_,_,h=>by simp[jcl] at h
 | r :: rs,qs,fr,h=>by
   simp only[List.cons_append,jcl] at h ⊢
   cases hc:jd8 facts fr (jcv facts rounds r) with
   | none=>rfl
   | some fr'=>rw[hc] at h;exact jm7 facts rounds rs qs fr' h
theorem jgw {facts:List GA} {rounds:List Nat} (hf:Facts facts) (hl:facts.length<=300) {rules:List GR} (hr:∀ r∈rules,Fine r) {fr:List GA} (h:jcl facts rounds rules []=some fr):Facts fr/\facts.length+fr.length<=300:=by
 have k:=(jjx hf (all:=rules) (fun r hr'=>⟨hr r hr',hr'⟩) (jvv hl) h).1;exact⟨k.fact,k.fits⟩
theorem j0c (w:World):(Instr.makeChan 274 (.int .i64 301)).run Tryz.prog w=.ok (.chan (some w.heap.size)) (w.alloc (.chan 301 #[] false 0 0 false)):=by
 obtain⟨i,hi,hz,hs,hb⟩:=info_parts jd4;simpa using run_makeChan (P:=Tryz.prog) (w:=w) Tryz.underlying274 hi .i64 301 (by omega) (by rw[hb];omega)
theorem ja2.inside {base:Nat} {S T Q:Nat->Prop} {w w':World} {sb mb pb:Nat} {fv rv:Value} {f:Value->Value} {facts:List GA} {rounds:List Nat} {un:ByteArray->Nat->Option (Nat × ByteArray)->List Nat} {nm:Nat} {pm:ByteArray->Option Nat} {np:Nat} (h:ja2 base S T w sb mb pb fv rv f facts rounds un nm pm np) (hi:jac Q w w') (hQ:∀ b,Q b->T b/\¬ S b):ja2 base S T w' sb mb pb fv rv f facts rounds un nm pm np:=by
 have n1:¬ Q sb:=fun hq=>(h.tb sb (hQ sb hq).1).2.1 rfl
 have n2:¬ Q mb:=fun hq=>(h.tb mb (hQ mb hq).1).2.2.1 rfl
 have n3:¬ Q pb:=fun hq=>(h.tb pb (hQ pb hq).1).2.2.2 rfl
 have hl:=h.lo;refine⟨hi.blk h.blk n1,⟨hl.1,hl.2.1,hl.2.2.1,hl.2.2.2.1,hl.2.2.2.2.1,hl.2.2.2.2.2.1,Nat.le_trans hl.2.2.2.2.2.2 hi.size⟩,?_,h.sub,?_,h.mp.inside hi n2,fun n s o=>?_,h.pl.ext (hi.block _ h.pl.lt n3),h.a1,h.a2,h.a3,fun b hb=>⟨Nat.lt_of_lt_of_le (h.tb b hb).1 hi.size,(h.tb b hb).2⟩⟩
 . exact h.fa.agree (fun b hb hlt=>hi.block b hlt (fun hq=>(hQ b hq).2 hb)) (fun g hg=>hi.block g (h.fa.at_ g hg).2 (fun hq=>(h.a1 g hg).2.1 (hQ g hq).1)) hi.size
 . exact h.ro.agree (fun b hb _=>hb.elim) (fun g hg=>hi.block g (h.ro.at_ g hg).2 (fun hq=>(h.a2 g hg).1 (hQ g hq).1)) hi.size
 exact (h.gr n s o).agree (fun b hb _=>hb.elim) (fun g hg=>hi.block g ((h.gr n s o).at_ g hg).2 (fun hq=>(h.a3 n s o g hg).1 (hQ g hq).1)) hi.size
theorem ja2.wider {base:Nat} {S S' T:Nat->Prop} {w:World} {sb mb pb:Nat} {fv rv:Value} {f:Value->Value} {facts:List GA} {rounds:List Nat} {un:ByteArray->Nat->Option (Nat × ByteArray)->List Nat} {nm:Nat} {pm:ByteArray->Option Nat} {np:Nat} (h:ja2 base S T w sb mb pb fv rv f facts rounds un nm pm np) (h1:∀ b,S b->S' b) (h2:∀ b,S' b->T b):ja2 base S' T w sb mb pb fv rv f facts rounds un nm pm np :=
 ⟨h.blk,h.lo,h.fa.sub (Nat.le_refl _) h1,h2,h.ro,h.mp,h.gr,h.pl,h.a1,h.a2,h.a3,h.tb⟩
structure j2y (base:Nat) (S T:Nat->Prop) (stb mb pb:Nat) (facts:List GA) (rounds:List Nat) (num nm np:Nat) (fr:List GA) (ba:Array Value) (n mc:Nat) (Z T0:Nat->Prop) (w0:World) (j:Nat) (w:World):Prop where
 le:j<=fr.length
 st:∃ (fv rv:Value) (f:Value->Value) (nm' np':Nat),ja2 base S T w stb mb pb fv rv f (facts++fr.take j) (rounds++List.replicate j num) (jal (facts++fr.take j)) nm' (pmOf (facts++fr.take j)) np'/\nm'<=nm+2000*j/\np'<=np+j
 ch:∃ s r,w.heap[n+2]? = some (.chan 301 (ba.extract j ba.size) true s r false)
 mp:∃ k,MapN w mc k (cameF (fr.take j))/\(k=0↔fr.take j=[])/\k<=j
 bf:BufR Z w ba fr
 sB:Blk w n 158 #[.pointer (some ⟨stb,0,none⟩)]
 nB:Blk w (n+1) 3 #[.int .i64 (num:Int)]
 st0:Still T0 w0 w
 mlt:mc<w.heap.size
def jv7 (n:Nat) (w:World):Nat:=match w.heap[n+2]? with
 | some (.chan _ b _ _ _ _)=>b.size
 | _=>0
def ji0 (rules:List GR) (num base:Nat) (S T:Nat->Prop) (w:World) (stb mb pb:Nat) (facts:List GA) (rounds:List Nat) (nm np:Nat) (e:Ending) (w':World):Prop :=
 match jcl facts rounds rules [] with
 | none=>e=.returned (.tuple #[.map none,.bool false])/\Ext w w'
 | some fr=>∃ (mc k nm' np':Nat) (fv' rv':Value) (f':Value->Value) (S' T':Nat->Prop),e=.returned (.tuple #[.map (some mc),.bool true])/\ja2 base S' T' w' stb mb pb fv' rv' f' (facts++fr) (rounds++List.replicate fr.length num) (jal (facts++fr)) nm' (pmOf (facts++fr)) np' /\
     nm'<=nm+2000*fr.length/\np'<=np+fr.length/\MapN w' mc k (cameF fr)/\(k=0↔fr=[])/\w.heap.size<=mc/\(∀ b,T b->T' b)/\(∀ b,T' b->T b∨w.heap.size<=b)/\Still T w w'
theorem j0d (rules:List GR) (v:Value) (num base:Nat) (S T U:Nat->Prop) (w:World) (stb mb pb:Nat) (fv rv:Value) (f:Value->Value) (facts:List GA) (rounds:List Nat) (nm np:Nat)
  (hst:ja2 base S T w stb mb pb fv rv f facts rounds (jal facts) nm (pmOf facts) np) (hv:jam U w v rules) (hU:∀ b,U b->T b) (hfine:∀ r∈rules,Fine r) (hrn:∀ r∈rules,r.head.n.size<=maxLen) (hrules:rules.length<=8) (hf:Facts facts) (hfl:facts.length<=300) (hrl:rounds.length=facts.length) (hnum:num<=1000000) (hnm:nm<=1000000) (hnp:np<=10000) :
  Calls Tryz.prog 192 #[.pointer (some ⟨stb,0,none⟩),v,.int .i64 (num:Int)] w fun e w' =>
   ji0 rules num base S T w stb mb pb facts rounds nm np e w':=by
 obtain⟨A,c,rfl,hc1,hc2⟩:=jaa.form hv;have HO:=zh hst;have HSR:=zh (hst.toR (lo:=0) ⟨Nat.zero_le _,Nat.zero_le _,Nat.zero_le _⟩);have HFW:=zh (show ∀ b,(S b∨(0<=b/\b<w.heap.size))->b<w.heap.size from fun b hb=>hb.elim (fun h=>(hst.tb b (hst.sub b h)).1) (fun h=>h.2));have HV:=zh hv;have HFI:=zh hfine;have HRN:=zh hrn;have HFF:=zh hf;clear hst hv hfine hrn hf;refine jm5 Tryz.func192 rfl ?_;simp only[Tryz.ntmps192,List.size_toArray,List.length_cons,List.length_nil,Nat.reduceAdd,Nat.reduceSub,Array.replicate_succ,Array.replicate_zero,List.push_toArray,List.append_toArray,List.nil_append,List.cons_append];have hmm:= @run_makeMap Tryz.prog;have hmc:=j0c;refine Wn.seq (Wn.of ?_);go_wp2_with fail
 refine Wn.seq (Wn.of ?_);go_wp2_with fail
 refine Wn.seq (Wn.of ?_);go_wp2_with fail
 refine Wn.seq (Wn.of ?_);go_wp2_with fail
 simp only[Nat.add_assoc,Nat.reduceAdd];obtain⟨W,hW⟩:∃ W,W=((((((((w.alloc (.cells #[.pointer (some ⟨stb,0,none⟩)] 158)).alloc (.cells #[.int .i64 (num:Int)] 3)).alloc (.chan 301 #[] false 0 0 false)).alloc (.cells #[.chan (some (w.heap.size+2))] 274)).alloc (.map #[] 0)).alloc (.cells #[.map (some (w.heap.size+4))] 187)).alloc (.cells #[.bool true] 4))):=⟨_,rfl⟩;have hzW:W.heap.size=w.heap.size+7:=by rw[hW];simp
 have HX:=zh (show Ext w W from by rw[hW];exact (((((((Ext.refl _).alloc _).alloc _).alloc _).alloc _).alloc _).alloc _).alloc _)
 have HR:=zh (show RndR w.heap.size num stb W.heap.size ⟨[],[],true⟩ W from by
  refine⟨Nat.le_of_eq hzW.symm,Nat.le_of_eq hzW.symm,?_,?_,?_,?_,?_,?_,Nat.le_refl _,#[],0,0,fun _=>False,?_,BufR.nil _ _,fun i h=>h.elim⟩
  . rw[hW];exact ((((((Blk.new _ _ _).alloc _).alloc _).alloc _).alloc _).alloc _).alloc _
  . rw[hW];exact (((((Blk.at_new (by simp)).alloc _).alloc _).alloc _).alloc _).alloc _
  . rw[hW];exact (((Blk.at_new (by simp)).alloc _).alloc _).alloc _
  . rw [hW]
    have h:=MapN.made (((((w.alloc (.cells #[.pointer (some ⟨stb,0,none⟩)] 158)).alloc (.cells #[.int .i64 (num:Int)] 3)).alloc (.chan 301 #[] false 0 0 false)).alloc (.cells #[.chan (some (w.heap.size+2))] 274)));have e:((((w.alloc (.cells #[.pointer (some ⟨stb,0,none⟩)] 158)).alloc (.cells #[.int .i64 (num:Int)] 3)).alloc (.chan 301 #[] false 0 0 false)).alloc (.cells #[.chan (some (w.heap.size+2))] 274)).heap.size=w.heap.size+4:=by simp
    rw[e] at h;exact ((h.alloc _).alloc _).same (fun _=>rfl)
  . rw[hW];exact (Blk.at_new (by simp)).alloc _
  . rw[hW];exact Blk.at_new (by simp)
  rw[hW];refine (Below.heap_alloc _ _ _ (by simp)).trans ((Below.heap_alloc _ _ _ (by simp)).trans ((Below.heap_alloc _ _ _ (by simp)).trans ((Below.heap_alloc _ _ _ (by simp)).trans ?_)));have h:=World.alloc_heap_new ((w.alloc (.cells #[.pointer (some ⟨stb,0,none⟩)] 158)).alloc (.cells #[.int .i64 (num:Int)] 3)) (.chan 301 #[] false 0 0 false);have e:((w.alloc (.cells #[.pointer (some ⟨stb,0,none⟩)] 158)).alloc (.cells #[.int .i64 (num:Int)] 3)).heap.size=w.heap.size+2:=by simp
  rw[e] at h;exact h)
 rw[<- hW];clear hW hmc;refine Wn.seq (Wn.of ?_);go_wp2_with fail
 go_loopw [19] (fun i wr=>∃ (k:Nat) (fr:List GA),k<=rules.length/\i=.int .i64 k/\J1 (jcl facts rounds (rules.take k) []=some fr)/\J1 (RndR w.heap.size num stb wr.heap.size ⟨fr,fr,true⟩ wr)/\J1 (Ext w wr)) (fun i _=>rules.length-(intOf i).toNat)
 case atStart=>exact⟨0,[],Nat.zero_le _,rfl,zh rfl,HR,HX⟩
 case round =>
  obtain⟨k,fr,hk,rfl,hfr,hrr,hxr⟩:=hrel;have hk0:(0:Int)<=(k:Int):=by omega
  by_cases hlt:k<rules.length
  . have hk1:(k:Int)<(rules.length:Int):=by omega
    obtain⟨bs,os,x,tv,bv,rfl,hbs,hxk,hxs,hxt,hxb,d0,d1,d2⟩:=jam.at_ (HV.o.ext hxr.o) hlt;obtain⟨TA,tc,rfl,_,_⟩:=jaa.form hxt;obtain⟨BA,bc,rfl,_,_⟩:=jaa.form hxb;have hxm:=List.mem_of_getElem? hxk;have hfx:=HFI.o x hxm;have HTK:=zh (show rules.take (k+1)=rules.take k++[x] from by rw[List.take_add_one,hxk];rfl);have hfac:=jgw HFF.o hfl (fun r hr=>HFI.o r (List.mem_of_mem_take hr)) hfr.o;have HRS:=zh (jm6 facts rounds x (rules.take k) []);obtain⟨w0,hw0⟩:∃ w0,w0=(wr.alloc (.cells #[.string x.head.n,.slice TA x.head.args.length tc,.slice BA x.body.length bc] 178)):=⟨_,rfl⟩;have HE0:=zh (show Ext wr w0 from by rw[hw0];exact (Ext.refl _).alloc _);have HB0:=zh (show Blk w0 wr.heap.size 178 #[.string x.head.n,.slice TA x.head.args.length tc,.slice BA x.body.length bc] from by rw[hw0];exact Blk.new _ _ _);have HX0:=zh (hxr.o.t HE0.o);have hrsz:=hrr.o.sz;have hsz0:w.heap.size+7<=w0.heap.size:=Nat.le_trans hrsz HE0.o.size;have hff:∀ a∈jcv facts rounds x,factB a=true:=fun a ha=>jip hfx HFF.o ((jg9 hfx HFF.o).1 ha)
    have hfeed:=jj7 (facts:=facts) HFF.o (l:=jcv facts rounds x) (fr:=fr) hff hfac.1;obtain⟨stf,hstf⟩:∃ stf,stf=((feedA (stepR facts) (jcv facts rounds x) ⟨fr,fr,true⟩).1):=⟨_,rfl⟩
    have hlenF:(jcv facts rounds x).length<=2430000000000:=by
     unfold jcv;rw[List.length_map];refine jt4 hfl ?_;show (jcf _ _).length<=4;unfold jcf;rw[List.length_map];exact Nat.le_trans (List.length_filter_le _ _) hfx.few
    have HFO:=zh (show Calls Tryz.prog 232 #[.pointer (some ⟨stb,0,none⟩),.agg #[.string x.head.n,.slice TA x.head.args.length tc,.slice BA x.body.length bc],.func (.func 233) #[] #[.pointer (some ⟨w.heap.size+5,0,none⟩),.pointer (some ⟨w.heap.size,0,none⟩),.pointer (some ⟨w.heap.size+1,0,none⟩),.pointer (some ⟨w.heap.size+6,0,none⟩),.pointer (some ⟨w.heap.size+3,0,none⟩)]] w0
      fun e w'=>e=.returned (.tuple #[])/\(∃ sb,w0.heap.size<=sb/\sb<w'.heap.size/\RndR w.heap.size num stb sb stf w')/\jac (fun b=>(w.heap.size+2<=b/\b<w.heap.size+7)∨w0.heap.size<=b) w0 w' from by
     rw[hstf]
     exact jxs x _ _ w0 (hxt.ext HE0.o) (hxb.ext HE0.o) (HRN.o x hxm) hfx (HSR.o.ext HX0.o) (fun b hb=>Nat.lt_of_lt_of_le (HFW.o b hb) HX0.o.size) hrl HFF.o (fun b=>w.heap.size+2<=b/\b<w.heap.size+7) (fun b hb=>by omega) (fun b hb h=>by have:=HFW.o b hb;omega)
      ⟨fr,fr,true⟩ (fun sb E P _ h1 h2=>jus (N:=2430000001000) HFW.o hnum (by omega) (by omega) sb E P h1 h2) (fun sb W' hW' hsb=>(hrr.o.move (Nat.le_trans HE0.o.size hsb)).ext (HE0.o.t hW')) (by
       show fr.length+_<=_;have:=hfac.2;omega))
    have s0:=(hrr.o.ext HE0.o).sB.cell 0;have sl:=(hrr.o.ext HE0.o).sB.lt;have b0:=HB0.o.cell 0;have b1:=HB0.o.cell 1;have b2:=HB0.o.cell 2;have bl:=HB0.o.lt
    cases hfn:jd8 facts fr (jcv facts rounds x) with
    | none =>
      rw[hfn] at hfeed;have hok:stf.ok=false:=by rw[hstf];exact hfeed
      have HNO:=zh (show jcl facts rounds rules []=none from by
       have h:jcl facts rounds (rules.take (k+1)) []=none:=by rw[HTK.o,HRS.o,hfr.o];exact hfn
       have h2:=jm7 facts rounds (rules.take (k+1)) (rules.drop (k+1)) [] h
       rwa [List.take_append_drop] at h2)
      clear hxk hxt hxb hfx hff hfeed hfac hstf hlenF hfn;rw[hw0] at HFO s0 sl b0 b1 b2 bl
      go_wp2_with (first
       | (go_at_call 232;refine HFO.o.mono ?_;rintro e w2 ⟨rfl,⟨sb2,hsb1,hsb2,hR2⟩,hi2⟩
          have HX2:=zh (show Ext w w2 from hi2.toExt (hw0▸HX0.o) (fun i hi=>by rw[<- hw0] at hi;omega));have o0:=hR2.oB.cell 0;have ol:=hR2.oB.lt;rw[hok] at o0;clear hR2 hi2 s0 sl b0 b1 b2 bl d0 d1 d2)
       | fail)
      go_ret2;unfold ji0;rw[HNO.o];exact⟨rfl,HX2.o⟩
    | some fr2 =>
      rw[hfn] at hfeed;have hst2:stf=⟨fr2,fr2,true⟩:=by rw[hstf];exact (Prod.ext_iff.1 hfeed).1
      have HNS:=zh (show jcl facts rounds (rules.take (k+1)) []=some fr2 from by rw[HTK.o,HRS.o,hfr.o];exact hfn);clear hxk hxt hxb hfx hff hfeed hfac hstf hlenF hfn;rw[hw0,hst2] at HFO;rw[hw0] at s0 sl b0 b1 b2 bl
      go_wp2_with (first
       | (go_at_call 232;refine HFO.o.mono ?_;rintro e w2 ⟨rfl,⟨sb2,hsb1,hsb2,hR2⟩,hi2⟩
          have HX2:=zh (show Ext w w2 from hi2.toExt (hw0▸HX0.o) (fun i hi=>by rw[<- hw0] at hi;omega));have o0:=hR2.oB.cell 0;have ol:=hR2.oB.lt;have HR2:=zh hR2;clear hR2 hi2 s0 sl b0 b1 b2 bl d0 d1 d2)
       | fail)
      go_roundw
      case rel=>exact⟨k+1,fr2,by omega,by go_num,HNS,zh (HR2.o.move (Nat.le_refl _)),HX2⟩
      case measure=>simp[intOf];omega
  obtain rfl:k=rules.length:=by omega
  rw[List.take_length] at hfr;obtain⟨hfrf,hfrl⟩:=jgw HFF.o hfl HFI.o hfr.o;obtain⟨ba,sa,ra,Z,hch,hbu,hZ⟩:=hrr.o.buf;have hrsz:=hrr.o.sz;have HFR:=zh hfrf;have f0:=hrr.o.fB.cell 0;have fl:=hrr.o.fB.lt;go_wp2_with fail
  have hcl:=fun ats ty=>run_close_open (P:=Tryz.prog) (w:=wr) ats ty hch
  refine Wn.seq (Wn.of ?_);go_wp2_with fail
  obtain⟨wc,hwc⟩:∃ wc,wc=(({ wr with heap:=wr.heap.setIfInBounds (w.heap.size+2) (.chan 301 ba true sa ra false) }:World)):=⟨_,rfl⟩;rw[<- hwc];have hzc:wc.heap.size=wr.heap.size:=by rw[hwc];simp
  have hbc:∀ i,i≠w.heap.size+2->wc.heap[i]? = wr.heap[i]? :=fun i hi=>by rw[hwc];simp only;rw[Array.getElem?_setIfInBounds_ne (fun e=>hi e.symm)]
  have hcc:wc.heap[w.heap.size+2]? = some (.chan 301 ba true sa ra false):=by rw[hwc];simp only;rw[Array.getElem?_setIfInBounds_self_of_lt (by omega)]
  have hIc:jac (fun b=>b=w.heap.size+2) wr wc:=⟨by rw[hwc],by rw[hwc],by rw[hwc],Nat.le_of_eq hzc.symm,fun i _ hi=>hbc i hi⟩
  clear hcl hwc f0 fl;have f0:=(hIc.blk hrr.o.fB (by omega)).cell 0;have fl:=(hIc.blk hrr.o.fB (by omega)).lt;refine Wn.seq (Wn.of ?_);go_wp2_with fail
  rename Value=>u29
  obtain⟨wd,hwd⟩:∃ wd,wd=(wc.alloc (.map #[] 0)):=⟨_,rfl⟩;have HXD:=zh (show Ext wc wd from by rw[hwd];exact (Ext.refl _).alloc _);have hmd:MapN wd wr.heap.size 0 (fun _=>none):=by rw[hwd,<- hzc];exact MapN.made wc
  have hzd:wd.heap.size=wr.heap.size+1:=by rw[hwd,<- hzc];simp
  rw[<- hwd];clear hwd f0 fl;have g0:=((hIc.blk hrr.o.fB (by omega)).ext HXD.o).cell 0;have gl:=((hIc.blk hrr.o.fB (by omega)).ext HXD.o).lt;refine Wn.seq ?_;refine Wn.seq (Wn.of ?_);go_wp2_with fail
  refine Wn.block ?_;refine Wn.loop (fun a w'=>∃ (j:Nat) (x14 x33 x34 x35 x36 x37 x38 x39 x40 x41 x42 x43 x44:Value),a = { tmps:= #[.pointer (some ⟨stb,0,none⟩),.slice A rules.length c,.int .i64 (num:Int),.pointer (some ⟨w.heap.size,0,none⟩),undef,.pointer (some ⟨w.heap.size+1,0,none⟩),u6,u7,.pointer (some ⟨w.heap.size+3,0,none⟩),.pointer (some ⟨w.heap.size+5,0,none⟩),.pointer (some ⟨w.heap.size+6,0,none⟩),undef,u12,.map (some wr.heap.size),x14,.chan (some (w.heap.size+2)),.map (some (w.heap.size+4)),.slice A rules.length c,.int .i64 (rules.length:Int),.int .i64 (rules.length:Int),.bool false,u21,u22,u23,u24,u25,u26,u27,u28,u29,.chan (some (w.heap.size+2)),.map (some wr.heap.size),.chan (some (w.heap.size+2)),x33,x34,x35,x36,x37,x38,x39,x40,x41,x42,x43,x44,undef],defers:=[] }/\j2y base (fun b=>S b∨Z b) (fun b=>T b∨(w.heap.size<=b/\b<wd.heap.size)) stb mb pb facts rounds num nm np fr ba w.heap.size wr.heap.size Z T w j w') (fun _ w'=>jv7 w.heap.size w') ?_ ?_
  . have hE:Ext w wd:=(hIc.toExt hxr.o (fun i hi=>by omega)).t HXD.o
    refine⟨0,_,_,_,_,_,_,_,_,_,_,_,_,_,rfl,⟨Nat.zero_le _,⟨fv,rv,f,nm,np,?_,by omega,by omega⟩,⟨sa,ra,?_⟩,⟨0,hmd.same (fun x=>rfl),⟨fun _=>rfl,fun _=>rfl⟩,Nat.le_refl _⟩,?_,(hIc.blk hrr.o.sB (by omega)).ext HXD.o,(hIc.blk hrr.o.nB (by omega)).ext HXD.o,⟨hE.os,hE.tape,hE.output,hE.size,fun i _ hi=>hE.block i hi⟩,by omega⟩⟩
    . have h:=(HO.o.more hE (T':=fun b=>w.heap.size<=b/\b<wd.heap.size) (fun b hb=>hb)).wider (S':=fun b=>S b∨Z b) (fun b hb=>.inl hb) (fun b hb=>hb.elim (fun h=>.inl (HO.o.sub b h)) (fun h=>.inr ⟨by have:=(hZ b h).1;omega,by have:=(hZ b h).2.1;omega⟩))
      simpa using h
    . rw [Array.extract_size]
      exact (HXD.o.block _ (by omega)).trans hcc
    exact (hbu.imp (fun _ h=>h) (fun b hb hlt=>hIc.block b hlt (fun e=>by have e:b=w.heap.size+2:=e;have:=(hZ b hb).1;omega)) hIc.size).imp (fun _ h=>h) (.of_ext HXD.o) HXD.o.size
  rintro a w' ⟨j,x14,x33,x34,x35,x36,x37,x38,x39,x40,x41,x42,x43,x44,rfl,hD⟩;have hbs:ba.size=fr.length:=hD.bf.1;by_cases hj:j<fr.length
  . obtain ⟨v,hbv,hvt,hla⟩:=hD.bf.2 j fr[j] (List.getElem?_eq_getElem hj)
    obtain⟨VA,vc,rfl,_,_⟩:=jaa.form hvt;obtain⟨sx,rx,hch2⟩:=hD.ch;obtain⟨ga,hga⟩:∃ ga,ga=(fr[j]):=⟨_,rfl⟩;rw[<- hga] at hbv hvt hla
    have hget:(ba.extract j ba.size).getD 0 undef=.agg #[.string ga.n,.slice VA ga.args.length vc]:=by
     rw[Array.getD_eq_getD_getElem?,Array.getElem?_extract];simp only[Nat.add_zero,Nat.zero_add];rw[if_pos (by omega),hbv]
     rfl
    have HTJ:=zh (show fr.take (j+1)=fr.take j++[ga] from by rw[hga,List.take_succ_eq_append_getElem hj]);clear hga;refine Wn.seq ?_;refine Wn.region ?_;simp only[List.size_toArray,List.length_cons,List.length_nil,Nat.reduceAdd,Nat.zero_add,List.range,List.range.loop];refine WnOps.recv (c:=w.heap.size+2) (z:=.agg #[.string ⟨#[]⟩,.slice none 0 0]) (w':=w') true rfl (by rfl) (by simp[go_sem,rcase]) hch2 (by simp;omega) ?_;rw[hget];simp only[got,if_true,List.getElem_toArray,List.getElem_cons_succ,List.getElem_cons_zero,Act.put,List.setIfInBounds_toArray,List.set_cons_zero,List.set_cons_succ];obtain⟨w1,hw1⟩:∃ w1,w1=(w'.setChan (w.heap.size+2) 301 ((ba.extract j ba.size).extract 1 (ba.extract j ba.size).size) true sx (rx+1) false):=⟨_,rfl⟩;have hn4:w.heap.size+2<w'.heap.size:=(Array.getElem?_eq_some_iff.1 hch2).1
    have hc1':w1.heap[w.heap.size+2]? = some (.chan 301 (ba.extract (j+1) ba.size) true sx (rx+1) false):=by
     rw[hw1,heap_setChan w' _ _ _ _ _ _ _ hn4]
     congr 2
     rw[Array.extract_extract]
     congr 1
     simp;omega
    have hz1:w1.heap.size=w'.heap.size:=by rw[hw1];exact size_setChan _ _ _ _ _ _ _ _
    have hb1:∀ i,i≠w.heap.size+2->w1.heap[i]? = w'.heap[i]? :=fun i hi=>by
     rw[hw1];simp only[World.setChan];rw[Array.getElem?_setIfInBounds_ne (fun e=>hi e.symm)]
    have hI1:jac (fun b=>b=w.heap.size+2) w' w1:=⟨by rw[hw1];rfl,by rw[hw1];rfl,by rw[hw1];rfl,Nat.le_of_eq hz1.symm,fun i _ hi=>hb1 i hi⟩
    have HZ1:=zh hz1;rw[<- hw1];clear hw1 hz1;refine WnOps.value (v:=.bool true) (w':=w1) rfl (by rfl) (by go_simp) ?_;simp only[List.getElem_toArray,List.getElem_cons_succ,List.getElem_cons_zero,Act.put,List.setIfInBounds_toArray,List.set_cons_zero,List.set_cons_succ];refine WnOps.nil ?_;simp only[Exit.then];refine Wn.seq ?_;refine Wn.cond (t:=true) rfl ?_;simp only[if_true];refine Wn.of (wp_skip ?_);simp only[Exit.then];refine Wn.of ?_;obtain⟨fv',rv',f',nm',np',hst,hnm',hnp'⟩:=hD.st;have hTl:∀ b,(S b∨Z b)->b<w.heap.size∨w.heap.size+7<=b:=fun b hb=>hb.elim (fun h=>.inl ((HO.o.tb b (HO.o.sub b h)).1)) (fun h=>.inr (hZ b h).1)
    have hst1:=hst.inside hI1 (fun b hb=>by subst hb;exact⟨.inr ⟨by omega,by omega⟩,fun h=>by rcases hTl _ h with h|h<;>omega⟩);obtain⟨w2,hw2⟩:∃ w2,w2=(w1.alloc (.cells #[.string ga.n,.slice VA ga.args.length vc] 69)):=⟨_,rfl⟩;have hE2:Ext w1 w2:=by rw[hw2];exact (Ext.refl _).alloc _
    have hst2:=hst1.more hE2 (T':=fun b=>b=w1.heap.size) (fun b hb=>by subst hb;rw[hw2];simp);have hB2:Blk w2 w1.heap.size 69 #[.string ga.n,.slice VA ga.args.length vc]:=by rw[hw2];exact Blk.new _ _ _
    have hI2:jac (fun b=>b=w.heap.size+2) w' w2:=hI1.t (jac.of_ext hE2);have hv2:=hvt.impL (S':=fun b=>S b∨Z b) (fun b hb _=>.inr hb) (fun b hb hlt=>hI2.block b hlt (fun e=>by have e:b=w.heap.size+2:=e;have:=(hZ b hb).1;omega)) hI2.size;have hnl:nm'<=10000000:=by omega
    have HPT:=zh (jzc ga _ num base _ _ w2 stb mb pb fv' rv' f' _ _ nm' _ np' hst2 hv2 hla.n hla.args hla.w (by simp;omega) (by simp;omega) hnl (by omega));have s0:=(hI2.blk hD.sB (by omega)).cell 0;have sl:=(hI2.blk hD.sB (by omega)).lt;have n0:=(hI2.blk hD.nB (by omega)).cell 0;have nl:=(hI2.blk hD.nB (by omega)).lt;have b0:=hB2.cell 0;have b1:=hB2.cell 1;have bl:=hB2.lt;have hmc:wr.heap.size<w'.heap.size:=hD.mlt;obtain⟨kk,hmp,hk0',hkj⟩:=hD.mp;obtain⟨gd,hgd⟩:∃ gd,gd=((cameF (fr.take j) ga.n).getD 0):=⟨_,rfl⟩
    have hgl:gd<=300:=by
     rw[hgd];unfold cameF;split
     . show (List.filter _ _).length<=300
       exact Nat.le_trans (List.length_filter_le _ _) (by rw[List.length_take];omega)
     exact Nat.zero_le _
    have HGD:=zh hgd;clear hgd;rw[hw2] at HPT s0 sl n0 nl b0 b1 bl
    go_wp2_with (first
     | (go_at_call 230;refine HPT.o.mono ?_;rintro e w3 ⟨rfl,⟨fv3,rv3,f3,nm3,np3,hst3,hnm3,hnp3⟩,hs3⟩
        rw[<- hw2] at hs3;have hmp3:MapN w3 wr.heap.size kk (cameF (fr.take j)):=hmp.ext ((hs3.block _ (.inl (.inr ⟨by omega,by omega⟩)) (Nat.lt_of_lt_of_le hmc hI2.size)).trans (hI2.block _ hmc (by show ¬ wr.heap.size=w.heap.size+2;omega)));have hB3:Blk w3 w1.heap.size 69 #[.string ga.n,.slice VA ga.args.length vc]:=(hs3.block _ (.inr rfl) hB2.lt).trans hB2;have q0:=hB3.cell 0;have ql:=hB3.lt;clear s0 sl n0 nl b0 b1 bl)
     | (at_lookup;refine jft _ rfl _ _ rfl wr.heap.size kk (cameF (fr.take j)) rfl hmp3 ga.n rfl hla.n ?_;rw[<- HGD.o])
     | (at_mapUpdate;refine jf8 _ rfl _ _ _ rfl wr.heap.size kk (cameF (fr.take j)) rfl hmp3 (by omega) ga.n rfl hla.n (gd+1) rfl (by omega) ?_;intro w4 hm4 hg4)
     | fail)
    have hblk:∀ i,(T i∨(w.heap.size<=i/\i<wd.heap.size))->i<w'.heap.size->i≠w.heap.size+2->i≠wr.heap.size->w4.heap[i]? = w'.heap[i]? :=fun i hT hi h1 h2 =>
     (hg4.block i (Nat.lt_of_lt_of_le hi (Nat.le_trans hI2.size hs3.size)) (fun e=>h2 (by injection e))).trans ((hs3.block i (.inl hT) (Nat.lt_of_lt_of_le hi hI2.size)).trans (hI2.block i hi h1))
    have hsz4:w'.heap.size<=w4.heap.size:=Nat.le_trans hI2.size (Nat.le_trans hs3.size hg4.size);have hwd':wd.heap.size<=w'.heap.size:=by omega
    have hc4:w4.heap[w.heap.size+2]? = some (.chan 301 (ba.extract (j+1) ba.size) true sx (rx+1) false) :=
     (hg4.block _ (Nat.lt_of_lt_of_le hn4 (Nat.le_trans hI2.size hs3.size)) (fun e=>by injection e with e;omega)).trans ((hs3.block _ (.inl (.inr ⟨by omega,by omega⟩)) (Nat.lt_of_lt_of_le hn4 hI2.size)).trans ((hE2.block _ (by rw[HZ1.o];exact hn4)).trans hc1'))
    refine⟨⟨j+1,_,_,_,_,_,_,_,_,_,_,_,_,_,rfl,⟨by omega,⟨fv3,rv3,f3,nm3,np3,?_,by omega,by omega⟩,⟨sx,rx+1,hc4⟩,⟨if (cameF (fr.take j) ga.n).isSome=true then kk else kk+1,?_,?_,?_⟩,?_,?_,?_,?_,Nat.lt_of_lt_of_le hmc hsz4⟩⟩,?_⟩
    . have h1:=(hst3.less (T':=fun b=>T b∨(w.heap.size<=b/\b<wd.heap.size)) (fun b hb=>.inl hb) hst.sub)
      have h2:ja2 base (fun b=>S b∨Z b) (fun b=>T b∨(w.heap.size<=b/\b<wd.heap.size)) w4 _ _ _ _ _ _ _ _ _ _ _ _:=h1.inside (Q:=fun b=>b=wr.heap.size) ⟨hg4.os,hg4.tape,hg4.output,hg4.size,fun i hi hne=>hg4.block i hi (fun e=>hne (by injection e))⟩ (fun b hb=>by
       subst hb;refine⟨.inr ⟨by omega,by omega⟩,fun h=>?_⟩;rcases h with h|h
       . have:=(HO.o.tb _ (HO.o.sub _ h)).1;omega
       have:=(hZ _ h).2.1;omega)
      rw[HTJ.o,<- List.append_assoc,jru,List.replicate_succ',<- List.append_assoc];exact h2
    . rw [HTJ.o,jxw,<- HGD.o]
      exact hm4
    . rw [HTJ.o]
      have hne:¬ (fr.take j++[ga]=[]):=by simp
      refine⟨fun h=>?_,fun h=>absurd h hne⟩;split at h
      . rename_i hs
        have:=hk0'.1 h;rw[this] at hs;simp[cameF] at hs
      omega
    . split<;>omega
    . exact hD.bf.imp (fun _ h=>h) (fun b hb hlt=>hblk b (.inr ⟨by have:=(hZ b hb).1;omega,by have:=(hZ b hb).2.1;omega⟩) hlt (by have:=(hZ b hb).1;omega) (by have:=(hZ b hb).2.1;omega)) hsz4
    . exact (hblk _ (.inr ⟨by omega,by omega⟩) hD.sB.lt (by omega) (by omega)).trans hD.sB
    . exact (hblk _ (.inr ⟨by omega,by omega⟩) hD.nB.lt (by omega) (by omega)).trans hD.nB
    . have h0:=hD.st0
      refine⟨hg4.os.trans (hs3.os.trans (hI2.os.trans h0.os)),hg4.tape.trans (hs3.tape.trans (hI2.tape.trans h0.tape)),hg4.output.trans (hs3.output.trans (hI2.output.trans h0.output)),Nat.le_trans h0.size hsz4,fun i hT hi=>?_⟩;exact (hblk i (.inl hT) (Nat.lt_of_lt_of_le hi h0.size) (by omega) (by omega)).trans (h0.block i hT hi)
    unfold jv7;rw[hc4,hch2];simp;omega
  obtain rfl:j=fr.length:=by have:=hD.le;omega
  obtain⟨sx,rx,hch2⟩:=hD.ch;have hemp:ba.extract fr.length ba.size = #[]:=by rw[<- hbs];simp
  rw[hemp] at hch2;refine Wn.seq ?_;refine Wn.region ?_;simp only[List.size_toArray,List.length_cons,List.length_nil,Nat.reduceAdd,Nat.zero_add,List.range,List.range.loop];refine WnOps.shut (c:=w.heap.size+2) (z:=.agg #[.string ⟨#[]⟩,.slice none 0 0]) (w':=w') true rfl (by rfl) (by simp[go_sem,rcase]) hch2 ?_;simp only[got,if_true,List.getElem_toArray,List.getElem_cons_succ,List.getElem_cons_zero,Act.put,List.setIfInBounds_toArray,List.set_cons_zero,List.set_cons_succ];refine WnOps.value (v:=.bool false) (w':=w') rfl (by rfl) (by go_simp) ?_;simp only[List.getElem_toArray,List.getElem_cons_succ,List.getElem_cons_zero,Act.put,List.setIfInBounds_toArray,List.set_cons_zero,List.set_cons_succ];refine WnOps.nil ?_;simp only[Exit.then];refine Wn.seq ?_;refine Wn.cond (t:=false) rfl ?_;simp only[Bool.false_eq_true,if_false];refine Wn.of (wp_exit ?_);simp only[Exit.then,Exit.inBlock,if_true];refine Wn.of ?_;go_wp2_with fail
  go_ret2;unfold ji0;rw[hfr.o];obtain⟨fv',rv',f',nm',np',hst,hnm',hnp'⟩:=hD.st;obtain⟨kk,hmp,hk0',hkj⟩:=hD.mp;rw[List.take_length] at hst hmp hk0';exact⟨wr.heap.size,kk,nm',np',fv',rv',f',_,_,rfl,hst,hnm',hnp',hmp,hk0',by omega,fun b hb=>.inl hb,fun b hb=>hb.imp id (fun h=>h.1),hD.st0⟩
end Go.Proofs.YthiflhkcpanaaaaGreatDoor
