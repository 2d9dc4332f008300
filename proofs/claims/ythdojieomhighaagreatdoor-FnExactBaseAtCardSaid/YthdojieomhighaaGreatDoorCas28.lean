/- Own texts, joined. -/
import Derived.Test.YthdojieomhighaaGreatDoorCas06
import Derived.Test.YthdojieomhighaaGreatDoorCas04
import Derived.Test.YthdojieomhighaaGreatDoorCas07
import Derived.BigQuiet
import Derived.Test.YthdojieomhighaaGreatDoorCas27
set_option linter.unusedSimpArgs false
set_option linter.unusedVariables false
set_option maxHeartbeats 8000000
set_option maxRecDepth 100000
namespace Go.Proofs.YthdojieomhighaaGreatDoor
open Go.RowKit
section
variable (w:World) {ops:Array Oper} {rest:List Oper} {o:Oper} {a:Act} {Q:Exit→Act→World→Prop}
theorem ja5 (hg:o.guard=none) (m x:Operand) (hop:o.op=Op.lookup 116 m x true) (B n:Nat) (f:ByteArray→Option Nat) (hm:a.eval m=.map (some B)) (hown:MapN w B n f) (s:ByteArray) (hx:a.eval x=.string s) (hs:s.size≤maxLen) (k:Nat) (hk:f s=some k)
  (hK:wpList Tryz.prog ops Q rest (a.put o.dst (.tuple #[.int .i64 (k:Int),.bool true])) w):wpList Tryz.prog ops Q (o :: rest) a w :=
 jg3 w hg m x hop B n f hm hown s hx hs (by rw[hk];exact hK)
theorem jb8 (hg:o.guard=none) (m x:Operand) (hop:o.op=Op.lookup 116 m x true) (B n:Nat) (f:ByteArray→Option Nat) (hm:a.eval m=.map (some B)) (hown:MapN w B n f) (s:ByteArray) (hx:a.eval x=.string s) (hs:s.size≤maxLen) (hk:f s=none)
  (hK:wpList Tryz.prog ops Q rest (a.put o.dst (.tuple #[.int .i64 0,.bool false])) w):wpList Tryz.prog ops Q (o :: rest) a w :=
 jg3 w hg m x hop B n f hm hown s hx hs (by rw[hk];exact hK)
theorem jg5 (hg:o.guard=none) (m x:Operand) (hop:o.op=Op.lookup 116 m x false) (B n:Nat) (f:ByteArray→Option Nat) (hm:a.eval m=.map (some B)) (hown:MapN w B n f) (s:ByteArray) (hx:a.eval x=.string s) (hs:s.size≤maxLen) (k:Nat) (hk:f s=some k)
  (hK:wpList Tryz.prog ops Q rest (a.put o.dst (.int .i64 (k:Int))) w):wpList Tryz.prog ops Q (o :: rest) a w :=
 jfq w hg m x hop B n f hm hown s hx hs (by rw[hk];exact hK)
end
theorem jab.grown {S:Nat→Prop} {w0 w w':World} {B:Nat} (h:jab S w0 w) (hg:w.grownBy w' (some B)) (hB:S B):jab S w0 w' :=
 ⟨hg.os.trans h.os,hg.tape.trans h.tape,hg.output.trans h.output,Nat.le_trans h.size hg.size,fun k hk hn=>(hg.block k (Nat.lt_of_lt_of_le hk h.size) (fun e=>hn (by injection e with e;rw[e];exact hB))).trans (h.block k hk hn)⟩
theorem Blk.grown {w w':World} {g B:Nat} {t:TypeId} {cs:Array Value} (h:Blk w g t cs) (hg:w.grownBy w' (some B)) (hne:g≠B):Blk w' g t cs :=
 (hg.block g h.lt (fun e=>hne (by injection e))).trans h
/-! ### How many terms a name has -/
structure Noted (w:World) (B gm gb:Nat) (zs:List GA):Prop where
 map:∃ n,n≤zs.length∧MapN w B n (jax zs)
 cm:Blk w gm 116 #[.map (some B)]
 cb:Blk w gb 4 #[.bool (argsB zs)]
theorem Noted.alloc {w:World} {B gm gb:Nat} {zs:List GA} (h:Noted w B gm gb zs) (o:Obj):Noted (w.alloc o) B gm gb zs:=by
 obtain⟨⟨n,h1,h2⟩,h3,h4⟩:=h;exact⟨⟨n,h1,h2.alloc o⟩,h3.alloc o,h4.alloc o⟩
theorem ju2 (a:GA) (v:Value) (zs:List GA) (B gm gb:Nat) (w:World) {S:Nat→Prop} (hv:jae S w v a.args) (hs:a.n.size≤maxLen) (hl:a.args.length≤1000) (has:zs.length≤1000) (hn:Noted w B gm gb zs) (hd:B≠gb∧gm≠gb∧gm≠B) :
  Calls Tryz.prog 135 #[.agg #[.string a.n,v],.pointer (some ⟨gm,0,none⟩),.pointer (some ⟨gb,0,none⟩)] w fun e w'=>e=.returned (.tuple #[])∧Noted w' B gm gb (zs++[a])∧jab (fun i=>i=B∨i=gb) w w':=by
 obtain⟨A,c,rfl,hc1,hc2⟩:=jaa.form hv;obtain⟨⟨n,hn1,hmn⟩,hcm,hcb⟩:=hn;obtain⟨hd1,hd2,hd3⟩:=hd;have hlm:=hcm.lt;have hlb:=hcb.lt;have q0:=(hcm.alloc (.cells #[.string a.n,.slice A a.args.length c] 43)).cell 0;have q1:=(hcb.alloc (.cells #[.string a.n,.slice A a.args.length c] 43)).cell 0;have q2:=(hcb.alloc (.cells #[.string a.n,.slice A a.args.length c] 43)).frozen 0;have hbs:=jvf zs a;have HM:=zh hmn;have HCM:=zh hcm;have HCB:=zh hcb;clear hv hmn hcm hcb
 cases hf:jax zs a.n with
 | none =>
   rw[hf] at hbs;have HB:=zh (show argsB (zs++[a])=argsB zs from by rw[hbs,Bool.and_true])
   have HFN:=zh (show ∀ x,(if x=a.n then some a.args.length else jax zs x)=jax (zs++[a]) x from fun x=>by
    rw[jc1];by_cases e:x=a.n
    · rw[if_pos e,e,hf,if_pos rfl]
    rw[if_neg e,if_neg (fun h=>e h.symm)];cases jax zs x<;>rfl)
   have HF:=zh hf;clear hbs hf
   go_enter Tryz.func135,Tryz.ntmps135
   go_wp2_with (first
    | (at_lookup;refine jb8 _ rfl _ _ rfl B n (jax zs) rfl (HM.out.alloc _) a.n rfl hs HF.out ?_)
    | (at_mapUpdate;refine jef _ rfl _ _ _ rfl B n (jax zs) rfl (HM.out.alloc _) (by omega) a.n rfl hs a.args.length rfl (by omega) ?_;intro w1 hm1 hg1;have HM1:=zh hm1;have HG1:=zh hg1;clear hm1 hg1))
   go_end0
   have hm1:=HM1.out;rw[HF.out] at hm1;exact⟨rfl,⟨⟨n+1,by simp;omega,hm1.same HFN.out⟩,(HCM.out.alloc _).grown HG1.out hd3,by rw[HB.out];exact (HCB.out.alloc _).grown HG1.out (fun e=>hd1 e.symm)⟩,(jab.of_ext ((Ext.refl _).alloc _)).grown HG1.out (.inl rfl)⟩
 | some m =>
   rw[hf] at hbs;have hk0:(0:Int)≤(m:Int):=Int.natCast_nonneg _;by_cases he:m=a.args.length
   · have HB:=zh (show argsB (zs++[a])=argsB zs from by rw[hbs];simp[he])
     have hg0:(!((m:Int) == (a.args.length:Int)))=false:=by rw[he];simp
     have HFN:=zh (show ∀ x,(if x=a.n then some a.args.length else jax zs x)=jax (zs++[a]) x from fun x=>by
      rw[jc1];by_cases e:x=a.n
      · rw[if_pos e,e,hf,he]
      rw[if_neg e,if_neg (fun h=>e h.symm)];cases jax zs x<;>rfl)
     have HF:=zh hf;clear hbs hf
     go_enter Tryz.func135,Tryz.ntmps135
     go_wp2_with (first
      | (at_lookup;refine ja5 _ rfl _ _ rfl B n (jax zs) rfl (HM.out.alloc _) a.n rfl hs m HF.out ?_)
      | (at_mapUpdate;refine jef _ rfl _ _ _ rfl B n (jax zs) rfl (HM.out.alloc _) (by omega) a.n rfl hs a.args.length rfl (by omega) ?_;intro w1 hm1 hg1;have HM1:=zh hm1;have HG1:=zh hg1;clear hm1 hg1))
     go_end0
     have hm1:=HM1.out;rw[HF.out] at hm1;exact⟨rfl,⟨⟨n,by simp;omega,hm1.same HFN.out⟩,(HCM.out.alloc _).grown HG1.out hd3,by rw[HB.out];exact (HCB.out.alloc _).grown HG1.out (fun e=>hd1 e.symm)⟩,(jab.of_ext ((Ext.refl _).alloc _)).grown HG1.out (.inl rfl)⟩
   have HB:=zh (show argsB (zs++[a])=false from by rw[hbs];simp[he])
   have hg0:(!((m:Int) == (a.args.length:Int)))=true:=by
    rw[Bool.not_eq_true',beq_eq_false_iff_ne];omega
   have HFN:=zh (show ∀ x,jax zs x=jax (zs++[a]) x from fun x=>by
    rw[jc1];by_cases e:a.n=x
    · subst e;rw[hf]
    rw[if_neg e];cases jax zs x<;>rfl)
   have HF:=zh hf;clear hbs hf
   go_enter Tryz.func135,Tryz.ntmps135;go_wp2_with (at_lookup;refine ja5 _ rfl _ _ rfl B n (jax zs) rfl (HM.out.alloc _) a.n rfl hs m HF.out ?_)
   (try simp only[Exit.inBlock,Exit.then]);refine bodyPost_ret (results_none rfl _ _ _) rfl ?_
   exact⟨rfl,⟨⟨n,by simp;omega,((HM.out.setCell (a:=⟨gb,0,none⟩) hd1 _).alloc _).same HFN.out⟩,(HCM.out.far (p:=⟨gb,0,none⟩) hd2 _).alloc _,by rw[HB.out];exact (HCB.out.set_ 0 _).alloc _⟩,(jab.set _ ⟨gb,0,none⟩ _ (.inr rfl)).trans' (jab.of_ext ((Ext.refl _).alloc _))⟩
theorem jys {l:List GR} (h:∀ r∈l,r.body.length≤4):(jap l).length≤5*l.length:=by
 induction l with
 | nil=>exact Nat.le_refl _
 | cons r l ih =>
   have h1:=ih (fun r hr=>h r (List.mem_cons_of_mem _ hr));have h2:=h r (by simp);unfold jap jbh at h1 ⊢;rw[List.map_cons,List.flatten_cons,List.length_append];simp only[List.length_cons,List.length_map] at h1 ⊢;omega
theorem jte {l:List GR} {k:Nat} {r:GR} (h:l[k]? = some r):jap (l.take (k+1))=(jap (l.take k)++[r.head])++r.body.map (·.atom):=by
 obtain⟨hk,rfl⟩:=List.getElem?_eq_some_iff.1 h;unfold jap;rw[List.take_succ_eq_append_getElem hk,List.map_append,List.flatten_append];simp[jbh]
theorem j0f {r:GR} {j:Nat} {p:GP} (h:r.body[j]? = some p):(r.body.take (j+1)).map (·.atom)=(r.body.take j).map (·.atom)++[p.atom]:=by
 obtain⟨hj,rfl⟩:=List.getElem?_eq_some_iff.1 h;rw[List.take_succ_eq_append_getElem hj,List.map_append];rfl
theorem jn8 (v:Value) (l:List GR) (w:World) {S:Nat→Prop} (hv:jal S w v l) (hl:l.length≤8) (hb:∀ r∈l,r.body.length≤4) (ha:∀ r∈l,∀ a∈jbh r,a.args.length≤1000) :
  Calls Tryz.prog 77 #[v] w fun e w'=>(∃ B n,e=.returned (.tuple #[.map (some B),.bool (argsB (jap l))])∧w.heap.size≤B∧n≤40∧MapN w' B n (jax (jap l)))∧Ext w w':=by
 obtain⟨A,c,rfl,hc1,hc2⟩:=jaa.form hv;have HV:=zh (show jal (fun b=>b<w.heap.size) w (.slice A l.length c) l from ListK.sub (k:=kRule) (ListK.low (k:=kRule) hv) (fun b hb=>hb.2));have HBD:=zh hb;have HAL:=zh ha
 have HLT:=zh (fun k=>show (jap (l.take k)).length≤40 from by
  have h1:=jys (l:=l.take k) (fun r hr=>hb r (List.mem_of_mem_take hr));have h2:(l.take k).length≤l.length:=List.length_take_le' _ _;omega)
 have hmm:= @run_makeMap Tryz.prog;have HD:=zh (show w.heap.size≠w.heap.size+1+1∧w.heap.size+1≠w.heap.size+1+1∧w.heap.size+1≠w.heap.size from⟨by omega,by omega,by omega⟩);have HS:=zh (show ∀ i,i=w.heap.size∨i=w.heap.size+1+1→w.heap.size≤i from fun i h=>by omega);clear hv hb ha
 go_enter Tryz.func77,Tryz.ntmps77;go_wp2;clear hmm;go_loopw [15] (fun i wr=>∃ k:Nat,k≤l.length∧i=.int .i64 k∧Hid (Noted wr w.heap.size (w.heap.size+1) (w.heap.size+1+1) (jap (l.take k)))∧Ext w wr) (fun i _=>l.length-(intOf i).toNat)
 case atStart =>
  refine⟨0,Nat.zero_le _,rfl,zh ⟨⟨0,Nat.le_refl _,?_⟩,?_,?_⟩,?_⟩
  · exact (((MapN.made w).alloc _).alloc _).same (fun _=>rfl)
  · have h:=Blk.new (w.alloc (.map #[] 0)) 116 #[.map (some w.heap.size)]
    rw[World.size_alloc] at h;exact h.alloc _
  · have h:=Blk.new ((w.alloc (.map #[] 0)).alloc (.cells #[.map (some w.heap.size)] 116)) 4 #[.bool true]
    rw[World.size_alloc,World.size_alloc] at h;exact h
  exact (((Ext.refl _).alloc _).alloc _).alloc _
 case round =>
  obtain⟨k,hk,rfl,hno,hx⟩:=hrel;have hk0:(0:Int)≤(k:Int):=by omega
  by_cases hlt:k<l.length
  · have hk1:(k:Int)<(l.length:Int):=by omega
    obtain⟨b,off,r,v1,u1,rfl,hb,hrk,hrs,ht,hu,p0,p1,p2⟩:=jal.at_ HV.out hlt;obtain⟨C,e,rfl,he1,he2⟩:=jaa.form ht;obtain⟨D,f,rfl,hf1,hf2⟩:=jaa.form hu;have r0:=(hx.cells.1 b (off+k*3) hb).trans p0;have r1:=(hx.cells.1 b (off+k*3+1) hb).trans p1;have r2:=(hx.cells.1 b (off+k*3+2) hb).trans p2;clear p0 p1 p2;have HRK:=zh hrk;have HU:=zh hu;have HN:=zh (ju2 r.head _ (jap (l.take k)) _ _ _ (wr.alloc (.cells #[.string r.head.n,.slice C r.head.args.length e,.slice D r.body.length f] 45)) (ht.ext (hx.alloc _)) hrs (HAL.out r (List.mem_of_getElem? hrk) _ (by simp[jbh])) (by have:=HLT.out k;omega) (hno.out.alloc _) HD.out);have HR:=zh (Blk.new wr 45 #[.string r.head.n,.slice C r.head.args.length e,.slice D r.body.length f]);have HNR:=zh (show ¬ (wr.heap.size=w.heap.size∨wr.heap.size=w.heap.size+1+1) from by have:=hno.out.cb.lt;omega);have HB4:=zh (HBD.out r (List.mem_of_getElem? hrk));have hl0:=hno.out.cb.lt;clear hrk ht hu;go_wp2_with (go_at_call 135;refine HN.out.mono ?_;rintro e w1 ⟨rfl,hn1,hi1⟩;have HN1:=zh hn1;have hr1:=hi1.blk HR.out HNR.out;have q2:=hr1.cell 2;have hl1:=hr1.lt;have HX1:=zh (hi1.toExt (hx.alloc _) HS.out);clear hn1 hi1 hr1)
    go_loopw [26] (fun i wr=>∃ j:Nat,j≤r.body.length∧i=.int .i64 j∧Hid (Noted wr w.heap.size (w.heap.size+1) (w.heap.size+1+1) (jap (l.take k)++[r.head]++(r.body.take j).map (·.atom)))∧Ext w wr) (fun i _=>r.body.length-(intOf i).toNat)
    case atStart=>exact⟨0,Nat.zero_le _,rfl,zh (by simpa using HN1.out),HX1.out⟩
    case round =>
     obtain⟨j,hj,rfl,hno2,hx⟩:=hrel;have hj0:(0:Int)≤(j:Int):=by omega
     by_cases hjt:j<r.body.length
     · have hj1:(j:Int)<(r.body.length:Int):=by omega
       obtain⟨b2,off2,p,v2,rfl,hb2,hpk,hps,htp,z0,z1,z2⟩:=jao.at_ HU.out hjt;obtain⟨E2,g2,rfl,_,_⟩:=jaa.form htp;have s0:=(hx.cells.1 b2 (off2+j*3) hb2).trans z0;have s1:=(hx.cells.1 b2 (off2+j*3+1) hb2).trans z1;have s2:=(hx.cells.1 b2 (off2+j*3+2) hb2).trans z2;clear z0 z1 z2;have HE:=zh (show (jap (l.take k)++[r.head]++(r.body.take j).map (·.atom))++[p.atom]=jap (l.take k)++[r.head]++(r.body.take (j+1)).map (·.atom) from by rw[j0f hpk,List.append_assoc _ _ [p.atom]])
       have HN2:=zh (ju2 p.atom _ (jap (l.take k)++[r.head]++(r.body.take j).map (·.atom)) _ _ _ (wr.alloc (.cells #[.bool p.no,.string p.atom.n,.slice E2 p.atom.args.length g2] 112)) (htp.ext (hx.alloc _)) hps (HAL.out r (List.mem_of_getElem? HRK.out) _ (by simp[jbh];exact .inr ⟨p,List.mem_of_getElem? hpk,rfl⟩)) (by
        have h1:=HLT.out k;have h2:=HB4.out;simp only[List.length_append,List.length_cons,List.length_nil,List.length_map,List.length_take];omega) (hno2.out.alloc _) HD.out)
       clear hpk htp;go_wp2_with (go_at_call 135;refine HN2.out.mono ?_;rintro e w2 ⟨rfl,hn2,hi2⟩;have HN3:=zh hn2;have HX2:=zh (hi2.toExt (hx.alloc _) HS.out);clear hn2 hi2)
       go_roundw
       case rel=>exact⟨j+1,by omega,by go_num,zh (by rw[← HE.out];exact HN3.out),HX2.out⟩
       case measure=>simp[intOf];omega
     have HE:=zh (show jap (l.take k)++[r.head]++(r.body.take j).map (·.atom)=jap (l.take (k+1)) from by rw[jte HRK.out,List.take_of_length_le (show r.body.length≤j by omega)]);go_wp2;go_roundw
     case rel=>exact⟨k+1,by omega,by go_num,zh (by rw[← HE.out];exact hno2.out),hx⟩
     case measure=>simp[intOf];omega
  have hke:k=l.length:=by omega
  subst hke;have HN:=zh (show Noted wr w.heap.size (w.heap.size+1) (w.heap.size+1+1) (jap l) from by have:=hno.out;rwa [List.take_length] at this);have q0:=HN.out.cm.cell 0;have q1:=HN.out.cb.cell 0;have hl1:=HN.out.cm.lt;have hl2:=HN.out.cb.lt;have HL:=zh (HLT.out l.length);go_wp2_with fail
  go_quiet (fail)
  go_wp2;go_ret2;obtain⟨⟨n,hn,hm⟩,_,_⟩:=HN.out;refine⟨⟨_,n,rfl,Nat.le_refl _,?_,hm⟩,hx.drewN _⟩;have:=HL.out;rw[List.take_length] at this;omega
end Go.Proofs.YthdojieomhighaaGreatDoor
namespace Go.Proofs.YthdojieomhighaaGreatDoor
open Go.RowKit Go.Conc
/-! ### In plain words -/
structure RS where
 sn:List GA
 fr:List GA
 ok:Bool
def stepR (facts:List GA) (st:RS) (a:GA):RS × Bool :=
 if jcd st.sn a || jcd facts a then (st,true) else if facts.length+(st.sn.length+1)≤300 then (⟨st.sn++[a],st.fr++[a],true⟩,true) else (⟨st.sn++[a],st.fr,false⟩,false)
theorem jwh (facts:List GA) (st:RS) (a:GA):(stepR facts st a).1.sn.length≤st.sn.length+1:=by
 unfold stepR;split
 · exact Nat.le_succ _
 split<;>simp
def seenF (num:Nat) (sn:List GA) (s:ByteArray):Option Nat:=if sn.any (fun b=>decide (s=strOf (atomL b))) then some num else none
theorem jyt (num:Nat) (sn:List GA) (a:GA):(seenF num sn (strOf (atomL a))).isSome=jcd sn a:=by
 unfold seenF jcd;split
 · rename_i h;rw[h];rfl
 rename_i h;simp only[Bool.not_eq_true] at h;rw[h];rfl
theorem jwi (num:Nat) (sn:List GA) (a:GA):(fun x=>if x=strOf (atomL a) then some num else seenF num sn x)=seenF num (sn++[a]):=by
 funext x
 unfold seenF;rw[List.any_append];by_cases h:x=strOf (atomL a)
 · simp[h]
 simp[h]
theorem jjw {facts:List GA} (hf:∀ a∈facts,factB a=true):∀ {l fr:List GA},(∀ a∈l,factB a=true)→(∀ a∈fr,factB a=true) →
  match jd0 facts fr l with
  | some fr'=>feedA (stepR facts) l ⟨fr,fr,true⟩=(⟨fr',fr',true⟩,true)
  | none=>(feedA (stepR facts) l ⟨fr,fr,true⟩).1.ok=false
 | [],fr,_,_=>by simp[jd0,feedA]
 | a :: l,fr,hl,hfr=>by
   have ha:=hl a List.mem_cons_self;have hl':∀ x∈l,factB x=true:=fun x hx=>hl x (List.mem_cons_of_mem _ hx)
   have e1:jcd fr a=fr.any (sameA a):=jgi hfr ha;have e2:jcd facts a=facts.any (sameA a):=jgi hf ha;simp only[jd0,feedA];by_cases hc:(facts.any (sameA a) || fr.any (sameA a))=true
   · rw [if_pos hc]
     have hs:stepR facts ⟨fr,fr,true⟩ a=(⟨fr,fr,true⟩,true):=by
      unfold stepR;rw[if_pos (by rw[e1,e2,Bool.or_comm];exact hc)]
     rw[hs];exact jjw hf hl' hfr
   rw[if_neg hc]
   have hs:stepR facts ⟨fr,fr,true⟩ a=if facts.length+(fr.length+1)≤300 then (⟨fr++[a],fr++[a],true⟩,true) else (⟨fr++[a],fr,false⟩,false):=by
    unfold stepR;rw[if_neg (by rw[e1,e2,Bool.or_comm];exact hc)]
   rw[hs];by_cases hle:facts.length+(fr.length+1)≤300
   · rw [if_pos hle,if_pos hle]
     exact jjw hf hl' (fun x hx=>(List.mem_append.1 hx).elim (hfr x) (fun h=>by simp at h;rw[h];exact ha))
   rw[if_neg hle,if_neg hle];rfl
/-! ### Where it lies -/
theorem jf2 (w:World) {ops:Array Oper} {rest:List Oper} {o:Oper} {a:Act} {Q:Exit→Act→World→Prop} (hg:o.guard=none) (m x v:Operand) (hop:o.op=Op.mapUpdate 116 m x v) (B n:Nat) (f:ByteArray→Option Nat) (hm:a.eval m=.map (some B)) (hown:MapN w B n f) (hn:n≤100000000000000) (s:ByteArray) (hx:a.eval x=.string s) (hs:s.size≤maxLen) (k:Nat) (hv:a.eval v=.int .i64 ((k:Nat):Int)) (hk:k≤1000000)
  (hK:∀ w',MapN w' B (if (f s).isSome then n else n+1) (fun x=>if x=s then some k else f x)→w.grownBy w' (some B)→wpList Tryz.prog ops Q rest (a.put o.dst undef) w'):wpList Tryz.prog ops Q (o :: rest) a w:=by
 obtain⟨D,h1,h2,h3⟩:=hown;refine wpList_mapUpdate_own w hg m x v _ hop 9 3 jlp Tryz.underlying116 _ B n D hm h1 (by unfold maxLen;omega) _ _ _ hx hv (Go.WideMaps.keyOf_string_mk Tryz.underlying9 hs) _ [] (plainElem_int Tryz.underlying3 (WalkArith.wf_i64 (by omega))) ?_;intro w' h4 h5;exact hK w' (MapN.put h1 h2 h3 h4) h5
def BufR (Z:Nat→Prop) (w:World) (buf:Array Value) (fr:List GA):Prop:=buf.size=fr.length∧∀ (i:Nat) (a:GA),fr[i]? = some a→∃ v,buf[i]? = some (.agg #[.string a.n,v])∧jae Z w v a.args∧Light a
theorem BufR.nil (Z:Nat→Prop) (w:World):BufR Z w #[] []:=⟨rfl,fun i a h=>by simp at h⟩
theorem BufR.imp {Z Z':Nat→Prop} {w w':World} {buf:Array Value} {fr:List GA} (h:BufR Z w buf fr) (hZ:∀ b,Z b→Z' b) (he:Agree Z w w') (hs:w.heap.size≤w'.heap.size):BufR Z' w' buf fr :=
 ⟨h.1,fun i a hi=>by obtain⟨v,h1,h2,h3⟩:=h.2 i a hi;exact⟨v,h1,h2.impL (fun b hb _=>hZ b hb) he hs,h3⟩⟩
theorem BufR.push {Z:Nat→Prop} {w:World} {buf:Array Value} {fr:List GA} {a:GA} {v:Value} (h:BufR Z w buf fr) (hv:jae Z w v a.args) (ha:Light a):BufR Z w (buf.push (.agg #[.string a.n,v])) (fr++[a]):=by
 refine⟨by simp[h.1],fun i x hi=>?_⟩;rcases Nat.lt_or_ge i fr.length with hlt|hge
 · rw [List.getElem?_append_left hlt] at hi
   obtain⟨u,h1,h2,h3⟩:=h.2 i x hi;refine⟨u,?_,h2,h3⟩;rw[Array.getElem?_push,if_neg (by rw[h.1];omega)];exact h1
 have hil:i<(fr++[a]).length:=(List.getElem?_eq_some_iff.1 hi).1;simp only[List.length_append,List.length_cons,List.length_nil] at hil;obtain rfl:i=fr.length:=by omega
 rw[List.getElem?_append_right (Nat.le_refl _),Nat.sub_self] at hi;simp only[List.getElem?_cons_zero,Option.some.injEq] at hi;subst hi;exact⟨v,by rw[Array.getElem?_push,if_pos h.1.symm],hv,ha⟩
structure RndR (n num stb sb:Nat) (st:RS) (w:World):Prop where
 lo:n+7≤sb
 sz:n+7≤w.heap.size
 sB:Blk w n 144 #[.pointer (some ⟨stb,0,none⟩)]
 nB:Blk w (n+1) 3 #[.int .i64 (num:Int)]
 fB:Blk w (n+3) 257 #[.chan (some (n+2))]
 map:MapN w (n+4) st.sn.length (seenF num st.sn)
 mB:Blk w (n+5) 116 #[.map (some (n+4))]
 oB:Blk w (n+6) 4 #[.bool st.ok]
 few:st.fr.length≤st.sn.length
 buf:∃ (b:Array Value) (s r:Nat) (Z:Nat→Prop),w.heap[n+2]? = some (.chan 301 b false s r false)∧BufR Z w b st.fr∧∀ i,Z i→n+7≤i∧i<w.heap.size∧i≠sb
theorem RndR.keep {n num stb sb:Nat} {st:RS} {w w':World} (h:RndR n num stb sb st w) (hi:jab (fun b=>b=sb) w w'):RndR n num stb sb st w':=by
 have hl:=h.lo;have hz:=h.sz;have hne:∀ i,i<n+7→¬ i=sb:=fun i hi e=>by omega
 obtain⟨b,s,r,Z,h1,h2,h3⟩:=h.buf
 exact ⟨hl,Nat.le_trans hz hi.size,hi.blk h.sB (hne _ (by omega)),hi.blk h.nB (hne _ (by omega)),hi.blk h.fB (hne _ (by omega)),h.map.ext (hi.block _ (by omega) (hne _ (by omega))),hi.blk h.mB (hne _ (by omega)),hi.blk h.oB (hne _ (by omega)),h.few,
  b,s,r,Z,(hi.block _ (by omega) (hne _ (by omega))).trans h1,h2.imp (fun _ h=>h) (fun i hz hlt=>hi.block i hlt (h3 i hz).2.2) hi.size,fun i hz=>⟨(h3 i hz).1,Nat.lt_of_lt_of_le (h3 i hz).2.1 hi.size,(h3 i hz).2.2⟩⟩
theorem RndR.ext {n num stb sb:Nat} {st:RS} {w w':World} (h:RndR n num stb sb st w) (hx:Ext w w'):RndR n num stb sb st w':=h.keep (jab.of_ext hx)
theorem jpi:∀ args w,(callFunc 209 args).run Tryz.prog w=.ok (.enter 209 args) w:=enters_of Tryz.func209 (by kernel_rfl) (by rfl)
theorem jwj (n num stb sb m:Nat) (a:GA) (v:Value) (st:RS) (w:World) {F:Nat→Prop} {mb pb nm np:Nat} {facts:List GA} {rounds:List Nat} {fv rv:Value} {f:Value→Value} (hst:jdz F w stb facts rounds fv rv mb pb nm np f) (hv:jae (fun b=>m≤b∧b<w.heap.size) w v a.args) (hm:sb<m) (ha:Light a) (hR:RndR n num stb sb st w)
  (hF:∀ b,F b→b<n) (hnum:num≤1000000) (hN:st.sn.length≤10000000000000) (hfl:facts.length≤1000) :
  Calls Tryz.prog 209 #[.agg #[.string a.n,v],.pointer (some ⟨n+5,0,none⟩),.pointer (some ⟨n,0,none⟩),.pointer (some ⟨n+1,0,none⟩),.pointer (some ⟨n+6,0,none⟩),.pointer (some ⟨n+3,0,none⟩)] w fun e w' =>
   e=.returned (.bool (stepR facts st a).2)∧RndR n num stb sb (stepR facts st a).1 w'∧jab (fun b=>(n+2≤b∧b<n+7)∨w.heap.size≤b) w w':=by
 obtain⟨A,c,rfl,hc1,hc2⟩:=jaa.form hv;obtain⟨W0,hW0⟩:∃ W0,W0=w.alloc (.cells #[.string a.n,.slice A a.args.length c] 43):=⟨_,rfl⟩
 have HB0:=zh (show Blk W0 w.heap.size 43 #[.string a.n,.slice A a.args.length c] from by rw[hW0];exact Blk.new _ _ _);have HX0:=zh (show Ext w W0 from by rw[hW0];exact (Ext.refl _).alloc _);have HZ0:=zh (show W0.heap.size=w.heap.size+1 from by rw[hW0];simp);have HAT:=zh (fun (W:World) (hW:Ext w W)=>jgh a _ W (hv.ext hW) ha.w);have HHO:=zh (fun (W:World) (hW:Ext w W)=>jq1 a _ W (hst.ext hW) (hv.ext hW) ha.w);have HV:=zh hv;have HR:=zh hR;have HST:=zh hst;have HF:=zh hF;have HA:=zh ha;have hts:(strOf (atomL a)).size≤maxLen:=by rw[jdq];have:=jlt a;have:=ha.w;unfold maxLen;omega
 obtain⟨sx,hsx⟩:∃ sx,sx=strOf (atomL a):=⟨_,rfl⟩
 rw[← hsx] at HAT hts;have HSX:=zh hsx;have p0:=HB0.out.cell 0;have p1:=HB0.out.cell 1;have pl:=HB0.out.lt;clear hv hst hF ha hR hsx;refine jmi Tryz.func209 rfl ?_;simp only[Tryz.ntmps209,List.size_toArray,List.length_cons,List.length_nil,Nat.reduceAdd,Nat.reduceSub,Array.replicate_succ,Array.replicate_zero,List.push_toArray,List.append_toArray,List.nil_append,List.cons_append];refine Wn.seq (Wn.of ?_);go_wp2_with fail
 rw[← hW0];clear hW0;refine Wn.seq (Wn.of ?_);go_wp2_with (first|(go_at_call 210;refine (HAT.out _ HX0.out).mono ?_;rintro e w1 ⟨rfl,hx1⟩)|fail)
 have HX1:=zh (HX0.out.trans' hx1);have hr1:=HR.out.ext HX1.out;have HB1:=zh (HB0.out.ext hx1);have HR1:=zh hr1;have HMAP:=zh hr1.map;have q0:=HB1.out.cell 0;have q1:=HB1.out.cell 1;have ql:=HB1.out.lt;have m0:=hr1.mB.cell 0;have ml:=hr1.mB.lt;have s0:=hr1.sB.cell 0;have sl:=hr1.sB.lt;have n0:=hr1.nB.cell 0;have nl:=hr1.nB.lt;have f0:=hr1.fB.cell 0;have fl:=hr1.fB.lt;have o0:=hr1.oB.cell 0;have of0:=hr1.oB.frozen 0;have ol:=hr1.oB.lt;have hfu:=HST.out.blk.cell 0;clear hr1 hx1 p0 p1 pl;have hseen:=jyt num st.sn a;rw[← HSX.out] at hseen
 cases h1:jcd st.sn a with
 | true =>
   have HSN:=zh (show seenF num st.sn sx=some num from by
    rw[h1] at hseen;unfold seenF at hseen ⊢;split at hseen
    · rename_i h;rw[if_pos h]
    cases hseen)
   have HSTEP:=zh (show stepR facts st a=(st,true) from by unfold stepR;rw[h1];rfl);clear hseen h1;refine Wn.seq (Wn.of ?_);go_wp2_with (first|(at_lookup;refine ja5 _ rfl _ _ rfl (n+4) st.sn.length (seenF num st.sn) rfl HMAP.out sx rfl hts num HSN.out ?_)|fail)
   go_ret;rw[HSTEP.out];exact⟨rfl,HR1.out,jab.of_ext HX1.out⟩
 | false =>
   have HSN:=zh (show seenF num st.sn sx=none from by
    rw[h1] at hseen
    cases h:seenF num st.sn sx with
    | none=>rfl
    | some k=>rw[h] at hseen;cases hseen)
   cases h2:jcd facts a with
   | true =>
     have HSTEP:=zh (show stepR facts st a=(st,true) from by unfold stepR;rw[h1,h2];rfl);rw[h2] at HHO;clear hseen h1 h2;refine Wn.seq (Wn.of ?_)
     go_wp2_with (first
      | (at_lookup;refine jb8 _ rfl _ _ rfl (n+4) st.sn.length (seenF num st.sn) rfl HMAP.out sx rfl hts HSN.out ?_)
      | (go_at_call 211;refine (HHO.out _ HX1.out).mono ?_;rintro e w2 ⟨rfl,hx2⟩)
      | fail)
     go_ret;rw[HSTEP.out];exact⟨rfl,HR1.out.ext hx2,jab.of_ext (HX1.out.trans' hx2)⟩
   | false =>
     rw[h2] at HHO;have HH1:=zh h1;have HH2:=zh h2;clear hseen h1 h2;refine Wn.seq (Wn.of ?_)
     go_wp2_with (first
      | (at_lookup;refine jb8 _ rfl _ _ rfl (n+4) st.sn.length (seenF num st.sn) rfl HMAP.out sx rfl hts HSN.out ?_)
      | (go_at_call 211;refine (HHO.out _ HX1.out).mono ?_;rintro e w2 ⟨rfl,hx2⟩)
      | fail)
     have HX2:=zh (HX1.out.trans' hx2);have hr2:=HR1.out.ext hx2;have HR2:=zh hr2;have HMA2:=zh hr2.map;have HB2:=zh (HB1.out.ext hx2);have m0':=hr2.mB.cell 0;have ml':=hr2.mB.lt;have n0':=hr2.nB.cell 0;have nl':=hr2.nB.lt;clear m0 ml s0 sl n0 nl f0 fl o0 of0 ol q0 q1 ql hfu hr2 hx2;refine Wn.seq (Wn.of ?_);go_wp2_with (first|(at_mapUpdate;refine jf2 _ rfl _ _ _ rfl (n+4) st.sn.length (seenF num st.sn) rfl HMA2.out (by omega) sx rfl hts num rfl hnum ?_;intro w3 hm3 hg3)|fail)
     rw[HSN.out,if_neg (by decide)] at hm3;have HM3:=zh (show MapN w3 (n+4) (st.sn.length+1) (seenF num (st.sn++[a])) from by rw[← jwi,← HSX.out];exact hm3);have hblk:∀ i,i<w2.heap.size→i≠n+4→w3.heap[i]? = w2.heap[i]? :=fun i hi hne=>hg3.block i hi (fun e=>hne (by injection e))
     have hsz3:w2.heap.size≤w3.heap.size:=hg3.size;have HG3:=zh hblk;have hI3:jab (fun b=>b=n+4) w2 w3:=⟨hg3.os,hg3.tape,hg3.output,hg3.size,fun i hi hne=>hblk i hi hne⟩
     have HI3:=zh hI3;have hlo:=HR2.out.lo;have hsz2:=HR2.out.sz;have HST3:=zh ((HST.out.ext HX2.out).inside hI3 (fun b hb e=>by have:=HF.out b hb;omega));have hb3:∀ {g:Nat} {t:TypeId} {cs:Array Value},Blk w2 g t cs→g≠n+4→Blk w3 g t cs:=fun hb hne=>hI3.blk hb hne
     have s0:=(hb3 HR2.out.sB (by omega)).cell 0;have sl:=(hb3 HR2.out.sB (by omega)).lt;have m0:=(hb3 HR2.out.mB (by omega)).cell 0;have ml:=(hb3 HR2.out.mB (by omega)).lt;have o0:=(hb3 HR2.out.oB (by omega)).cell 0;have of0:=(hb3 HR2.out.oB (by omega)).frozen 0;have ol:=(hb3 HR2.out.oB (by omega)).lt;have hfu:=HST3.out.blk.cell 0;have hful:=HST3.out.blk.lt;obtain⟨FA,fc,hfe,_,_⟩:=jaa.form HST3.out.fa;rw[hfe] at hfu
     have hlen:∀ (ty:TypeId),(Builtin.len_ #[116] ty #[.map (some (n+4))]).run Tryz.prog w3.drew=.ok (.int .i64 ((st.sn.length+1:Nat):Int)) w3.drew:=fun ty=>by
      obtain⟨D,k1,k2,_⟩:=HM3.out.drew;rw[k1.len Tryz.underlying116 ty,k2]
     clear m0' ml' n0' nl' hm3 hg3 hblk hI3;refine Wn.seq (Wn.of ?_)
     go_still_tail 9,(by kernel_rfl)
     change wpList _ _ _ _ _ w3.drew;have hfl0:(0:Int)≤(facts.length:Int):=by omega
     go_wp2_with fail
     obtain⟨ba,sa,ra,Z,hch,hbu,hZ⟩:=HR2.out.buf;have hfew:=HR2.out.few;have hszw2:w.heap.size+1≤w2.heap.size:=by rw[← HZ0.out];exact Nat.le_trans (by have:=HB2.out.lt;have:=HZ0.out;omega) (Nat.le_refl _)
     have finish:∀ (sn' fr':List GA) (ok':Bool) (w5:World),sn'=st.sn++[a]→fr'.length≤sn'.length→jab (fun b=>b=n+2∨b=n+4∨b=n+6) w2 w5→w5.heap[n+4]? = w3.heap[n+4]? →Blk w5 (n+6) 4 #[.bool ok'] →
       (∃ (b:Array Value) (s r:Nat) (Z:Nat→Prop),w5.heap[n+2]? = some (.chan 301 b false s r false)∧BufR Z w5 b fr'∧∀ i,Z i→n+7≤i∧i<w5.heap.size∧i≠sb)→RndR n num stb sb ⟨sn',fr',ok'⟩ w5∧jab (fun b=>(n+2≤b∧b<n+7)∨w.heap.size≤b) w w5:=by
      intro sn' fr' ok' w5 e1 h1 hi h4 h6 hbuf;have hne:∀ i,i<n+7→i≠n+2→i≠n+4→i≠n+6→¬ (i=n+2∨i=n+4∨i=n+6):=fun i _ h1 h2 h3 h=>by omega
      refine⟨⟨hlo,Nat.le_trans hsz2 hi.size,hi.blk HR2.out.sB (hne _ (by omega) (by omega) (by omega) (by omega)),hi.blk HR2.out.nB (hne _ (by omega) (by omega) (by omega) (by omega)),hi.blk HR2.out.fB (hne _ (by omega) (by omega) (by omega) (by omega)),?_,hi.blk HR2.out.mB (hne _ (by omega) (by omega) (by omega) (by omega)),h6,h1,hbuf⟩,?_⟩
      · have h:=HM3.out.ext h4
        have e2:sn'.length=st.sn.length+1:=by rw[e1];simp
        show MapN w5 (n+4) sn'.length (seenF num sn');rw[e2,e1];exact h
      exact (jab.of_ext HX2.out).trans' (hi.sub (fun b hb _=>.inl (by omega)))
     by_cases hle:facts.length+(st.sn.length+1)≤300
     · have hli:((facts.length:Int)+((st.sn.length:Int)+1)≤300):=by omega
       have HSTEP:=zh (show stepR facts st a=(⟨st.sn++[a],st.fr++[a],true⟩,true) from by unfold stepR;rw[HH1.out,HH2.out,if_neg (by decide),if_pos hle]);simp only[hli,decide_true];obtain⟨w4,hw4⟩:∃ w4,w4=(w3.setCell ⟨n+6,0,none⟩ (.bool true)).drew:=⟨_,rfl⟩
       have hI4:jab (fun b=>b=n+2∨b=n+4∨b=n+6) w2 w4:=by
        rw[hw4];exact (HI3.out.sub (fun b hb _=>.inr (.inl hb))).trans' ((jab.set _ _ _ (.inr (.inr rfl))).trans' (jab.of_ext (Ext.refl _).drew))
       have hO4:Blk w4 (n+6) 4 #[.bool true]:=by rw[hw4];exact (show Blk (w3.setCell ⟨n+6,0,none⟩ (.bool true)) (n+6) 4 #[.bool true] from by simpa using (hb3 HR2.out.oB (by omega)).set_ 0 (.bool true)).drew
       have h44:w4.heap[n+4]? = w3.heap[n+4]? :=by rw[hw4];exact Below.heap_setCell w3 ⟨n+6,0,none⟩ _ (n+4) (by show n+4≠n+6;omega)
       have h42:w4.heap[n+2]? = some (.chan 301 ba false sa ra false):=by rw[hw4];exact (Below.heap_setCell w3 ⟨n+6,0,none⟩ _ (n+2) (by show n+2≠n+6;omega)).trans ((HG3.out _ (by omega) (by omega)).trans hch)
       rw[← hw4];clear hw4 s0 sl m0 ml o0 of0 ol hfu hful hlen;have hne:∀ i,i≠n+2→i≠n+4→i≠n+6→¬ (i=n+2∨i=n+4∨i=n+6):=fun i h1 h2 h3 h=>by omega
       have o0:=hO4.cell 0;have ol:=hO4.lt;have hF4:=hI4.blk HR2.out.fB (hne _ (by omega) (by omega) (by omega));have f0:=hF4.cell 0;have fl:=hF4.lt;have hwn:n+7≤w.heap.size:=HR.out.sz;have hB4:=hI4.blk HB2.out (hne _ (by omega) (by omega) (by omega));have q0:=hB4.cell 0;have q1:=hB4.cell 1;have ql:=hB4.lt;have hroom:ba.size<301:=by rw[hbu.1];omega
       refine Wn.seq ?_;refine Wn.seq (Wn.of ?_);go_wp2_with fail
       refine Wn.cond (t:=true) rfl ?_;simp only[if_true];refine Wn.region ?_;simp only[List.size_toArray,List.length_cons,List.length_nil,Nat.reduceAdd,Nat.zero_add,List.range,List.range.loop];refine WnOps.value (v:=.chan (some (n+2))) (w':=w4) rfl (by rfl) (by go_simp) ?_;simp only[Act.put,List.setIfInBounds_toArray,List.set_cons_zero,List.set_cons_succ];refine WnOps.value (v:=.agg #[.string a.n,.slice A a.args.length c]) (w':=w4) rfl (by rfl) (by go_simp) ?_;simp only[Act.put,List.setIfInBounds_toArray,List.set_cons_zero,List.set_cons_succ];refine WnOps.send (c:=n+2) (v:=.agg #[.string a.n,.slice A a.args.length c]) (z:=.tuple #[]) (w':=w4) rfl (by rfl) (by simp[execOp,scase,Act.eval]) h42 hroom ?_;refine WnOps.nil ?_;simp only[Exit.then,List.getElem_toArray,List.getElem_cons_succ,List.getElem_cons_zero,Act.put,List.setIfInBounds_toArray,List.set_cons_zero,List.set_cons_succ];obtain⟨w5,hw5⟩:∃ w5,w5=w4.setChan (n+2) 301 (ba.push (.agg #[.string a.n,.slice A a.args.length c])) false (sa+1) ra false:=⟨_,rfl⟩
       have hn4:n+2<w4.heap.size:=Nat.lt_of_lt_of_le (by omega) hI4.size;have hc5:w5.heap[n+2]? = some (.chan 301 (ba.push (.agg #[.string a.n,.slice A a.args.length c])) false (sa+1) ra false):=by rw[hw5];exact heap_setChan w4 _ _ _ _ _ _ _ hn4
       have hz5:w5.heap.size=w4.heap.size:=by rw[hw5];exact size_setChan _ _ _ _ _ _ _ _
       have hb5:∀ i,i≠n+2→w5.heap[i]? = w4.heap[i]? :=fun i hi=>by
        rw[hw5];simp only[World.setChan];rw[Array.getElem?_setIfInBounds_ne (fun e=>hi e.symm)]
       have hI5:jab (fun b=>b=n+2∨b=n+4∨b=n+6) w4 w5:=⟨by rw[hw5];rfl,by rw[hw5];rfl,by rw[hw5];rfl,Nat.le_of_eq hz5.symm,fun i _ hi=>hb5 i (fun e=>hi (.inl e))⟩
       have hO5:Blk w5 (n+6) 4 #[.bool true]:=(hb5 _ (by omega)).trans hO4;have hI25:=hI4.trans' hI5;rw[← hw5];clear hw5 o0 ol f0 fl q0 q1 ql;have o0:=hO5.cell 0;have ol:=hO5.lt;refine Wn.of ?_;go_wp2_with fail
       go_ret;rw[HSTEP.out]
       obtain ⟨k1,k2⟩:=finish (st.sn++[a]) (st.fr++[a]) true w5 rfl (by simp;omega) hI25 ((hb5 _ (by omega)).trans h44) hO5
        ⟨_, sa+1,ra,fun i=>Z i∨(m≤i∧i<w.heap.size),hc5,BufR.push (hbu.imp (fun _ h=>.inl h) (fun b hz hlt=>hI25.block b hlt (fun e=>by have:=(hZ b hz).1;omega)) hI25.size)
         ((HV.out.ext HX2.out).impL (fun b hb _=>.inr hb) (fun b hb hlt=>hI25.block b hlt (fun e=>by omega)) hI25.size) HA.out,
         fun i hz=>by
          have hs25:=hI25.size;have hs02:=HX2.out.size;rcases hz with hz|hz
          · exact⟨(hZ i hz).1,Nat.lt_of_lt_of_le (hZ i hz).2.1 hs25,(hZ i hz).2.2⟩
          exact⟨by omega,by omega,by omega⟩⟩
       exact⟨rfl,k1,k2⟩
     have hli:¬ ((facts.length:Int)+((st.sn.length:Int)+1)≤300):=by omega
     have HSTEP:=zh (show stepR facts st a=(⟨st.sn++[a],st.fr,false⟩,false) from by unfold stepR;rw[HH1.out,HH2.out,if_neg (by decide),if_neg hle]);simp only[hli,decide_false];obtain⟨w4,hw4⟩:∃ w4,w4=(w3.setCell ⟨n+6,0,none⟩ (.bool false)).drew:=⟨_,rfl⟩
     have hI4:jab (fun b=>b=n+2∨b=n+4∨b=n+6) w2 w4:=by
      rw[hw4];exact (HI3.out.sub (fun b hb _=>.inr (.inl hb))).trans' ((jab.set _ _ _ (.inr (.inr rfl))).trans' (jab.of_ext (Ext.refl _).drew))
     have hO4:Blk w4 (n+6) 4 #[.bool false]:=by rw[hw4];exact (show Blk (w3.setCell ⟨n+6,0,none⟩ (.bool false)) (n+6) 4 #[.bool false] from by simpa using (hb3 HR2.out.oB (by omega)).set_ 0 (.bool false)).drew
     have h44:w4.heap[n+4]? = w3.heap[n+4]? :=by rw[hw4];exact Below.heap_setCell w3 ⟨n+6,0,none⟩ _ (n+4) (by show n+4≠n+6;omega)
     have h42:w4.heap[n+2]? = w3.heap[n+2]? :=by rw[hw4];exact Below.heap_setCell w3 ⟨n+6,0,none⟩ _ (n+2) (by show n+2≠n+6;omega)
     rw[← hw4];clear hw4 s0 sl m0 ml o0 of0 ol hfu hful hlen;have o0:=hO4.cell 0;have ol:=hO4.lt;refine Wn.of ?_;go_wp2_with fail
     go_ret;rw[HSTEP.out];obtain⟨k1,k2⟩:=finish (st.sn++[a]) st.fr false w4 rfl (by simp;omega) hI4 h44 hO4 ⟨ba,sa,ra,Z,h42.trans ((HG3.out _ (by omega) (by omega)).trans hch),hbu.imp (fun _ h=>h) (fun b hz hlt=>hI4.block b hlt (fun e=>by have:=(hZ b hz).1;omega)) hI4.size,fun i hz=>⟨(hZ i hz).1,Nat.lt_of_lt_of_le (hZ i hz).2.1 hI4.size,(hZ i hz).2.2⟩⟩;exact⟨rfl,k1,k2⟩
end Go.Proofs.YthdojieomhighaaGreatDoor
