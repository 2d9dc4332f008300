/- Own texts, joined. -/
import Derived.Test.YthdojieomhighaaGreatDoorCas11
import Derived.Test.YthdojieomhighaaGreatDoorCas17
import Derived.Test.YthdojieomhighaaGreatDoorCas07
import Derived.Test.YthdojieomhighaaGreatDoorCas29
import Derived.Test.YthdojieomhighaaGreatDoorCas30
import Derived.Test.YthdojieomhighaaGreatDoorCas22
import Derived.Test.YthdojieomhighaaGreatDoorCas02
import Derived.Shelf.SlSortCmp.WholeK
import Derived.Test.YthdojieomhighaaGreatDoorCas04
import Derived.Test.YthdojieomhighaaGreatDoorCas05
import Derived.Test.YthdojieomhighaaGreatDoorCas21
import Derived.Test.YthdojieomhighaaGreatDoorCas09
set_option linter.unusedSimpArgs false
set_option linter.unusedVariables false
set_option maxHeartbeats 8000000
set_option maxRecDepth 100000
namespace Go.Proofs.YthdojieomhighaaGreatDoor
open Go.RowKit
theorem jrz (xs:List GA) (v:Value) (w:World) {S:Nat→Prop} (hv:jac S w v xs) (hS:∀ b,S b→b<w.heap.size) (ha:∀ a∈xs,a.args.length≤1000∧wAtom a≤4194304) (hl:xs.length≤1000) :
  Calls Tryz.prog 158 #[v] w fun e w'=>e=.returned (.pointer (some ⟨w.heap.size+1+1,0,none⟩)) ∧
   (∃ fv rv f nm np,nm≤2000*xs.length∧np≤xs.length∧ja2 (w.heap.size+1+1+1) S (fun b=>b<w.heap.size) w' (w.heap.size+1+1) w.heap.size (w.heap.size+1) fv rv f xs (List.replicate xs.length 0) (jam xs) nm (pmOf xs) np)∧Ext w w':=by
 obtain⟨A,c,rfl,hc1,hc2⟩:=jaa.form hv;have HV:=zh hv;have HA:=zh ha;obtain⟨w0,hw0⟩:∃ w0,w0=((w.alloc (.map #[] 0)).alloc (.map #[] 0)).alloc (.cells #[.slice none 0 0,.slice none 0 0,.map (some w.heap.size),.map (some (w.heap.size+1))] 176):=⟨_,rfl⟩
 have HX0:=zh (show Ext w w0 from by rw[hw0];exact (((Ext.refl _).alloc _).alloc _).alloc _);have hz:w0.heap.size=w.heap.size+1+1+1:=by rw[hw0];simp
 have HS0:=zh (show ja2 (w.heap.size+1+1+1) S (fun b=>b<w.heap.size) w0 (w.heap.size+1+1) w.heap.size (w.heap.size+1) nilS nilS (fun _=>nilS) [] [] (jam []) 0 (pmOf []) 0 from by
  refine⟨?_,⟨by omega,by omega,by omega,by omega,by omega,by omega,by omega⟩,OwnK.nil,hS,OwnK.nil,?_,fun n s o=>OwnK.nil,?_,(fun g hg=>by cases hg),(fun g hg=>by cases hg),(fun n s o g hg=>by cases hg),fun b hb=>⟨by omega,by omega,by omega,by omega⟩⟩
  · rw[hw0];exact Blk.at_new (by simp)
  · rw[hw0];exact ((MapV.made w).ext ((Ext.refl _).alloc _)).ext ((Ext.refl _).alloc _)
  have h:=MapN.made (w.alloc (.map #[] 0));rw[World.size_alloc] at h;rw[hw0];exact (h.alloc _).same (fun _=>rfl))
 have HW0:=zh hw0;have hmm:= @run_makeMap Tryz.prog;clear hv ha hw0 hz
 go_enter Tryz.func158,Tryz.ntmps158;go_wp2_with fail
 rw[← HW0.out];clear hmm;go_loopw [12] (fun i wr=>∃ (k:Nat) (fv rv:Value) (f:Value→Value) (nm np:Nat),k≤xs.length∧i=.int .i64 k∧nm≤2000*k∧np≤k∧Hid (ja2 (w.heap.size+1+1+1) S (fun b=>b<w.heap.size) wr (w.heap.size+1+1) w.heap.size (w.heap.size+1) fv rv f (xs.take k) (List.replicate k 0) (jam (xs.take k)) nm (pmOf (xs.take k)) np)∧Ext w wr) (fun i _=>xs.length-(intOf i).toNat)
 case atStart=>exact⟨0,_,_,_,0,0,Nat.zero_le _,rfl,Nat.zero_le _,Nat.zero_le _,HS0,HX0.out⟩
 case round =>
  obtain⟨k,fv,rv,f,nm,np,hk,rfl,hnm,hnp,hst,hx⟩:=hrel;have hk0:(0:Int)≤(k:Int):=by omega
  by_cases hlt:k<xs.length
  · have hk1:(k:Int)<(xs.length:Int):=by omega
    obtain⟨b,off,a,va,rfl,hb,hak,han,hat,hc0,hc1'⟩:=jac.at_ HV.out hlt;obtain⟨G,cg,rfl,hcg1,hcg2⟩:=jaa.form hat;have r0:=(hx.cells.1 b (off+k*2) hb).trans hc0;have r1:=(hx.cells.1 b (off+k*2+1) hb).trans hc1';have hbw:b<wr.heap.size:=Nat.lt_of_lt_of_le hb hx.size;have HT:=zh (show xs.take (k+1)=xs.take k++[a] from by rw[List.take_add_one,hak];rfl);have HR:=zh (show List.replicate (k+1) 0=List.replicate k 0++[0] from List.replicate_succ');obtain⟨ha1,ha2⟩:=HA.out a (List.mem_of_getElem? hak);have hxa:Ext w (wr.alloc (.cells #[.string a.n,.slice G a.args.length cg] 43)):=hx.alloc _;have HP:=zh (jxk a _ 0 _ S _ _ _ _ _ fv rv f (xs.take k) (List.replicate k 0) nm (pmOf (xs.take k)) np (hst.out.ext ((Ext.refl wr).alloc (.cells #[.string a.n,.slice G a.args.length cg] 43))) (hat.ext hxa) han ha1 ha2 (by rw[List.length_take];omega) (by rw[List.length_replicate];omega) (by omega) (by omega));have HXA:=zh hxa;have hlen:(xs.take k).length=k:=by rw[List.length_take];omega
    rw[hlen] at HP;clear hc0 hc1' hat hak hxa hlen;go_wp2_with (go_at_call 206;refine HP.out.mono ?_;rintro e w1 ⟨rfl,⟨fv1,rv1,f1,nm1,np1,hst1,hnm1,hnp1⟩,hsl1⟩;have HST1:=zh hst1;have HSL1:=zh hsl1;clear hst1 hsl1)
    go_roundw
    case rel =>
     refine⟨k+1,fv1,rv1,f1,nm1,np1,by omega,by go_num,by omega,by omega,zh ?_,?_⟩
     · have h:=HST1.out
       rw[HT.out,HR.out,jqq];have hlen:(xs.take k).length=k:=by rw[List.length_take];omega
       rw[hlen];exact h
     exact⟨HSL1.out.os.trans HXA.out.os,HSL1.out.tape.trans HXA.out.tape,HSL1.out.output.trans HXA.out.output,Nat.le_trans HXA.out.size HSL1.out.size,fun i hi=>(HSL1.out.block i hi (Nat.lt_of_lt_of_le hi HXA.out.size)).trans (HXA.out.block i hi)⟩
    case measure=>simp[intOf];omega
  have hke:k=xs.length:=by omega
  subst hke;have h:=hst.out;rw[List.take_length] at h;go_wp2;go_ret;exact⟨rfl,⟨_,_,_,_,_,hnm,hnp,h⟩,hx⟩
theorem ja2.news {base:Nat} {S T:Nat→Prop} {w w':World} {sb mb pb:Nat} {fv rv:Value} {f:Value→Value} {facts:List GA} {rounds:List Nat} {un:ByteArray→Nat→Option (Nat × ByteArray)→List Nat} {nm:Nat} {pm:ByteArray→Option Nat} {np:Nat} (h:ja2 base S T w sb mb pb fv rv f facts rounds un nm pm np) (hx:Ext w w'):ja2 base S (fun b=>T b∨(w.heap.size≤b∧b<w'.heap.size)) w' sb mb pb fv rv f facts rounds un nm pm np:=by
 have h':=h.ext hx;have hlo:=h.lo;refine⟨h'.blk,h'.lo,h'.fa,fun b hb=>.inl (h.sub b hb),h'.ro,h'.mp,h'.gr,h'.pl,fun g hg=>?_,fun g hg=>?_,fun n s o g hg=>?_,fun b hb=>?_⟩
 · have hl:=(h.fa.at_ g hg).2
   exact⟨(h.a1 g hg).1,fun ht=>ht.elim (h.a1 g hg).2.1 (fun hn=>by omega),(h.a1 g hg).2.2⟩
 · have hl:=(h.ro.at_ g hg).2
   exact⟨fun ht=>ht.elim (h.a2 g hg).1 (fun hn=>by omega),(h.a2 g hg).2⟩
 · have hl:=((h.gr n s o).at_ g hg).2
   exact⟨fun ht=>ht.elim (h.a3 n s o g hg).1 (fun hn=>by omega),(h.a3 n s o g hg).2⟩
 rcases hb with hb|hb
 · exact h'.tb b hb
 exact⟨hb.2,by omega,by omega,by omega⟩
end Go.Proofs.YthdojieomhighaaGreatDoor
namespace Go.Proofs.YthdojieomhighaaGreatDoor
def ownTo (rules:List GR) (levels:List Nat) (k q:Nat):List GR:=((rules.zipIdx.take q).filter fun x=>decide (at0 levels x.2=k)).map (·.1)
theorem jwt {rules:List GR} {levels:List Nat} {k q:Nat} {r:GR} (h:rules[q]? = some r):ownTo rules levels k (q+1)=ownTo rules levels k q++(if at0 levels q=k then [r] else []):=by
 unfold ownTo;have h1:rules.zipIdx[q]? = some (r,q):=by simp[List.getElem?_zipIdx,h]
 rw[List.take_add_one,h1,List.filter_append,List.map_append]
 congr 1
 by_cases e:at0 levels q=k
 · simp[e]
 simp[e]
theorem jy5 (rules:List GR) (levels:List Nat) (k:Nat) {q:Nat} (h:rules.length≤q):ownTo rules levels k q=ownR rules levels k:=by
 unfold ownTo ownR;rw[List.take_of_length_le (by simpa using h)]
theorem jr0 (rules:List GR) (levels:List Nat) (k q:Nat):(ownTo rules levels k q).length≤q:=by
 unfold ownTo;rw[List.length_map];exact Nat.le_trans (List.length_filter_le _ _) (by rw[List.length_take];omega)
open Go.RowKit
theorem jpm {α:Type} {f:α→Nat} {n:Nat}:∀ {l:List α},(∀ x∈l,f x≤n)→(l.map f).sum≤n*l.length
 | [],_=>by simp
 | a :: l,h=>by
   have h1:=jpm (l:=l) (fun x hx=>h x (List.mem_cons_of_mem _ hx));have h2:=h a List.mem_cons_self;rw[List.map_cons,List.sum_cons,List.length_cons,Nat.mul_add,Nat.mul_one];omega
theorem j1m {t:GT} (h:ja1 t=true):wTerm t≤8:=by
 unfold ja1 at h;unfold wTerm;split at h
 · unfold jch at h
   simp only[Bool.and_eq_true,decide_eq_true_eq] at h;exact h.1.2
 exact (jgs h).2
theorem ju5 {a:GA} (h:jat a=true):wAtom a≤35∧a.args.length≤3∧a.n.size≤8:=by
 obtain⟨h1,h2,h3⟩:=jcj h;have h4:=(jgs h1).2;have h5:=jpm (f:=wTerm) (fun t ht=>j1m (h3 t ht));unfold wAtom jbt;omega
theorem jmq {a:GA} (h:factB a=true):wAtom a≤35∧a.args.length≤3∧a.n.size≤8:=by
 unfold factB at h;simp only[Bool.and_eq_true] at h;exact ju5 h.1
structure AllR (K:Nat→Prop) (w0:World) (base sb mb pb:Nat) (s:ST) (wr:World) (S T:Nat→Prop) (fv rv:Value) (f:Value→Value) (nm np:Nat):Prop where
 st:ja2 base S T wr sb mb pb fv rv f s.facts s.rounds (jam s.facts) nm (pmOf s.facts) np
 sub:∀ b,K b→T b
 still:Still K w0 wr
 ff:Facts s.facts
 fl:s.facts.length≤300
 rl:s.rounds.length=s.facts.length
 nl:s.num≤s.facts.length
 nm:nm≤2000*s.facts.length
 np:np≤s.facts.length
theorem Still.sub {T T':Nat→Prop} {a b:World} (h:Still T a b) (hT:∀ i,T' i→T i):Still T' a b:=⟨h.os,h.tape,h.output,h.size,fun i hi hlt=>h.block i (hT i hi) hlt⟩
theorem AllR.news {K:Nat→Prop} {w0 wr wr':World} {base sb mb pb:Nat} {s:ST} {S T:Nat→Prop} {fv rv:Value} {f:Value→Value} {nm np:Nat} (h:AllR K w0 base sb mb pb s wr S T fv rv f nm np) (hx:Ext wr wr') :
  AllR K w0 base sb mb pb s wr' S (fun b=>T b∨(wr.heap.size≤b∧b<wr'.heap.size)) fv rv f nm np :=
 ⟨h.st.news hx,fun b hb=>.inl (h.sub b hb),h.still.trans' (.of_ext hx),h.ff,h.fl,h.rl,h.nl,h.nm,h.np⟩
theorem AllR.fresh {K:Nat→Prop} {w0 wr:World} {base sb mb pb:Nat} {s:ST} {S T:Nat→Prop} {fv rv:Value} {f:Value→Value} {nm np:Nat} (h:AllR K w0 base sb mb pb s wr S T fv rv f nm np) :
 AllR T wr base sb mb pb s wr S T fv rv f nm np:=⟨h.st,fun _ hb=>hb,.refl _ _,h.ff,h.fl,h.rl,h.nl,h.nm,h.np⟩
theorem jpn (s:ST) (fr:List GA):(s.next fr).num=if fr.isEmpty then s.num else s.num+1:=rfl
theorem AllR.round {K:Nat→Prop} {w0 wr w':World} {base sb mb pb:Nat} {s:ST} {S T S' T':Nat→Prop} {fv rv fv' rv':Value} {f f':Value→Value} {nm np nm' np':Nat} {fr:List GA} (h:AllR K w0 base sb mb pb s wr S T fv rv f nm np)
  (hst:ja2 base S' T' w' sb mb pb fv' rv' f' (s.facts++fr) (s.rounds++List.replicate fr.length (s.num+1)) (jam (s.facts++fr)) nm' (pmOf (s.facts++fr)) np') (h1:nm'≤nm+2000*fr.length) (h2:np'≤np+fr.length)
  (hT:∀ b,T b→T' b) (hs:Still T wr w') (hf:Facts fr) (hl:s.facts.length+fr.length≤300):AllR K w0 base sb mb pb (s.next fr) w' S' T' fv' rv' f' nm' np':=by
 have e1:=h.rl;have e2:=h.nl;have e3:=h.nm;have e4:=h.np;refine⟨hst,fun b hb=>hT b (h.sub b hb),h.still.trans' (hs.sub h.sub),fun a ha=>?_,?_,?_,?_,?_,?_⟩
 · rcases List.mem_append.1 ha with ha|ha
   · exact h.ff a ha
   exact hf a ha
 · show (s.facts++fr).length≤300;rw[List.length_append];exact hl
 · show (s.rounds++List.replicate fr.length (s.num+1)).length=(s.facts++fr).length;simp[e1]
 · rw [jpn]
   show _≤(s.facts++fr).length;rw[List.length_append]
   cases fr with
   | nil=>simp;exact e2
   | cons a l=>simp;omega
 · show nm'≤2000*(s.facts++fr).length;rw[List.length_append];omega
 show np'≤(s.facts++fr).length;rw[List.length_append];omega
def je1 (rules:List GR) (xs:List GA) (w:World) (e:Ending) (w':World):Prop :=
 if jbx rules xs=true then
  match jgj rules (jaq rules) rules.length 0 ⟨xs,List.replicate xs.length 0,0⟩ with
  | none=>e=.returned (.tuple #[.pointer none,.bool false])
  | some s=>∃ (base sb mb pb nm np:Nat) (fv rv:Value) (f:Value→Value) (S T:Nat→Prop),e=.returned (.tuple #[.pointer (some ⟨sb,0,none⟩),.bool true]) ∧
      ja2 base S T w' sb mb pb fv rv f s.facts s.rounds (jam s.facts) nm (pmOf s.facts) np∧(∀ b,b<w.heap.size→T b)∧Facts s.facts∧s.facts.length≤300
 else e=.returned (.tuple #[.pointer none,.bool false])
theorem jr1 {rules:List GR} (h:jag rules=0):(∀ r∈rules,Fine r)∧rules.length≤8∧jdk rules=false:=by
 unfold jag at h;split at h
 · cases h
 split at h
 · cases h
 split at h
 · cases h
 split at h
 · cases h
 split at h
 · cases h
 rename_i h1 h2 h3 h4 h5;refine⟨fun r hr=>jxz ?_,by omega,by simpa using h5⟩;simp only[Bool.not_eq_false,List.all_eq_true] at h1 h4;unfold fineR;rw[h1 r hr,h4 r hr];rfl
theorem jpo {rules:List GR} {given:List GA} (h:jbx rules given=true):jag rules=0∧Facts given∧given.length≤40:=by
 unfold jbx at h;simp only[Bool.and_eq_true,decide_eq_true_eq] at h;refine⟨h.1.1,?_,?_⟩
 · have:=h.1.2
   unfold jbe at this;simp only[Bool.and_eq_true,List.all_eq_true] at this;exact this.1.1
 have:=h.1.2;unfold jbe at this;simp only[Bool.and_eq_true,decide_eq_true_eq] at this;exact this.2
def lenOf:Value→Nat
 | .slice _ n _=>n
 | _=>0
theorem jr2 (rules:List GR) (xs:List GA) (v u:Value) (w:World) {S T:Nat→Prop} (hv:jal S w v rules) (hu:jac T w u xs) (he:ErrIs w) :
  Calls Tryz.prog 106 #[v,u] w fun e w'=>je1 rules xs w e w'∧Ext w w':=by
 obtain⟨A,c,rfl,hc1,hc2⟩:=jaa.form hv;obtain⟨B,d,rfl,hd1,hd2⟩:=jaa.form hu;have HMG:=zh (jm3 _ _ rules xs w hv hu he);have HV:=zh (show jal (fun b=>b<w.heap.size) w (.slice A rules.length c) rules from ListK.sub (k:=kRule) (ListK.low (k:=kRule) hv) (fun _ h=>h.2));have HU:=zh (show jac (fun b=>b<w.heap.size) w (.slice B xs.length d) xs from ListK.sub (k:=kAtom) (ListK.low (k:=kAtom) hu) (fun _ h=>h.2));obtain⟨j0,hj0,hy0,hy1,hy2⟩:=info_parts jks;clear hv hu he
 cases hok:jbx rules xs with
 | false =>
   have HS:=zh (fun e w' (h:e=Ending.returned (.tuple #[.pointer none,.bool false]))=>show je1 rules xs w e w' from by unfold je1;rw[hok];exact h);rw[hok] at HMG;clear hok
   go_enter Tryz.func106,Tryz.ntmps106;go_wp2_with (go_at_call 157;refine HMG.out.mono ?_;rintro e w1 ⟨rfl,hx1⟩)
   go_ret2;exact⟨HS.out _ _ rfl,hx1⟩
 | true =>
   rw[hok] at HMG;obtain⟨hp,hfx,hlx⟩:=jpo hok;obtain⟨hfine,hr8,hcyc⟩:=jr1 hp;obtain⟨goal,hgoal⟩:∃ goal,goal=jgj rules (jaq rules) rules.length 0 ⟨xs,List.replicate xs.length 0,0⟩:=⟨_,rfl⟩
   have HNO:=zh (fun (hg:goal=none) e w' (h:e=Ending.returned (.tuple #[.pointer none,.bool false]))=>show je1 rules xs w e w' from by unfold je1;rw[hok,if_pos rfl,← hgoal,hg];exact h)
   have HYES:=zh (fun (s:ST) (hg:goal=some s) e w' (h:∃ (base sb mb pb nm np:Nat) (fv rv:Value) (f:Value→Value) (S T:Nat→Prop),e=Ending.returned (.tuple #[.pointer (some ⟨sb,0,none⟩),.bool true]) ∧
    ja2 base S T w' sb mb pb fv rv f s.facts s.rounds (jam s.facts) nm (pmOf s.facts) np∧(∀ b,b<w.heap.size→T b)∧Facts s.facts∧s.facts.length≤300)=>show je1 rules xs w e w' from by unfold je1;rw[hok,if_pos rfl,← hgoal,hg];exact h)
   have HGO:=zh hgoal;have HSO:=zh (fun (W:World) (hW:Ext w W)=>jrz xs _ W (HU.out.ext hW) (fun b hb=>Nat.lt_of_lt_of_le hb hW.size) (fun a ha=>by have:=jmq (hfx a ha);omega) (by omega));have HSR:=zh (fun (W:World) (hW:Ext w W)=>jkt _ rules W (HV.out.ext hW) hr8);have HFI:=zh hfine;have HRN:=zh (show ∀ r∈rules,r.head.n.size≤maxLen from fun r hr=>maxOf (by have:=(ju5 (hfine r hr).head).2.2;omega));have HFX:=zh hfx;have HCY:=zh hcyc;have HLL:=zh (jd6 rules);obtain⟨levels,hlv⟩:∃ levels,levels=jaq rules:=⟨_,rfl⟩
   rw[← hlv] at HGO HLL;have HLV:=zh hlv;clear hok hgoal hp hfine hfx hcyc hlv
   go_enter Tryz.func106,Tryz.ntmps106
   go_wp2_with (first
    | (go_at_call 157;refine HMG.out.mono ?_;rintro e w1 ⟨rfl,hx1⟩;have HX1:=zh hx1;clear hx1)
    | (go_at_call 158;refine (HSO.out _ HX1.out).mono ?_;rintro e w2 ⟨rfl,⟨fv0,rv0,f0,nm0,np0,hnm0,hnp0,hst0⟩,hx2⟩;have HST0:=zh hst0;have HX2:=zh hx2;clear hst0 hx2)
    | (go_at_call 159;refine (HSR.out _ (HX1.out.trans' HX2.out)).mono ?_;rintro e w3 ⟨hs3,hx3⟩
       rcases hs3 with ⟨o,hlow,hmet,g,rfl,hgl,hgb⟩|⟨hc,_⟩
       rotate_left
       · rw[HCY.out] at hc;cases hc
       have HX3:=zh hx3;have hgb2:Blk w3 g 3 (ints levels):=by rw[HLV.out,← jo7 hlow hmet];exact hgb
       have HGB:=zh hgb2;have HGL:=zh hgl;clear hx3 hlow hmet hgb hgb2 hgl)
    | fail)
   obtain⟨K,hK⟩:∃ K:Nat→Prop,K=fun b=>b<w1.heap.size∨(w2.heap.size≤b∧b<w3.heap.size):=⟨_,rfl⟩
   have HKW:=zh (show ∀ b,b<w.heap.size→K b from fun b hb=>by rw[hK];exact .inl (Nat.lt_of_lt_of_le hb HX1.out.size));have HKG:=zh (show K g from by rw[hK];exact .inr ⟨Nat.le_of_lt HGL.out,HGB.out.lt⟩)
   have HA0:=zh (show AllR K w3 (w1.heap.size+1+1+1) (w1.heap.size+1+1) w1.heap.size (w1.heap.size+1) ⟨xs,List.replicate xs.length 0,0⟩ w3 (fun b=>b<w.heap.size) K fv0 rv0 f0 nm0 np0 from by
    rw[hK];exact⟨HST0.out.news HX3.out,fun _ hb=>hb,.refl _ _,HFX.out,by show xs.length≤300;omega,by simp,Nat.zero_le _,hnm0,hnp0⟩)
   have HXW:=zh (HX1.out.trans' (HX2.out.trans' HX3.out));clear hK HST0 hnm0 hnp0 HMG HSO HSR HFX;go_loopw [9,30] (fun num i wr=>∃ (k:Nat) (s:ST) (S T:Nat→Prop) (fv rv:Value) (f:Value→Value) (nm np:Nat),k≤rules.length∧num=.int .i64 s.num∧i=.int .i64 k∧Hid (jgj rules levels (rules.length-k) k s=goal)∧Hid (AllR K w3 (w1.heap.size+1+1+1) (w1.heap.size+1+1) w1.heap.size (w1.heap.size+1) s wr S T fv rv f nm np)) (fun _ i _=>rules.length-(intOf i).toNat)
   case atStart=>exact⟨0,_,_,_,_,_,_,_,_,Nat.zero_le _,rfl,rfl,HGO.out.symm,HA0⟩
   case round =>
    rename World=>wA
    obtain⟨k,s,S1,T1,fv,rv,f,nm,np,hk,rfl,rfl,hsl,hal⟩:=hrel;have hk0:(0:Int)≤(k:Int):=by omega
    have HXR:=zh (show Ext w wA from (Still.toExt ((hal.out.still.sub HKW.out |> fun h=>(Still.of_ext HXW.out).trans' h))));by_cases hlt:k<rules.length
    · have hk1 : (k : Int)<(rules.length:Int):=by omega
      have HSL:=zh (show (match jfe (ownR rules levels k) 302 s (ownR rules levels k) with
        | none=>none
        | some s'=>jgj rules levels (rules.length-(k+1)) (k+1) s')=goal from by
       have h:=hsl.out;rw[show rules.length-k=(rules.length-(k+1))+1 by omega] at h;exact h)
      have hszr:=hal.out.still.size;go_wp2;go_loopw [11,35] (fun own i wB=>∃ q:Nat,q≤rules.length∧i=.int .i64 q∧Hid (OwnK kRule wA.heap.size 45 (fun b=>b<w.heap.size) wB own (ownTo rules levels k q))∧Hid (Ext wA wB)) (fun _ i _=>rules.length-(intOf i).toNat)
      case atStart=>exact⟨0,Nat.zero_le _,rfl,zh OwnK.nil,zh (Ext.refl _)⟩
      case round =>
       rename World=>wB
       obtain⟨q,hq,rfl,ho,hx⟩:=hrel;obtain⟨A0,n0,c0,rfl,hn0,ha0,hb0⟩:=ho.out.form2;have hq0:(0:Int)≤(q:Int):=by omega
       have hszb:=hx.out.size;by_cases hqt:q<rules.length
       · have hq1:(q:Int)<(rules.length:Int):=by omega
         obtain⟨b,off,x,v1,u1,rfl,hb,hxk,hxs,ht,hu,p0,p1,p2⟩:=jal.at_ (HV.out.ext (HXR.out.trans' hx.out)) hqt;obtain⟨A1,c1,rfl,ha1,hb1⟩:=jaa.form ht;obtain⟨B1,d1,rfl,hd1',hd2'⟩:=jaa.form hu;have hgl1:g<wB.heap.size:=Nat.lt_of_lt_of_le (Nat.lt_of_lt_of_le HGB.out.lt hszr) hszb;have hgbb:Blk wB g 3 (ints levels):=(((hal.out.still.trans' (.of_ext hx.out)).block g HKG.out HGB.out.lt).trans HGB.out)
         obtain⟨lq,hlq⟩:∃ lq,lq=at0 levels q:=⟨_,rfl⟩
         have gq:=(hgbb.alloc (.cells #[.string x.head.n,.slice A1 x.head.args.length c1,.slice B1 x.body.length d1] 45)).int (i:=q) (by rw[HLL.out];exact hqt);rw[← hlq] at gq;have HST:=zh (jwt (levels:=levels) (k:=k) hxk);have HOL:=zh (jr0 rules levels k q);have HT:=zh ht;have HU2:=zh hu;have HLL2:=HLL.out;by_cases hqk:lq=k
         · have hqk1:((lq:Int) == (k:Int))=true:=by simp[hqk]
           rw[← hlq,if_pos hqk] at HST;clear hlq hxk ht hu hgbb hqk;go_wp2_with ((at_builtin;go_loud (refine jcn (k:=kRule) (S:=fun b=>b<w.heap.size) (T:=fun b=>b<w.heap.size) rfl (.tmp 46) (.tmp 48) 29 (by rfl) j0 _ 64 Tryz.underlying29 hj0 hy0 hy1 hy2 (by rfl) (by rfl) (ho.out.ext (((Ext.refl _).alloc _).alloc _)) _ 1 1 (by rfl) (jas.one (k:=kRule) (x:=x) (Blk.at_new (g:=wB.heap.size+1) (by simp)) ⟨_,_,rfl,hxs,jae.sub (HT.out.ext (((Ext.refl _).alloc _).alloc _)) (fun _ h=>h),jao.sub (HU2.out.ext (((Ext.refl _).alloc _).alloc _)) (fun _ h=>h)⟩) (fun _ hb _=>hb) (fun g' hg' hT=>absurd (ho.out.at_ g' hg').1 (Nat.not_le.2 (Nat.lt_of_lt_of_le hT HXR.out.size))) (maxOf (by have:=HOL.out;omega)) (by have:=HOL.out;omega) (Nat.le_trans hx.out.size (by go_size)) ?_);intro v3 w5 hap))
           go_roundw
           case rel=>exact⟨q+1,by omega,by go_num,zh (by rw[HST.out];exact hap.own),zh (hap.toExt ((hx.out.alloc _).alloc _) (Nat.le_refl _))⟩
           case measure=>simp[intOf];omega
         have hqk1:((lq:Int) == (k:Int))=false:=by rw[beq_eq_false_iff_ne];omega
         rw[← hlq,if_neg hqk] at HST;clear hlq hxk ht hu hgbb hqk;go_wp2_with fail
         go_roundw
         case rel=>exact⟨q+1,by omega,by go_num,zh (by rw[HST.out,List.append_nil];exact ho.out.alloc _),zh (hx.out.alloc _)⟩
         case measure=>simp[intOf];omega
       have HOW:=zh (jy5 rules levels k (q:=q) (by omega));rw[HOW.out] at hn0 ho;obtain⟨own,hown⟩:∃ own,own=ownR rules levels k:=⟨_,rfl⟩
       rw[← hown] at hn0 ho HSL;have HOM:=zh (show ∀ r∈own,r∈rules from fun r hr=>jx1 (rules:=rules) (levels:=levels) (k:=k) (by rw[← hown];exact hr));have hol:own.length≤8:=by rw[hown,← HOW.out];exact Nat.le_trans (jr0 rules levels k q) (by omega)
       have HLO:=zh hol;have HO2:=zh (show jal (fun b=>b<w.heap.size∨(wA.heap.size≤b∧b<wB.heap.size)) wB (.slice A0 n0 c0) own from ListK.sub (k:=kRule) (ListK.low (k:=kRule) (ho.out.list (S':=fun b=>b<w.heap.size∨wA.heap.size≤b) (fun _ h=>.inl h) (fun _ h=>.inr h))) (fun b hb=>hb.1.imp id (fun h=>⟨h,hb.2⟩)));have HAL:=zh (hal.out.news hx.out);have HNO0:=zh hn0.out;have hn8:n0≤8:=by rw[hn0.out];exact hol
       clear hown hn0 hol;obtain⟨T2,hT2⟩:∃ T2:Nat→Prop,T2=fun b=>T1 b∨(wA.heap.size≤b∧b<wB.heap.size):=⟨_,rfl⟩
       rw[← hT2] at HAL
       have HOT:=zh (show ∀ b,(b<w.heap.size∨(wA.heap.size≤b∧b<wB.heap.size))→T2 b from fun b hb=>by
        rw[hT2];exact hb.imp (fun h=>hal.out.sub b (HKW.out b h)) id)
       clear hT2 ho;go_wp2_with fail
       go_loopw [9,14] (fun num next wC=>∃ (s2:ST) (nx:List GR) (fu:Nat) (S3 T3 U:Nat→Prop) (fv rv:Value) (f:Value→Value) (nm np:Nat),num=.int .i64 s2.num∧Hid (jfe own fu s2 nx=jfe own 302 s own)∧Hid (nx=[]∨302≤fu+s2.facts.length)∧Hid (jal U wC next nx)∧Hid (∀ r∈nx,r∈rules)∧Hid (nx.length≤8)∧Hid (∀ b,U b→T3 b) ∧
        Hid (AllR T2 wB (w1.heap.size+1+1+1) (w1.heap.size+1+1) w1.heap.size (w1.heap.size+1) s2 wC S3 T3 fv rv f nm np)) (fun num next _=>2*(1000-(intOf num).toNat)+min 1 (lenOf next))
       case atStart=>exact⟨s,own,302,_,_,_,_,_,_,_,_,rfl,zh rfl,zh (.inr (Nat.le_add_right _ _)),HO2,HOM,HLO,HOT,zh HAL.out.fresh⟩
       case round =>
        rename World=>wC
        obtain⟨s2,nx,fu,S3,T3,U,fv2,rv2,f2,nm2,np2,rfl,hlp,hfu,hnx,hnm,hn8',hUT,ha2⟩:=hrel;obtain⟨NA,nc,rfl,_,_⟩:=jaa.form hnx.out
        cases nx with
        | nil =>
          have hz0:(0:Int)<((([]:List GR).length:Nat):Int)↔False:=by simp
          have HGOAL:=zh (show jgj rules levels (rules.length-(k+1)) (k+1) s2=goal from by
           have h:=HSL.out;rw[← hlp.out,jjm] at h;exact h)
          have HA3:=zh (show AllR K w3 (w1.heap.size+1+1+1) (w1.heap.size+1+1) w1.heap.size (w1.heap.size+1) s2 wC S3 T3 fv2 rv2 f2 nm2 np2 from
           ⟨ha2.out.st,fun b hb=>ha2.out.sub b (HAL.out.sub b hb),HAL.out.still.trans' (ha2.out.still.sub HAL.out.sub),ha2.out.ff,ha2.out.fl,ha2.out.rl,ha2.out.nl,ha2.out.nm,ha2.out.np⟩)
          clear hlp hfu;go_wp2_with fail
          go_roundw
          case rel=>exact⟨k+1,s2,_,_,_,_,_,_,_,by omega,rfl,by go_num,HGOAL,HA3⟩
          case measure=>simp[intOf];omega
        | cons r0 nx0 =>
          obtain⟨nx,hnxe⟩:∃ nx,nx=r0 :: nx0:=⟨_,rfl⟩
          rw[← hnxe] at hlp hnx hnm hn8' hfu ⊢;have hne:nx≠ []:=by rw[hnxe];simp
          have hpos:0<nx.length:=List.length_pos_iff.2 hne;have hpos':(0:Int)<(nx.length:Int):=by omega
          have hfu2:302≤fu+s2.facts.length:=hfu.out.resolve_left hne;have hfl:=ha2.out.fl;obtain⟨fu',rfl⟩:∃ fu',fu=fu'+1:=⟨fu-1,by omega⟩
          have HLP:=zh (show (match jck s2.facts s2.rounds nx [] with
            | none=>none
            | some fr=>jfe own fu' (s2.next fr) (own.filter (jda fr)))=jfe own 302 s own from by
           have h:=hlp.out
           rw [show jfe own (fu'+1) s2 nx=if nx.isEmpty then some s2 else match jck s2.facts s2.rounds nx [] with
            | none=>none
            | some fr=>jfe own fu' (s2.next fr) (own.filter (jda fr)) from rfl,if_neg (by rw[hnxe];simp)] at h
           exact h)
          have hnum:s2.num≤300:=Nat.le_trans ha2.out.nl hfl;have HRD:=zh (jyv nx _ (s2.num+1) (w1.heap.size+1+1+1) S3 T3 U wC (w1.heap.size+1+1) w1.heap.size (w1.heap.size+1) fv2 rv2 f2 s2.facts s2.rounds nm2 np2 ha2.out.st hnx.out hUT.out (fun r hr=>HFI.out r (hnm.out r hr)) (fun r hr=>HRN.out r (hnm.out r hr)) hn8'.out ha2.out.ff hfl ha2.out.rl (by omega) (by have:=ha2.out.nm;omega) (by have:=ha2.out.np;omega));have HRF:=zh (fun (fr:List GA) (h:jck s2.facts s2.rounds nx []=some fr)=>jgl ha2.out.ff hfl (fun r hr=>HFI.out r (hnm.out r hr)) h);have HXC:=zh (show Ext w wC from Still.toExt ((Still.of_ext HXR.out).trans' ((Still.of_ext hx.out).trans' (ha2.out.still.sub (fun b hb=>HAL.out.sub b (HKW.out b hb))))));clear hlp hfu hnxe hne;unfold jis at HRD
          cases hro:jck s2.facts s2.rounds nx [] with
          | none =>
            rw[hro] at HRD HLP
            have HGN:=zh (show goal=none from by
             have h:=HSL.out;rw[← HLP.out] at h;exact h.symm)
            clear hro HRF;go_wp2_with ((go_at_call 160;refine HRD.out.mono ?_;rintro e w5 ⟨rfl,hx5⟩))
            go_ret2;exact⟨HNO.out HGN.out _ _ rfl,HXC.out.trans' hx5⟩
          | some fr =>
            rw[hro] at HRD HLP;obtain⟨hfrf,hfrl⟩:=HRF.out _ hro;have HFR:=zh hfrf;clear hro HRF hfrf
            cases hfr:fr with
            | nil =>
              have HFN:=zh hfr
              go_wp2_with (first
               | (go_at_call 160;refine HRD.out.mono ?_;rintro e w5 ⟨mc,kk,nm',np',fv',rv',f',S',T',rfl,hst,hnm',hnp',hmp,hkk,hmcl,hT1,hT2',hsti⟩
                  obtain rfl:kk=0:=hkk.2 HFN.out;have HA5:=zh (ha2.out.round hst hnm' hnp' hT1 hsti HFR.out hfrl);have HMP:=zh hmp;have HTC:=zh (jmm _ own mc 0 fr w5 (jal.imp HO2.out (fun _ h=>h) (fun b hb hlt=>HA5.out.still.block b (HOT.out b hb) hlt) HA5.out.still.size) hmp (by have:=HLO.out;omega));clear hst hnm' hnp' hmp hkk hT2' hsti)
               | (at_len;refine jbr _ rfl _ rfl mc 0 (cameF fr) rfl HMP.out ?_)
               | (go_at_call 161;refine HTC.out.mono ?_;rintro e w6 ⟨⟨u6,rfl,hu6⟩,hx6⟩;have HU6:=zh hu6;have HX6:=zh hx6;clear hu6 hx6)
               | fail)
              go_roundw
              case rel =>
               refine⟨s2.next fr,own.filter (jda fr),fu',_,_,_,_,_,_,_,_,?_,HLP,zh (.inl (by rw[HFN.out];exact jmb own)),HU6,zh (fun r hr=>HOM.out r (List.mem_filter.1 hr).1),zh (Nat.le_trans (List.length_filter_le _ _) HLO.out),zh (fun b hb=>?_),zh (HA5.out.news HX6.out)⟩
               · rw[jpn,HFN.out];rfl
               rcases hb.1 with h|h
               · exact .inl (HA5.out.sub b (HOT.out b h.1))
               exact .inr ⟨h,hb.2⟩
              case measure =>
               obtain⟨A6,c6,rfl,_,_⟩:=jaa.form HU6.out;have e0:(own.filter (jda fr)).length=0:=by rw[HFN.out,jmb];rfl
               simp only[lenOf,intOf];omega
            | cons a0 fr0 =>
              have HFN:=zh hfr;have hfp:0<fr.length:=by rw[hfr];simp
              have HNE:=zh (show (s2.next fr).num=s2.num+1 from by rw[jpn,hfr];rfl);clear hfr
              go_wp2_with (first
               | (go_at_call 160;refine HRD.out.mono ?_;rintro e w5 ⟨mc,kk,nm',np',fv',rv',f',S',T',rfl,hst,hnm',hnp',hmp,hkk,hmcl,hT1,hT2',hsti⟩
                  have hkp:0<kk:=Nat.pos_of_ne_zero (fun h=>by have h2:=hkk.1 h;rw[h2] at hfp;simp at hfp);have hkp':(0:Int)<(kk:Int):=(by omega)
                  have HA5:=zh (ha2.out.round hst hnm' hnp' hT1 hsti HFR.out hfrl);have HMP:=zh hmp;have HTC:=zh (jmm _ own mc kk fr w5 (jal.imp HO2.out (fun _ h=>h) (fun b hb hlt=>HA5.out.still.block b (HOT.out b hb) hlt) HA5.out.still.size) hmp (by have:=HLO.out;omega));clear hst hnm' hnp' hmp hkk hT2' hsti)
               | (at_len;refine jbr _ rfl _ rfl mc kk (cameF fr) rfl HMP.out ?_)
               | (go_at_call 161;refine HTC.out.mono ?_;rintro e w6 ⟨⟨u6,rfl,hu6⟩,hx6⟩;have HU6:=zh hu6;have HX6:=zh hx6;clear hu6 hx6)
               | fail)
              go_roundw
              case rel =>
               refine⟨s2.next fr,own.filter (jda fr),fu',_,_,_,_,_,_,_,_,?_,HLP,zh (.inr ?_),HU6,zh (fun r hr=>HOM.out r (List.mem_filter.1 hr).1),zh (Nat.le_trans (List.length_filter_le _ _) HLO.out),zh (fun b hb=>?_),zh (HA5.out.news HX6.out)⟩
               · rw[HNE.out];go_num
               · show 302≤fu'+(s2.facts++fr).length
                 rw[List.length_append];omega
               rcases hb.1 with h|h
               · exact .inl (HA5.out.sub b (HOT.out b h.1))
               exact .inr ⟨h,hb.2⟩
              case measure =>
               simp only[lenOf,intOf];omega
    obtain rfl:k=rules.length:=by omega
    have HGS:=zh (show goal=some s from by
     have h:=hsl.out;rw[Nat.sub_self] at h;exact h.symm)
    go_wp2_with fail
    go_ret2;exact⟨HYES.out s HGS.out _ _ ⟨_,_,_,_,_,_,_,_,_,_,_,rfl,hal.out.st,fun b hb=>hal.out.sub b (HKW.out b hb),hal.out.ff,hal.out.fl⟩,HXR.out⟩
def Gw (w w':World):Prop:=∃ q os,w'=Sort.grow (w.drewN q) os
theorem Gw.refl (w:World):Gw w w:=⟨0,#[],by rw[Sort.grow_empty];rfl⟩
theorem Gw.alloc {a w:World} (h:Gw a w) (o:Obj):Gw a (w.alloc o):=by
 obtain⟨q,os,rfl⟩:=h;exact⟨q,os++ #[o],by rw[Sort.alloc_eq_grow,Sort.grow_grow]⟩
theorem Gw.trans' {a b c:World} (h:Gw a b) (k:Gw b c):Gw a c:=by
 obtain⟨q,os,rfl⟩:=h;obtain⟨p,os',rfl⟩:=k;refine⟨q+p,os++os',?_⟩;unfold Sort.grow World.drewN;simp[Nat.add_assoc,Array.append_assoc]
theorem je1.flag {rules:List GR} {xs:List GA} {w:World} {e:Ending} {w':World} (h:je1 rules xs w e w'):∃ p,e=.returned (.tuple #[.pointer p,.bool (fineB rules xs)]):=by
 unfold je1 at h;unfold fineB
 cases hok:jbx rules xs with
 | false =>
   rw[hok] at h;exact⟨_,h⟩
 | true =>
   rw[hok,if_pos rfl] at h;have hs:=jyj hok;unfold j0p at hs
   cases hst:jgj rules (jaq rules) rules.length 0 ⟨xs,List.replicate xs.length 0,0⟩ with
   | none =>
     rw[hst] at h hs;have hs:(runN rules xs).2=false:=hs;rw[hs];exact⟨_,h⟩
   | some s =>
     rw[hst] at h hs;obtain⟨hs,_,_⟩:=hs;obtain⟨base,sb,mb,pb,nm,np,fv,rv,f,S,T,he,_⟩:=h;rw[hs];exact⟨_,he⟩
theorem jmr (B:GB) (xs:List GA) (v u:Value) (w:World) {S T:Nat→Prop} (hv:BaseR S w v B) (hu:jac T w u xs) (he:ErrIs w) :
  Calls Tryz.prog 46 #[v,u] w fun e w'=>e=.returned (.bool (fineB B.rules xs))∧Ext w w':=by
 obtain⟨A1,c1,A2,c2,A3,c3,rfl⟩:=hv.form;obtain⟨D,d,rfl,hd1,hd2⟩:=jaa.form hu
 have HRU:Hid (∃ Z:Nat→Prop,jal Z w (.slice A1 B.rules.length c1) B.rules):=zh (by
  obtain⟨p,q,r,h1,h2,_,_⟩:=hv;injection h1 with h1
  simp only[Array.mk.injEq,List.cons.injEq] at h1;exact⟨_,by rw[h1.1];exact h2⟩)
 have HB:=zh (Blk.new w 33 #[.slice A1 B.rules.length c1,.int .i64 B.time,.slice A2 B.given.length c2,.slice A3 B.hist.length c3]);have hx:Ext w (w.alloc (.cells #[.slice A1 B.rules.length c1,.int .i64 B.time,.slice A2 B.given.length c2,.slice A3 B.hist.length c3] 33)):=(Ext.refl _).alloc _
 have HS:=zh (by
  obtain⟨Z,hz⟩:=HRU.out;exact jr2 B.rules xs _ _ _ (hz.ext hx) (hu.ext hx) (he.ext hx))
 have HX:=zh hx;obtain⟨fb,hfb⟩:∃ fb,fb=fineB B.rules xs:=⟨_,rfl⟩
 have HFB:=zh hfb;rw[← hfb];clear hv hu he hx HRU hfb
 go_enter Tryz.func46,Tryz.ntmps46
 go_wp2_with (first
  | (go_at_call 106;refine HS.out.mono ?_;rintro e w1 ⟨hs1,hx1⟩;obtain⟨p,hp⟩:=hs1.flag;rw[← HFB.out] at hp;subst hp;clear hs1)
  | fail)
 go_ret;exact⟨rfl,HX.out.trans' hx1⟩
open Go.Shelf
attribute [local go_sem] Oper.semAt_some
def jit (L:List ME):Bool:=L.all fun e=> !(e.s == 0)
theorem jtm (v u:Value) (xs ys:List GA) (w:World) {S T:Nat→Prop} (hv:jac S w v xs) (hu:jac T w u ys) :
  ∃ ps qs:List P2,ps.map (·.1)=xs∧qs.map (·.1)=ys ∧
  Calls Tryz.prog 49 #[v,u] w fun e w'=>e=.returned (.bool (jit (jah ps qs)))∧Ext w w':=by
 obtain⟨ps,hps,hp⟩:=hv.low.pairs;obtain⟨qs,hqs,hq⟩:=hu.low.pairs;refine⟨ps,qs,hps,hqs,?_⟩;clear hps hqs hv hu;obtain⟨A,c,rfl,hc1,hc2⟩:=jaa.form hp;obtain⟨B,d,rfl,hd1,hd2⟩:=jaa.form hq;have HP:=zh hp;have HQ:=zh hq;clear hp hq;refine (callsIn_wide (n:=5)).1 ?_;refine callsIn_of_wp_marks Tryz.func49 rfl trivial ?_ rfl;simp only[Tryz.ntmps49,List.size_toArray,List.length_cons,List.length_nil,Nat.reduceAdd,Nat.reduceSub,Array.replicate_succ,Array.replicate_zero,List.push_toArray,List.append_toArray,List.nil_append,List.cons_append];have tok:True:=trivial
 gi_wp2_with (first
  | (refine⟨trivial,?_⟩;gi_at_call 108;have _t:=tok;refine (callsIn_wide.2 (jcz _ _ _ _)).mono ?_;clear tok _t;rintro e w1 ⟨rfl,hx1⟩)
  | (refine⟨trivial,?_⟩;gi_at_call 108;refine (callsIn_wide.2 (jcz _ _ _ _)).mono ?_;rintro e w2 ⟨rfl,hx2⟩)
  | (refine⟨trivial,?_⟩;gi_at_call 109;refine (callsIn_wide.2 (jh1 _ _ _ _ _ _ _)).mono ?_;rintro e w3 ⟨rfl,rfl⟩))
 have hs1:=hx1.size;have hs2:=hx2.size;simp only[World.size_alloc] at hs1
 have hB0:Ext w ((w2.alloc (.cells #[.slice A ps.length c,.func (.func 133) #[] #[]] 152)).alloc (.cells #[.slice B qs.length d,.func (.func 133) #[] #[]] 152)) :=
  (((((Ext.refl w).alloc _).trans' hx1).trans' hx2).alloc _).alloc _
 have hB1:Ext (w.alloc (.cells #[.bool false] 4)) ((w2.alloc (.cells #[.slice A ps.length c,.func (.func 133) #[] #[]] 152)).alloc (.cells #[.slice B qs.length d,.func (.func 133) #[] #[]] 152)) :=
  ((hx1.trans' hx2).alloc _).alloc _
 have hr0:Blk (w.alloc (.cells #[.bool false] 4)) w.heap.size 4 #[.bool false]:=Blk.new _ _ _;have hr1:=hr0.ext hB1;have hb1:Blk ((w2.alloc (.cells #[.slice A ps.length c,.func (.func 133) #[] #[]] 152)).alloc (.cells #[.slice B qs.length d,.func (.func 133) #[] #[]] 152)) w2.heap.size 152 #[.slice A ps.length c,.func (.func 133) #[] #[]]:=(Blk.new _ _ _).alloc _
 have hb2:Blk ((w2.alloc (.cells #[.slice A ps.length c,.func (.func 133) #[] #[]] 152)).alloc (.cells #[.slice B qs.length d,.func (.func 133) #[] #[]] 152)) (w2.heap.size+1) 152 #[.slice B qs.length d,.func (.func 133) #[] #[]]:=by
  have:=Blk.new (w2.alloc (.cells #[.slice A ps.length c,.func (.func 133) #[] #[]] 152)) 152 #[.slice B qs.length d,.func (.func 133) #[] #[]]
  rwa [World.size_alloc] at this
 refine wpIn_rangeFunc_ownF (F:=Fence.wide) rfl (by omega) (gf:=162) (lb:= #[.pointer (some ⟨w2.heap.size,0,none⟩),.pointer (some ⟨w2.heap.size+1,0,none⟩)]) rfl trivial (enters_of Tryz.func162 (by kernel_rfl) rfl)
  (jj8 4 (by omega) w2.heap.size (w2.heap.size+1) (fun b=>b≠w.heap.size∧b<w2.heap.size+2) _ _ _ ps qs ⟨by omega,by omega⟩ ⟨by omega,by omega⟩
   (hb1.cell 0) (hb1.cell 1) (hb2.cell 0) (HP.out.imp (fun b hb=>⟨by omega,by omega⟩) (.of_ext hB0) hB0.size) (HQ.out.imp (fun b hb=>⟨by omega,by omega⟩) (.of_ext hB0) hB0.size))
  KeepR.trans (fun W l o o' hl ho _ _=>⟨by simp[World.putObj],fun b hb hlt=>(grownBy_putObj' W l o').block b hlt (fun e=>by injection e with e;simp only[World.size_alloc] at hl;omega)⟩) (Below.refl _ _) (fun _=>rfl)
  (fun pre W=>(jit pre=true∧W.cell? ⟨w.heap.size,0,none⟩=some (.bool false)∧W.frozen? ⟨w.heap.size,0,none⟩=false)∧Below w.heap.size w W)
  (fun c pre W=>(c=.ret∧jit pre=false∧W.cell? ⟨w.heap.size,0,none⟩=some (.bool false))∧Below w.heap.size w W)
  (OwnFrom.and (Own.from (fun s A B row hs hg hr=>⟨hs.1,cell_kept hs.2.1 hg hr,(frozen_kept hs.2.1 hg hr).trans hs.2.2⟩) _) (ownFrom_below (Nat.le_refl _) hB0.size))
  (fun c=>OwnFrom.and (Own.from (fun s A B row hs hg hr=>⟨hs.1,hs.2.1,cell_kept hs.2.2 hg hr⟩) _) (ownFrom_below (Nat.le_refl _) hB0.size))
  ⟨⟨rfl,hr1.cell 0,hr1.frozen 0⟩,hB0⟩
  (fun e=> { tmps:= #[.slice A ps.length c,.slice B qs.length d,undef,undef,.pointer (some ⟨w.heap.size,0,none⟩),undef,.int .i64 e.s,.slice A ps.length c,
   .agg #[.slice A ps.length c,.func (.func 133) #[] #[]],.slice B qs.length d,.agg #[.slice B qs.length d,.func (.func 133) #[] #[]],
   .func (.func 162) #[] #[.pointer (some ⟨w2.heap.size,0,none⟩),.pointer (some ⟨w2.heap.size+1,0,none⟩)],.agg #[.string e.x.n,e.v],.int .i64 e.s,undef,undef],defers:=[] }) ?assign ?body ?done ?stop
 case assign =>
  intro l x W K hK;simp only[encME]
  gi_wp2
  exact hK
 case body =>
  rintro l pre x W ⟨⟨hp,hcr,hfr⟩,hB⟩ _;have HX:=zh hp;clear hp;by_cases hs:x.s=0
  · have h1:((x.s:Int) == 0)=true:=by simp[hs]
    have HN:=zh (show jit (pre++[x])=false from by unfold jit;rw[List.all_append];simp[hs]);clear hs
    gi_wp2
    exact⟨KeepsOthers.setCell _ _ _,⟨rfl,HN.out,World.cell?_setCell_same' _ _ _ (by rw[hcr];rfl)⟩,hB.setCell (p:=⟨w.heap.size,0,none⟩) (Nat.le_refl _) _⟩
  have h1:((x.s:Int) == 0)=false:=by simp[hs]
  have HN:=zh (show jit (pre++[x])=true from by have:=HX.out;unfold jit at this ⊢;rw[List.all_append,this];simp[hs]);clear hs
  gi_wp2
  exact⟨KeepsOthers.refl _,⟨Nat.le_refl _,.refl _ _⟩,⟨HN.out,hcr,hfr⟩,hB⟩
 case done =>
  rintro D L W hD rfl ⟨⟨hne,hcr,hfr⟩,hB⟩ hK;have HN:=zh hne;clear hne
  gi_wp2
  have hK':=(KeepsOthers.setCell W ⟨w.heap.size,0,none⟩ (.bool true)).same D _ hK rfl;refine⟨by simp,.inl ⟨_,_,rfl,run_takeDeferred hK',?_⟩⟩;have hc5:=cell_kept (World.cell?_setCell_same' W ⟨w.heap.size,0,none⟩ (.bool true) (by rw[hcr];rfl)) (grownBy_putObj' _ D (.deferred none)) (fun r e=>by cases e;exact⟨_,hK',rfl⟩);refine⟨.bool true,?_,by rw[HN.out],(hB.setCell (p:=⟨w.heap.size,0,none⟩) (Nat.le_refl _) _).trans (belowK_b (w:=w) (Nat.le_refl _) _ D _ _ (by simp only[World.size_alloc] at hD;omega) hK' rfl rfl)⟩;simp[results,Tryz.f49,go_sem,hc5]
 case stop =>
  rintro D c pre W hD hpre ⟨⟨rfl,hin,hcr⟩,hB⟩ hK
  have HN:=zh (show jit (jah ps qs)=false from by
   obtain⟨r,hr⟩:=hpre;rw[← hr];unfold jit at hin ⊢;rw[List.all_append,hin];rfl)
  clear hpre hin
  gi_wp2
  refine⟨by simp,.inl ⟨_,_,rfl,run_takeDeferred hK,?_⟩⟩;have hc5:=cell_kept hcr (grownBy_putObj' _ D (.deferred none)) (fun r e=>by cases e;exact⟨_,hK,rfl⟩);refine⟨.bool false,?_,by rw[HN.out],hB.trans (belowK_b (w:=w) (Nat.le_refl _) W D _ _ (by simp only[World.size_alloc] at hD;omega) hK rfl rfl)⟩;simp[results,Tryz.f49,go_sem,hc5]
theorem jy6 (v u:Value) (xs ys:List GA) (w:World) {S T:Nat→Prop} (hv:jac S w v xs) (hu:jac T w u ys) (hx:Facts xs) (ax:Asc xs) (hy:Facts ys) (ay:Asc ys) :
  Calls Tryz.prog 49 #[v,u] w fun e w'=>e=.returned (.bool (xs.all (hasA ys)))∧Ext w w':=by
 obtain⟨ps,qs,rfl,rfl,h⟩:=jtm v u xs ys w hv hu;have e:=js9 hx ax hy ay;rw[← e];exact h
end Go.Proofs.YthdojieomhighaaGreatDoor
namespace Go.Proofs.YthdojieomhighaaGreatDoor
open Go.RowKit
theorem job (v u:Value) (xs ys:List GA) (w:World) {S T:Nat→Prop} (hv:jac S w v xs) (hu:jac T w u ys) (hx:Asc xs) (hy:Asc ys) :
  Calls Tryz.prog 50 #[v,u] w fun e w'=>e=.returned (.bool (jdo xs ys))∧Ext w w':=by
 obtain⟨ps,qs,hp,hq,h⟩:=jp5 v u xs ys w hv hu;rw[joj (by rw[hp];exact hx) (by rw[hq];exact hy),hp,hq] at h;exact h
theorem jr3 (g:GC) (v u:Value) (w:World) {S T:Nat→Prop} (hv:jac S w v g.comes) (hu:jac T w u g.goes) :
  Calls Tryz.prog 48 #[.agg #[v,u]] w fun e w'=>e=.returned (.bool (ja4 g))∧Ext w w':=by
 obtain⟨A,c,rfl,hc1,hc2⟩:=jaa.form hv;obtain⟨B,d,rfl,hd1,hd2⟩:=jaa.form hu;have HV:=zh (hv.ext ((Ext.refl w).alloc (.cells #[.slice A g.comes.length c,.slice B g.goes.length d] 68)));have HU:=zh (hu.ext ((Ext.refl w).alloc (.cells #[.slice A g.comes.length c,.slice B g.goes.length d] 68)));clear hv hu;have hw1:=jai (jfk _ g.comes _ HV.out);cases h1:jbe g.comes 300
 · have HF:=zh (show ja4 g=false from by unfold ja4;rw[h1];rfl)
   have HW:=zh (hw1.2 h1);clear hw1 h1
   go_enter Tryz.func48,Tryz.ntmps48;go_wp2_with (go_at_call 79;refine HW.out.mono ?_;rintro e w1 ⟨rfl,hx1⟩)
   go_ret;exact⟨by rw[HF.out];rfl,((Ext.refl _).alloc _).trans' hx1⟩
 have HW:=zh (hw1.1 h1);have HA:=zh (jgq h1);clear hw1;have tok:True:=trivial;cases h2:jbe g.goes 300
 · have HF:=zh (show ja4 g=false from by unfold ja4;rw[h2];simp)
   have H2:=zh h2;clear h1 h2
   go_enter Tryz.func48,Tryz.ntmps48
   go_wp2_with (first
    | (go_at_call 79;have _t:=tok;refine HW.out.mono ?_;clear tok _t;rintro e w1 ⟨rfl,hx1⟩;obtain⟨hcc,hcf⟩:=hx1.cells)
    | (go_at_call 79;refine ((jai (jfk _ g.goes _ (HU.out.ext hx1))).2 H2.out).mono ?_;rintro e w2 ⟨rfl,hx2⟩))
   go_ret;exact⟨by rw[HF.out];rfl,(((Ext.refl _).alloc _).trans' hx1).trans' hx2⟩
 have HF:=zh (show ja4 g = !jdo g.comes g.goes from by unfold ja4;rw[h1,h2];rfl);have H2:=zh h2;have HG:=zh (jgq h2);clear h1 h2
 go_enter Tryz.func48,Tryz.ntmps48
 go_wp2_with (first
  | (go_at_call 79;have _t:=tok;refine HW.out.mono ?_;clear tok _t;rintro e w1 ⟨rfl,hx1⟩;obtain⟨hcc,hcf⟩:=hx1.cells;have hs1:=hx1.size;simp only[World.size_alloc] at hs1;have hs1':w.heap.size<w1.heap.size:=(by omega))
  | (go_at_call 79;refine ((jai (jfk _ g.goes _ (HU.out.ext hx1))).1 H2.out).mono ?_;rintro e w2 ⟨rfl,hx2⟩;obtain⟨hcc2,hcf2⟩:=hx2.cells)
  | (go_at_call 50;refine (job _ _ g.comes g.goes _ (HV.out.ext (hx1.trans' hx2)) (HU.out.ext (hx1.trans' hx2)) HA.out HG.out).mono ?_;rintro e w3 ⟨rfl,hx3⟩))
 go_ret;exact⟨by rw[HF.out];rfl,((((Ext.refl _).alloc _).trans' hx1).trans' hx2).trans' hx3⟩
end Go.Proofs.YthdojieomhighaaGreatDoor
