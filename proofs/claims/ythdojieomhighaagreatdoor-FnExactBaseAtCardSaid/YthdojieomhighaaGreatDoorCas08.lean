/- Own texts, joined. -/
import Derived.Test.YthdojieomhighaaGreatDoorCas05
import Derived.Test.YthdojieomhighaaGreatDoorCas04
import Derived.Test.YthdojieomhighaaGreatDoorCas07
import Derived.Test.YthdojieomhighaaGreatDoorCas06
import Derived.WideKeyEntry
import Derived.DeepKeys4
import Derived.Maps.OwnSet
import Derived.Maps.Views
set_option linter.unusedSimpArgs false
set_option linter.unusedVariables false
set_option maxRecDepth 100000
namespace Go.Proofs.YthdojieomhighaaGreatDoor
open Go.RowKit
/-! ### Slots, patterns, numbers -/
def GS.num (s:GS):Int:=match s.v with
 | none=> -1
 | some v=>(v:Int)
def SlotE (_:World) (cs:List Value) (s:GS):Prop:=cs=[.int .i64 s.num,.string s.w]∧s.w.size≤maxLen
def jbc (S:Nat→Prop):World→Value→List GS→Prop:=jaa S 2 SlotE
def kSlot:Kind GS:=⟨2,fun _=>SlotE,by decide,fun h _ _ _=>h,fun h=>by obtain⟨rfl,_⟩:=h;intro u hu;simp at hu;rcases hu with rfl|rfl<;>rfl,fun h=>by obtain⟨rfl,_⟩:=h;rfl⟩
theorem jbc.impL {S S':Nat→Prop} {w w':World} {v:Value} {xs:List GS} (h:jbc S w v xs) (hS:∀ b,S b→b<w.heap.size→S' b) (he:Agree S w w') (hsz:w.heap.size≤w'.heap.size):jbc S' w' v xs:=ListK.imp (k:=kSlot) h hS he hsz
theorem jbc.ext {S:Nat→Prop} {w w':World} {v:Value} {xs:List GS} (h:jbc S w v xs) (he:Ext w w'):jbc S w' v xs:=h.impL (fun _ h _=>h) (.of_ext he) he.size
theorem jbc.at_ {S:Nat→Prop} {w:World} {A:Option Addr} {n c:Nat} {xs:List GS} (h:jbc S w (.slice A n c) xs) {k:Nat} (hk:k<n) :
  ∃ (b off:Nat) (x:GS),A=some ⟨b,off,none⟩∧b<w.heap.size∧xs[k]? = some x∧x.w.size≤maxLen ∧
    w.cell? ⟨b,off+k*2,none⟩=some (.int .i64 x.num)∧w.cell? ⟨b,off+k*2+1,none⟩=some (.string x.w):=by
 obtain⟨b,off,x,cs,hA,hb,hx,_,hc,rfl,hs⟩:=jaa.at_ h hk;exact⟨b,off,x,hA,hb,hx,hs,hc 0 _ rfl,hc 1 _ rfl⟩
def PatE (S:Nat→Prop) (w:World) (cs:List Value) (p:GPat):Prop:=∃ v,cs=[.string p.n,v]∧p.n.size≤maxLen∧jbc S w v p.slots
def kPat:Kind GPat:=⟨2,PatE,by decide,fun h hS he hsz=>by obtain⟨v,h1,h2,h3⟩:=h;exact⟨v,h1,h2,h3.impL hS he hsz⟩,
 fun {_ _ l x} h=>by obtain⟨v,rfl,_,ht⟩:=h;intro y hy;simp at hy;rcases hy with rfl|rfl<;>first|rfl|exact ListK.one (k:=kSlot) ht,fun h=>by obtain⟨v,rfl,_⟩:=h;rfl⟩
def PatsR (S:Nat→Prop):World→Value→List GPat→Prop:=jaa S 2 (PatE S)
theorem PatsR.impL {S S':Nat→Prop} {w w':World} {v:Value} {xs:List GPat} (h:PatsR S w v xs) (hS:∀ b,S b→b<w.heap.size→S' b) (he:Agree S w w') (hsz:w.heap.size≤w'.heap.size):PatsR S' w' v xs:=ListK.imp (k:=kPat) h hS he hsz
theorem PatsR.ext {S:Nat→Prop} {w w':World} {v:Value} {xs:List GPat} (h:PatsR S w v xs) (he:Ext w w'):PatsR S w' v xs:=h.impL (fun _ h _=>h) (.of_ext he) he.size
theorem PatsR.at_ {S:Nat→Prop} {w:World} {A:Option Addr} {n c:Nat} {xs:List GPat} (h:PatsR S w (.slice A n c) xs) {k:Nat} (hk:k<n) :
  ∃ (b off:Nat) (x:GPat) (v:Value),A=some ⟨b,off,none⟩∧b<w.heap.size∧xs[k]? = some x∧x.n.size≤maxLen∧jbc S w v x.slots ∧
    w.cell? ⟨b,off+k*2,none⟩=some (.string x.n)∧w.cell? ⟨b,off+k*2+1,none⟩=some v:=by
 obtain⟨b,off,x,cs,hA,hb,hx,_,hc,v,rfl,hs,ht⟩:=jaa.at_ h hk;exact⟨b,off,x,v,hA,hb,hx,hs,ht,hc 0 _ rfl,hc 1 _ rfl⟩
def NumE (_:World) (cs:List Value) (n:Nat):Prop:=cs=[.int .i64 (n:Int)]
def kNum:Kind Nat:=⟨1,fun _=>NumE,by decide,fun h _ _ _=>h,fun h=>by obtain rfl:=h;intro u hu;simp at hu;subst hu;rfl,fun h=>by obtain rfl:=h;rfl⟩
def NumsR (S:Nat→Prop):World→Value→List Nat→Prop:=jaa S 1 NumE
theorem NumsR.impL {S S':Nat→Prop} {w w':World} {v:Value} {xs:List Nat} (h:NumsR S w v xs) (hS:∀ b,S b→b<w.heap.size→S' b) (he:Agree S w w') (hsz:w.heap.size≤w'.heap.size):NumsR S' w' v xs:=ListK.imp (k:=kNum) h hS he hsz
theorem NumsR.ext {S:Nat→Prop} {w w':World} {v:Value} {xs:List Nat} (h:NumsR S w v xs) (he:Ext w w'):NumsR S w' v xs:=h.impL (fun _ h _=>h) (.of_ext he) he.size
theorem NumsR.at_ {S:Nat→Prop} {w:World} {A:Option Addr} {n c:Nat} {xs:List Nat} (h:NumsR S w (.slice A n c) xs) {k:Nat} (hk:k<n) :
  ∃ (b off x:Nat),A=some ⟨b,off,none⟩∧b<w.heap.size∧xs[k]? = some x∧w.cell? ⟨b,off+k,none⟩=some (.int .i64 (x:Int)):=by
 obtain⟨b,off,x,cs,hA,hb,hx,_,hc,rfl⟩:=jaa.at_ h hk;exact⟨b,off,x,hA,hb,hx,by simpa using hc 0 _ rfl⟩
/-! ### The search's block -/
structure Sea where
 st:Value
 q0:Value
 q1:Value
 q2:Value
 wanted:List Bool
 inOrd:Bool
 ahead:Int
 W:Words
 bd:List Nat
 cnt:Nat
 tell:Value
def Sea.f (s:Sea) (i:Nat):Value :=
 if i=0 then s.st else if i=1 then s.q0 else if i=2 then s.q1 else if i=3 then s.q2
 else if i<16 then .bool (s.wanted.getD (i-4) false)
 else if i=16 then .bool s.inOrd else if i=17 then .int .i64 s.ahead
 else if i<30 then .string (s.W.at_ (i-18))
 else if i<42 then .int .i64 ((s.bd.getD (i-30) 0:Nat):Int)
 else if i=42 then .int .i64 (s.cnt:Int) else s.tell
def Sea.cells (s:Sea):Array Value:=Array.ofFn (n:=44) fun i=>s.f i.val
theorem Sea.size (s:Sea):s.cells.size=44:=by simp[Sea.cells]
theorem Sea.at_ (s:Sea) {i:Nat} (h:i<44):s.cells[i]? = some (s.f i):=by simp[Sea.cells,h]
theorem Sea.set_ (s t:Sea) {j:Nat} {u:Value} (hj:j<44) (h1:t.f j=u) (h2:∀ i,i<44→i≠j→t.f i=s.f i):s.cells.setIfInBounds j u=t.cells:=by
 apply Array.ext_getElem?
 intro i;rw[Array.getElem?_setIfInBounds];by_cases hi:i<44
 · rw [t.at_ hi]
   by_cases hij:j=i
   · subst hij;rw[if_pos rfl,if_pos (by rw[s.size];exact hj),h1]
   rw[if_neg hij,s.at_ hi,h2 i hi (fun e=>hij e.symm)]
 have e1:t.cells[i]? = none:=Array.getElem?_eq_none (by rw[t.size];omega);have e2:s.cells[i]? = none:=Array.getElem?_eq_none (by rw[s.size];omega);rw[e1,e2,if_neg (by omega:¬ j=i)]
structure SeaAt (w:World) (sb:Nat) (s:Sea):Prop where
 blk:Blk w sb 234 s.cells
 lW:s.W.length=12
 lB:s.bd.length=12
 lw:s.wanted.length=12
 small:∀ x∈s.W,x.size≤maxLen
section
variable {w w':World} {sb:Nat} {s:Sea}
theorem SeaAt.lt (h:SeaAt w sb s):sb<w.heap.size:=h.blk.lt
theorem SeaAt.ext (h:SeaAt w sb s) (hx:Ext w w'):SeaAt w' sb s:=⟨h.blk.ext hx,h.lW,h.lB,h.lw,h.small⟩
theorem SeaAt.inside {S:Nat→Prop} (h:SeaAt w sb s) (hx:jab S w w') (hS:¬ S sb):SeaAt w' sb s:=⟨hx.blk h.blk hS,h.lW,h.lB,h.lw,h.small⟩
theorem SeaAt.cell (h:SeaAt w sb s) {i:Nat} (hi:i<44):w.cell? ⟨sb,i,none⟩=some (s.f i):=by rw[h.blk.cell,s.at_ hi]
theorem SeaAt.frozen (h:SeaAt w sb s) (i:Nat):w.frozen? ⟨sb,i,none⟩=false:=h.blk.frozen i
theorem SeaAt.word (h:SeaAt w sb s) {v:Nat} (hv:v<12):w.cell? ⟨sb,18+v,none⟩=some (.string (s.W.at_ v)):=by
 rw[h.cell (by omega)];unfold Sea.f;rw[if_neg (by omega),if_neg (by omega),if_neg (by omega),if_neg (by omega),if_neg (by omega),if_neg (by omega),if_neg (by omega),if_pos (by omega)];rw[show 18+v-18=v by omega]
theorem SeaAt.bound (h:SeaAt w sb s) {c:Nat} (hc:c<12):w.cell? ⟨sb,30+c,none⟩=some (.int .i64 ((s.bd.getD c 0:Nat):Int)):=by
 rw[h.cell (by omega)];unfold Sea.f;rw[if_neg (by omega),if_neg (by omega),if_neg (by omega),if_neg (by omega),if_neg (by omega),if_neg (by omega),if_neg (by omega),if_neg (by omega),if_pos (by omega)];rw[show 30+c-30=c by omega]
theorem SeaAt.want (h:SeaAt w sb s) {c:Nat} (hc:c<12):w.cell? ⟨sb,4+c,none⟩=some (.bool (s.wanted.getD c false)):=by
 rw[h.cell (by omega)];unfold Sea.f;rw[if_neg (by omega),if_neg (by omega),if_neg (by omega),if_neg (by omega),if_pos (by omega)];rw[show 4+c-4=c by omega]
theorem SeaAt.st (h:SeaAt w sb s):w.cell? ⟨sb,0,none⟩=some s.st:=h.cell (i:=0) (by omega)
theorem SeaAt.q0 (h:SeaAt w sb s):w.cell? ⟨sb,1,none⟩=some s.q0:=h.cell (i:=1) (by omega)
theorem SeaAt.q1 (h:SeaAt w sb s):w.cell? ⟨sb,2,none⟩=some s.q1:=h.cell (i:=2) (by omega)
theorem SeaAt.inOrd (h:SeaAt w sb s):w.cell? ⟨sb,16,none⟩=some (.bool s.inOrd):=h.cell (i:=16) (by omega)
theorem SeaAt.ahead (h:SeaAt w sb s):w.cell? ⟨sb,17,none⟩=some (.int .i64 s.ahead):=h.cell (i:=17) (by omega)
theorem SeaAt.cnt (h:SeaAt w sb s):w.cell? ⟨sb,42,none⟩=some (.int .i64 (s.cnt:Int)):=h.cell (i:=42) (by omega)
theorem SeaAt.tell (h:SeaAt w sb s):w.cell? ⟨sb,43,none⟩=some s.tell:=h.cell (i:=43) (by omega)
theorem SeaAt.setW (h:SeaAt w sb s) {v:Nat} (hv:v<12) {x:ByteArray} (hx:x.size≤maxLen):SeaAt (w.setCell ⟨sb,18+v,none⟩ (.string x)) sb { s with W:=s.W.set v x }:=by
 refine⟨?_,by rw[List.length_set];exact h.lW,h.lB,h.lw,fun y hy=>?_⟩
 · have h1:=h.blk.set_ (18+v) (.string x)
   rwa [s.set_ { s with W:=s.W.set v x } (by omega) (by
    unfold Sea.f;rw[if_neg (by omega),if_neg (by omega),if_neg (by omega),if_neg (by omega),if_neg (by omega),if_neg (by omega),if_neg (by omega),if_pos (by omega)];rw[show 18+v-18=v by omega];show Value.string (Words.at_ (s.W.set v x) v)=_;rw[jka,if_pos ⟨rfl,by rw[h.lW];exact hv⟩]) (fun i hi hne=>by
    unfold Sea.f;by_cases h18:18≤i∧i<30
    · rw [if_neg (by omega),if_neg (by omega),if_neg (by omega),if_neg (by omega),if_neg (by omega),if_neg (by omega),if_neg (by omega),if_pos (by omega)]
      rw[if_neg (by omega),if_neg (by omega),if_neg (by omega),if_neg (by omega),if_neg (by omega),if_neg (by omega),if_neg (by omega),if_pos (by omega)];show Value.string (Words.at_ (s.W.set v x) (i-18))=_;rw[jka,if_neg (by omega)]
    rcases (by omega:i=0∨i=1∨i=2∨i=3∨i=4∨i=5∨i=6∨i=7∨i=8∨i=9∨i=10∨i=11∨i=12∨i=13∨i=14∨i=15∨i=16∨i=17∨i=30∨i=31∨i=32∨i=33∨i=34∨i=35∨i=36∨i=37∨i=38∨i=39∨i=40∨i=41∨i=42∨i=43) with rfl|rfl|rfl|rfl|rfl|rfl|rfl|rfl|rfl|rfl|rfl|rfl|rfl|rfl|rfl|rfl|rfl|rfl|rfl|rfl|rfl|rfl|rfl|rfl|rfl|rfl|rfl|rfl|rfl|rfl|rfl|rfl<;>rfl)] at h1
 rcases List.mem_or_eq_of_mem_set hy with h1|h1
 · exact h.small y h1
 rw[h1];exact hx
theorem SeaAt.setB (h:SeaAt w sb s) {c:Nat} (hc:c<12) (n:Nat):SeaAt (w.setCell ⟨sb,30+c,none⟩ (.int .i64 (n:Int))) sb { s with bd:=s.bd.set c n }:=by
 refine⟨?_,h.lW,by rw[List.length_set];exact h.lB,h.lw,h.small⟩;have h1:=h.blk.set_ (30+c) (.int .i64 (n:Int))
 rwa [s.set_ { s with bd:=s.bd.set c n } (by omega) (by
  unfold Sea.f;rw[if_neg (by omega),if_neg (by omega),if_neg (by omega),if_neg (by omega),if_neg (by omega),if_neg (by omega),if_neg (by omega),if_neg (by omega),if_pos (by omega)];rw[show 30+c-30=c by omega];show Value.int .i64 (((s.bd.set c n).getD c 0:Nat):Int)=_;rw[List.getD_eq_getElem?_getD,List.getElem?_set_self (by rw[h.lB];exact hc)];rfl) (fun i hi hne=>by
  unfold Sea.f;by_cases h18:30≤i∧i<42
  · rw [if_neg (by omega),if_neg (by omega),if_neg (by omega),if_neg (by omega),if_neg (by omega),if_neg (by omega),if_neg (by omega),if_neg (by omega),if_pos (by omega)]
    rw[if_neg (by omega),if_neg (by omega),if_neg (by omega),if_neg (by omega),if_neg (by omega),if_neg (by omega),if_neg (by omega),if_neg (by omega),if_pos (by omega)];show Value.int .i64 (((s.bd.set c n).getD (i-30) 0:Nat):Int)=_;rw[List.getD_eq_getElem?_getD,List.getElem?_set_ne (by omega),← List.getD_eq_getElem?_getD]
  rcases (by omega:i=0∨i=1∨i=2∨i=3∨i=4∨i=5∨i=6∨i=7∨i=8∨i=9∨i=10∨i=11∨i=12∨i=13∨i=14∨i=15∨i=16∨i=17∨i=18∨i=19∨i=20∨i=21∨i=22∨i=23∨i=24∨i=25∨i=26∨i=27∨i=28∨i=29∨i=42∨i=43) with rfl|rfl|rfl|rfl|rfl|rfl|rfl|rfl|rfl|rfl|rfl|rfl|rfl|rfl|rfl|rfl|rfl|rfl|rfl|rfl|rfl|rfl|rfl|rfl|rfl|rfl|rfl|rfl|rfl|rfl|rfl|rfl<;>rfl)] at h1
theorem SeaAt.setC (h:SeaAt w sb s) (n:Nat):SeaAt (w.setCell ⟨sb,42,none⟩ (.int .i64 (n:Int))) sb { s with cnt:=n }:=by
 refine⟨?_,h.lW,h.lB,h.lw,h.small⟩;have h1:=h.blk.set_ 42 (.int .i64 (n:Int))
 rwa [s.set_ { s with cnt:=n } (j:=42) (u:=.int .i64 (n:Int)) (by omega) rfl (fun i hi hne=>by
  rcases (by omega:i=0∨i=1∨i=2∨i=3∨i=4∨i=5∨i=6∨i=7∨i=8∨i=9∨i=10∨i=11∨i=12∨i=13∨i=14∨i=15∨i=16∨i=17∨i=18∨i=19∨i=20∨i=21∨i=22∨i=23∨i=24∨i=25∨i=26∨i=27∨i=28∨i=29∨i=30∨i=31∨i=32∨i=33∨i=34∨i=35∨i=36∨i=37∨i=38∨i=39∨i=40∨i=41∨i=43) with rfl|rfl|rfl|rfl|rfl|rfl|rfl|rfl|rfl|rfl|rfl|rfl|rfl|rfl|rfl|rfl|rfl|rfl|rfl|rfl|rfl|rfl|rfl|rfl|rfl|rfl|rfl|rfl|rfl|rfl|rfl|rfl|rfl|rfl|rfl|rfl|rfl|rfl|rfl|rfl|rfl|rfl|rfl<;>rfl)] at h1
theorem jvq (h:SeaAt w sb s) (v:Nat):(s.W.at_ v).size≤maxLen:=by
 unfold Words.at_;rw[List.getD_eq_getElem?_getD]
 cases hg:s.W[v]? with
 | none=>exact Nat.zero_le _
 | some x=>exact h.small x (List.mem_of_getElem? hg)
theorem jki (h:SeaAt w sb s) {t:GS} (ht:t.w.size≤maxLen):(jau s.W t).size≤maxLen:=by
 unfold jau;split
 · exact ht
 exact jvq h _
end
/-! ### What a match has bound -/
def jdf:List GS→List GT→Words→List Nat
 | s :: ss,t :: ts,W =>
   if t.v || isNo t.n then []
   else if isNo (jau W s) then s.v.toList++jdf ss ts (bindW W s t.n)
   else if jau W s=t.n then jdf ss ts W else []
 | _,_,_=>[]
def jeg (p:GPat) (a:GA) (W:Words):List Nat:=if p.n=a.n∧p.slots.length=a.args.length then jdf p.slots a.args W else []
def jgg (W:Words):List Nat→Words
 | []=>W
 | v :: vs=>(jgg W vs).set v jcq
theorem jhi:∀ (ss:List GS) (ts:List GT) (W:Words),(∀ s∈ss,jb3 W.length s)→jgg (jb9 ss ts W).1 (jdf ss ts W)=W
 | [],ts,W,_=>by simp[jb9,jdf,jgg]
 | s :: ss,[],W,_=>by simp[jb9,jdf,jgg]
 | s :: ss,t :: ts,W,h=>by
   have hs:=h s List.mem_cons_self;simp only[jb9,jdf];split
   · rfl
   split
   · rename_i h1 h2
     cases hv:s.v with
     | none =>
       unfold jb3 at hs;rw[hv] at hs;unfold jau at h2;rw[hv] at h2;simp only at hs h2;rw[hs] at h2;cases h2
     | some v =>
       have hvl:v<W.length:=by unfold jb3 at hs;rw[hv] at hs;exact hs
       have hw:isNo (W.at_ v)=true:=by unfold jau at h2;rw[hv] at h2;exact h2
       have hb:bindW W s t.n=W.set v t.n:=by unfold bindW;rw[hv]
       have ih:=jhi ss ts (W.set v t.n) (fun q hq=>by rw[List.length_set];exact h q (List.mem_cons_of_mem _ hq));show jgg (jb9 ss ts (bindW W s t.n)).1 (v :: jdf ss ts (bindW W s t.n))=W;rw[hb];simp only[jgg];rw[ih,List.set_set];apply List.ext_getElem?
       intro i;rw[List.getElem?_set];by_cases hi:v=i
       · subst hi
         rw[if_pos rfl,if_pos hvl];have:=jt9.1 hw;unfold Words.at_ at this;rw[List.getD_eq_getElem?_getD,List.getElem?_eq_getElem hvl] at this;rw[List.getElem?_eq_getElem hvl,← this];rfl
       rw[if_neg hi]
   split
   · exact jhi ss ts W (fun q hq=>h q (List.mem_cons_of_mem _ hq))
   rfl
theorem jqm {p:GPat} {a:GA} {W:Words} (h:∀ s∈p.slots,jb3 W.length s):jgg (jak p a W).1 (jeg p a W)=W:=by
 unfold jak jeg;split
 · exact jhi _ _ _ h
 rfl
theorem jjd:∀ (l m:List Nat),l.Nodup→(∀ x∈l,x∈m)→l.length≤m.length
 | [],_,_,_=>Nat.zero_le _
 | x :: l,m,h,hs=>by
   obtain⟨hx,hl⟩:=List.nodup_cons.1 h;have hm:=hs x List.mem_cons_self;have ih:=jjd l (m.erase x) hl (fun y hy=>(List.mem_erase_of_ne (fun (e:y=x)=>hx (by rw[← e];exact hy))).2 (hs y (List.mem_cons_of_mem _ hy)));rw[List.length_erase_of_mem hm] at ih;have:0<m.length:=List.length_pos_of_mem hm;rw[List.length_cons];omega
def Bok (W:Words) (l:List Nat):Prop:=l.Nodup∧∀ v∈l,v<12∧isNo (W.at_ v)=false
theorem Bok.len {W:Words} {l:List Nat} (h:Bok W l):l.length≤12:=by
 have:=jjd l (List.range 12) h.1 (fun v hv=>List.mem_range.2 (h.2 v hv).1);simpa using this
theorem Bok.snoc {W:Words} {l:List Nat} {v:Nat} {x:ByteArray} (h:Bok W l) (hW:W.length=12) (hv:v<12) (hn:isNo (W.at_ v)=true) (hx:isNo x=false):Bok (W.set v x) (l++[v]):=by
 have hm:v ∉ l:=fun hm=>by rw[(h.2 v hm).2] at hn;cases hn
 refine⟨List.nodup_append.2 ⟨h.1,by simp,fun a ha b hb=>by simp at hb;subst hb;exact fun e=>hm (e▸ha)⟩,fun u hu=>?_⟩;rcases List.mem_append.1 hu with hu|hu
 · refine ⟨(h.2 u hu).1,?_⟩
   rw[jka,if_neg (fun (e:v=u∧v<W.length)=>hm (e.1▸hu))];exact (h.2 u hu).2
 simp at hu;subst hu;exact⟨hv,by rw[jka,if_pos ⟨rfl,by omega⟩];exact hx⟩
theorem Bok.room {W:Words} {l:List Nat} {v:Nat} (h:Bok W l) (hW:W.length=12) (hv:v<12) (hn:isNo (W.at_ v)=true):l.length<12:=by
 have:=(h.snoc (x:=⟨#[0]⟩) hW hv hn rfl).len;simp at this;omega
end Go.Proofs.YthdojieomhighaaGreatDoor
namespace Go.Proofs.YthdojieomhighaaGreatDoor
open Go.RowKit
open Go.ChangeMaps (setBlock heap_setBlock_same heap_setBlock_other)
def nilS:Value:=.slice none 0 0
def idR (v:Value):Option (DataW Value × List MemPlace):=some (.held v,[])
theorem wkRow:(325:TypeId)<Tryz.prog.types.size:=of_decide_eq_true (by kernel_rfl)
theorem j08:(match Tryz.prog.underlying 325 with|some (.array _ _)|some (.struct _)=>true|_=>false)=true:=by kernel_rfl
theorem j09:laidOutB Tryz.prog=true:=by kernel_rfl
theorem wkLaw:WideMaps.KeyLaw Tryz.prog 325:=deep_law_laid j09 (m:=3) (by omega) wkRow (by kernel_rfl) j08
theorem jje:Go.Maps.Keyed Tryz.prog 325:=Go.Maps.Keyed.of_law wkLaw
theorem jxh (w:World):(zeroValue 107).run Tryz.prog w=.ok nilS w:=by kernel_rfl
def wkey (n:ByteArray) (size:Nat) (at_:Int) (s:ByteArray):Value:=.agg #[.string n,.int .i64 (size:Int),.int .i64 at_,.string s]
theorem j0t:Tryz.prog.keyType 325=true:=by kernel_rfl
theorem jzl:Tryz.prog.cellsOf 325=4∧Tryz.prog.cellsOf 9=1∧Tryz.prog.cellsOf 3=1:=⟨by kernel_rfl,by kernel_rfl,by kernel_rfl⟩
theorem jzm:∃ d,Tryz.prog.types.size+1=d+1+1:=by
 have h:(325:Nat)<Tryz.prog.types.size:=wkRow;exact⟨Tryz.prog.types.size-1,by omega⟩
theorem j1a {P:Program} {k ts ti:TypeId} {f0 f1 f2 f3:Field} (hk:P.underlying k=some (.struct #[f0,f1,f2,f3])) (hs:P.underlying ts=some .string) (hi:P.underlying ti=some (.int .i64))
  (t0:f0.type=ts∧f0.offset=0∧(f0.name != "_")=true) (t1:f1.type=ti∧f1.offset=1∧(f1.name != "_")=true) (t2:f2.type=ti∧f2.offset=2∧(f2.name != "_")=true) (t3:f3.type=ts∧f3.offset=3∧(f3.name != "_")=true)
  (hkt:P.keyType k=true) (c4:P.cellsOf k=4) (c1:P.cellsOf ts=1) (c2:P.cellsOf ti=1) {d:Nat} (hd:P.types.size+1=d+1+1)
  {n s:ByteArray} {a b:Int} (hn:n.size≤maxLen) (hss:s.size≤maxLen) (h1:(Lit.int .i64 a).wf=true) (h2:(Lit.int .i64 b).wf=true):∃ kl,keyOf P k (.agg #[.string n,.int .i64 a,.int .i64 b,.string s])=some kl:=by
 obtain⟨q0,r0,n0⟩:=t0;obtain⟨q1,r1,n1⟩:=t1;obtain⟨q2,r2,n2⟩:=t2;obtain⟨q3,r3,n3⟩:=t3;have hd':P.types.size=d+1:=by omega
 unfold keyOf;simp only[bne_iff_ne,ne_eq] at n0 n1 n2 n3;simp[hk,hkt,Value.formed,c4,hd',Program.keyLits,hs,hi,c1,c2,hn,hss,h1,h2,q0,q1,q2,q3,r0,r1,r2,r3,n0,n1,n2,n3,Value.cells]
theorem jui {n s:ByteArray} {size:Nat} {at_:Int} (hn:n.size≤maxLen) (hs:s.size≤maxLen) (hz:size≤1000000) (ha1: -1≤at_) (ha2:at_≤1000000):∃ kl,keyOf Tryz.prog 325 (wkey n size at_ s)=some kl:=by
 obtain⟨d,hd⟩:=jzm;obtain⟨c1,c2,c3⟩:=jzl;exact j1a Tryz.underlying325 Tryz.underlying9 Tryz.underlying3 ⟨rfl,rfl,by decide⟩ ⟨rfl,rfl,by decide⟩ ⟨rfl,rfl,by decide⟩ ⟨rfl,rfl,by decide⟩ j0t c1 c2 c3 hd hn hs (WalkArith.wf_i64 (by omega)) (WalkArith.wf_i64 (by omega))
def MapV (w:World) (B n:Nat) (f:Value→Value):Prop :=
 ∃ D:DataW Value,w.ownsMap Tryz.prog 325 idR B n D∧∀ key kl,keyOf Tryz.prog 325 key=some kl→D.atKey kl (.held nilS)=.held (f key)
section
variable {w w':World} {B n:Nat} {f:Value→Value}
theorem MapV.made (w:World):MapV (w.alloc (.map #[] 0)) w.heap.size 0 (fun _=>nilS):=⟨.map [],World.ownsMap_made _ _ _ _,fun _ _ _=>rfl⟩
theorem MapV.lt (h:MapV w B n f):B<w.heap.size:=by obtain⟨D,h1,_⟩:=h;exact h1.lt
theorem MapV.mono (h:MapV w B n f) {m:Nat} (hm:n≤m):MapV w B m f:=by obtain⟨D,h1,h2⟩:=h;exact⟨D,h1.mono hm,h2⟩
theorem MapV.same (h:MapV w B n f) (hx:w'.heap[B]? = w.heap[B]?):MapV w' B n f:=by
 obtain⟨D,⟨es,clock,hb,r⟩,h2⟩:=h;exact⟨D,⟨es,clock,hx.trans hb,r⟩,h2⟩
theorem MapV.kept {row:Option Nat} (h:MapV w B n f) (hg:w.grownBy w' row) (hne:some B≠row):MapV w' B n f:=h.same (hg.block B h.lt hne)
theorem MapV.ext (h:MapV w B n f) (hx:Ext w w'):MapV w' B n f:=h.same (hx.block B h.lt)
theorem MapV.inside {S:Nat→Prop} (h:MapV w B n f) (hx:jab S w w') (hS:¬ S B):MapV w' B n f:=h.same (hx.block B h.lt hS)
theorem MapV.set (h:MapV w B n f) {p:Addr} (hp:B≠p.block) (u:Value):MapV (w.setCell p u) B n f:=h.same (Below.heap_setCell w p u B hp)
theorem MapV.look (h:MapV w B n f) {key:Value} {kl:Lit} (hkey:keyOf Tryz.prog 325 key=some kl):(Instr.lookup 174 (.map (some B)) key false).run Tryz.prog w=.ok (f key) w:=by
 obtain⟨D,h1,h2⟩:=h;obtain⟨v,ps,hr,hv⟩:=h1.lookup jje Tryz.underlying174 (jxh w) (zd:=.held nilS) (zp:=[]) rfl hkey;rw[h2 key kl hkey] at hv;unfold idR at hv;injection hv with hv
 injection hv with hv _
 injection hv with hv
 rw[hr,hv]
theorem MapV.entry (h:MapV w B n f) (hn:n<maxLen) {key:Value} {kl:Lit} (hkey:keyOf Tryz.prog 325 key=some kl) :
  ∃ (st:Nat) (w1:World),(Instr.mapEntry 174 (.map (some B)) key).run Tryz.prog w=.ok (.tuple #[f key,.int .i64 (st:Int)]) w1∧w.grownBy w1 (some B)∧w1.heap.size=w.heap.size ∧
    ∀ (w2:World) (val:Value),w2.heap[B]? = w1.heap[B]? →∃ w3,(Instr.entryStore 174 (.map (some B)) (.int .i64 (st:Int)) val).run Tryz.prog w2=.ok () w3∧(∃ f',f' key=val∧(∀ k,k≠key→f' k=f k)∧MapV w3 B (n+1) f')∧w2.grownBy w3 (some B)∧w3.heap.size=w2.heap.size:=by
 have hl:=h.look hkey;obtain⟨D,h1,h2⟩:=h;obtain⟨es,clock,hb,F,hs,hD⟩:=id h1;obtain⟨v0,st,es1,clock1,hr,hv,hst⟩:=WideElems.entry_then_store (R:=idR) wkLaw Tryz.underlying174 (fun u=>jxh u) hb F hkey
 have hg:∀ (u:World) (o:Obj) (es0:Array MapEntry) (c0:Nat),u.heap[B]? = some (.map es0 c0)→(u.grownBy (setBlock u B o) (some B)∧(setBlock u B o).heap.size=u.heap.size):=fun u o es0 c0 hu =>
  ⟨⟨rfl,rfl,rfl,by simp[setBlock],fun i _ hi=>heap_setBlock_other hu _ (fun e=>hi (by rw[e]))⟩,by simp[setBlock]⟩
 have hv0:v0=f key:=by
  rcases Maps.fit_look false jje Tryz.underlying174 (jxh w) hb F hkey with ⟨k1,k2,_⟩|⟨e0,y,k1,k2,k3,_⟩
  · rw [hl] at k1
    injection k1 with k1 _
    rcases hv with ⟨e1,g1,g2,_⟩|⟨_,g⟩
    · exact absurd g2 (k2 e1 g1)
    rw[g];exact k1.symm
  rw[hl] at k3;injection k3 with k3 _
  rcases hv with ⟨e1,g1,g2,g3⟩|⟨g,_⟩
  · -- one entry alone bears the key
    have he:e1=e0:=by
     apply Classical.byContradiction
     intro he;obtain⟨i,hi⟩:=List.getElem?_of_mem g1;obtain⟨j,hj⟩:=List.getElem?_of_mem k1;have hp:=Maps.fit_apart jje F;rw[List.pairwise_map] at hp;have hij:i≠j:=fun e=>he (by rw[e,hj] at hi;injection hi with hi;exact hi.symm)
     obtain⟨y1,hy1⟩:=F.reads e1 g1;obtain⟨y0,hy0⟩:=F.reads e0 k1;have hk1:=WideElems.rd_key hy1;have hk0:=WideElems.rd_key hy0;rw[g2,← k2] at hk1;have hyy:y1.1=y0.1:=by rw[hk1] at hk0;injection hk0
     rcases Nat.lt_or_gt_of_ne hij with h|h
     · have:=List.pairwise_iff_getElem.1 hp i j (List.getElem?_eq_some_iff.1 hi).1 (List.getElem?_eq_some_iff.1 hj).1 h
       rw[(List.getElem?_eq_some_iff.1 hi).2,(List.getElem?_eq_some_iff.1 hj).2,WideElems.rg_of hy1,WideElems.rg_of hy0] at this;exact this hyy
     have:=List.pairwise_iff_getElem.1 hp j i (List.getElem?_eq_some_iff.1 hj).1 (List.getElem?_eq_some_iff.1 hi).1 h;rw[(List.getElem?_eq_some_iff.1 hi).2,(List.getElem?_eq_some_iff.1 hj).2,WideElems.rg_of hy1,WideElems.rg_of hy0] at this;exact this hyy.symm
    rw[g3,he];exact k3.symm
  exact absurd k2 (g e0 k1)
 refine⟨st,_,by rw[hr,hv0];rfl,(hg w _ _ _ hb).1,(hg w _ _ _ hb).2,fun w2 val hw2=>?_⟩;rw[heap_setBlock_same hb] at hw2;obtain⟨es',clock',r1,r2⟩:=hst w2 val hw2;obtain⟨w4,r3,r4,r5⟩:=h1.update jje Tryz.underlying174 hn (val:=val) (d:=.held val) (ps:=[]) hkey rfl;rw[r2] at r3;injection r3 with _ r3
 subst r3
 classical
 refine⟨_,r1,⟨fun k=>if k=key then val else f k,if_pos rfl,fun k hk=>if_neg hk,D.put kl (.held val),?_,fun k l hk=>?_⟩,(hg w2 _ _ _ hw2).1,(hg w2 _ _ _ hw2).2⟩
 · obtain ⟨es3,clock3,q1,q2,q3,q4⟩:=r4
   rw[heap_setBlock_same hb] at q1;injection q1 with q1
   injection q1 with q1 q5
   subst q1;subst q5;exact⟨_,_,heap_setBlock_same hw2 _,q2,q3,q4⟩
 by_cases e:k=key
 · subst e
   rw[hk] at hkey;injection hkey with hkey
   subst hkey;rw[Maps.atKey_put_same h1.isMap (jje.key hk)];show _=DataW.held (if k=k then val else f k);rw[if_pos rfl]
 have hne:l≠kl:=fun e2=>e (jje.inj hk (by rw[e2];exact hkey))
 rw[Maps.atKey_put_other hne];show _=DataW.held (if k=key then val else f k);rw[if_neg e];exact h2 k l hk
end
theorem MapN.look_ok {w:World} {B n:Nat} {f:ByteArray→Option Nat} (h:MapN w B n f) {s:ByteArray} (hs:s.size≤maxLen):(Instr.lookup 116 (.map (some B)) (.string s) true).run Tryz.prog w=.ok (.tuple #[.int .i64 (((f s).getD 0:Nat):Int),.bool (f s).isSome]) w:=by
 obtain⟨D,h1,h2,h3⟩:=h;obtain⟨v,ps,hr,hv⟩:=h1.look_ok jlp Tryz.underlying116 (jsl w) (plainElem_int Tryz.underlying3 (by decide)) (Go.WideMaps.keyOf_string_mk Tryz.underlying9 hs);rw[(h3 s).2] at hv;obtain⟨c,rfl,hc,_⟩:=plainElem_int_inv Tryz.underlying3 hv;simp only[Prod.mk.injEq] at hc;have hc1:=hc.1;injection hc1 with hc1
 injection hc1 with _ hc1
 rw[hr,(h3 s).1,hc1]
end Go.Proofs.YthdojieomhighaaGreatDoor
namespace Go.Proofs.YthdojieomhighaaGreatDoor
open Go.RowKit
/-! ### Keys, and places under them -/
def wk (n:ByteArray) (size:Nat) (o:Option (Nat × ByteArray)):Value:=wkey n size (match o with|none=> -1|some x=>(x.1:Int)) (match o with|none=>jcq|some x=>x.2)
theorem jxi {n n':ByteArray} {s s':Nat} {o o':Option (Nat × ByteArray)} (h:wk n s o=wk n' s' o'):n=n'∧s=s'∧o=o':=by
 unfold wk wkey at h;simp only[Value.agg.injEq,Array.mk.injEq,List.cons.injEq,Value.string.injEq,Value.int.injEq,true_and,and_true] at h;obtain⟨h1,h2,h3,h4⟩:=h;refine⟨h1,by omega,?_⟩
 cases o with
 | none =>
   cases o' with
   | none=>rfl
   | some y=>simp only at h3;omega
 | some x =>
   cases o' with
   | none=>simp only at h3;omega
   | some y =>
     obtain⟨x1,x2⟩:=x;obtain⟨y1,y2⟩:=y;simp only at h3 h4;rw[h4,show x1=y1 by omega]
theorem juj {n:ByteArray} {size:Nat} {o:Option (Nat × ByteArray)} (hn:n.size≤maxLen) (hz:size≤1000000) (ho:∀ x,o=some x→x.1≤1000000∧x.2.size≤maxLen):∃ kl,keyOf Tryz.prog 325 (wk n size o)=some kl:=by
 cases o with
 | none=>exact jui hn (Nat.zero_le _) hz (by simp) (by simp)
 | some x =>
   obtain⟨h1,h2⟩:=ho x rfl;exact jui hn h2 hz (by simp only;omega) (by simp only;omega)
def hit (a:GA) (j:Nat) (n:ByteArray) (s:Nat) (o:Option (Nat × ByteArray)):Bool:=decide (a.n=n∧a.args.length=s) && match o with
 | none=>decide (0<j)
 | some x=>decide (x.1+1<j) && match a.args[x.1]? with
   | none=>false
   | some t=>decide (t.n=x.2)
def jbj (facts:List GA) (a:GA) (j:Nat) (n:ByteArray) (s:Nat) (o:Option (Nat × ByteArray)):List Nat:=jam facts n s o++(if hit a j n s o then [facts.length] else [])
def keyJ (a:GA) (j:Nat):Option (Nat × ByteArray):=match j with
 | 0=>none
 | i+1=>some (i,(a.args.getD i ⟨false,jcq⟩).n)
theorem jss (facts:List GA) (a:GA) (n:ByteArray) (s:Nat) (o:Option (Nat × ByteArray)):jbj facts a 0 n s o=jam facts n s o:=by
 unfold jbj hit;cases o<;>simp
theorem jzn {a:GA} {j:Nat} (hj:j≤a.args.length) (n:ByteArray) (s:Nat) (o:Option (Nat × ByteArray)):hit a (j+1) n s o=(hit a j n s o || decide (n=a.n∧s=a.args.length∧o=keyJ a j))∧((n=a.n∧s=a.args.length∧o=keyJ a j)→hit a j n s o=false):=by
 by_cases hns:a.n=n∧a.args.length=s
 · obtain ⟨rfl,rfl⟩:=hns
   unfold hit
   cases j with
   | zero =>
     cases o with
     | none=>simp[keyJ]
     | some x=>simp[keyJ]
   | succ i =>
     cases o with
     | none=>simp[keyJ]
     | some x =>
       obtain⟨x1,x2⟩:=x;have hg:a.args.getD i ⟨false,jcq⟩=a.args[i]:=by rw[List.getD_eq_getElem?_getD,List.getElem?_eq_getElem (by omega)];rfl
       by_cases hx:x1=i
       · subst hx
         simp only[keyJ,hg,List.getElem?_eq_getElem (show x1<a.args.length by omega)];simp[eq_comm]
       have h1:decide (x1<i+1)=decide (x1<i):=by
         rw[decide_eq_decide];omega
       simp[keyJ,h1,hx]
 have h1:decide (a.n=n∧a.args.length=s)=false:=decide_eq_false hns;have h2:¬ (n=a.n∧s=a.args.length∧o=keyJ a j):=fun h=>hns ⟨h.1.symm,h.2.1.symm⟩
 unfold hit;rw[h1,decide_eq_false h2];exact⟨by simp,fun h=>absurd h h2⟩
theorem jfr {facts:List GA} {a:GA} {j:Nat} (hj:j≤a.args.length) (n:ByteArray) (s:Nat) (o:Option (Nat × ByteArray)) :
  jbj facts a (j+1) n s o=if n=a.n∧s=a.args.length∧o=keyJ a j then jbj facts a j n s o++[facts.length] else jbj facts a j n s o:=by
 obtain⟨h1,h2⟩:=jzn hj n s o;unfold jbj;rw[h1];by_cases h:n=a.n∧s=a.args.length∧o=keyJ a j
 · rw[h2 h,decide_eq_true h,if_pos h];simp
 rw[decide_eq_false h,if_neg h];simp
theorem jjf (p:Nat→Bool) (n:Nat):(List.range (n+1)).filter p=(List.range n).filter p++(if p n then [n] else []):=by
 rw[List.range_succ,List.filter_append];cases h:p n<;>simp[h]
theorem jvr (facts:List GA) (a:GA) (n:ByteArray) (s:Nat) (o:Option (Nat × ByteArray)):jbj facts a (a.args.length+1) n s o=jam (facts++[a]) n s o:=by
 unfold jbj jam;rw[List.length_append,List.length_cons,List.length_nil,jjf]
 have h1:(List.range facts.length).filter (under (facts++[a]) n s o)=(List.range facts.length).filter (under facts n s o):=by
  apply List.filter_congr
  intro i hi;have hi:=List.mem_range.1 hi;unfold under;rw[List.getElem?_append_left hi]
 have h2:under (facts++[a]) n s o facts.length=hit a (a.args.length+1) n s o:=by
  unfold under hit;rw[List.getElem?_append_right (Nat.le_refl _),Nat.sub_self];simp only[List.getElem?_cons_zero]
  cases o with
  | none=>simp
  | some x =>
    obtain⟨i,q⟩:=x;simp only
    cases hx:a.args[i]? with
    | none=>simp
    | some t =>
      have:=(List.getElem?_eq_some_iff.1 hx).1;simp[this]
 rw[h1,h2]
/-! ### Own slices under growth -/
theorem OwnK.grown {α:Type} {k:Kind α} {base:Nat} {e:TypeId} {S:Nat→Prop} {w w':World} {v:Value} {xs:List α} {row:Option Nat} (h:OwnK k base e S w v xs) (hg:w.grownBy w' row) (hne:∀ g,v.ownBlock=some g→row≠some g) (hS:∀ b,S b→row≠some b):OwnK k base e S w' v xs :=
 h.agree (fun b hb hlt=>hg.block b hlt (fun e=>hS b hb e.symm)) (fun g hg'=>hg.block g (h.at_ g hg').2 (fun e=>hne g hg' e.symm)) hg.size
theorem OwnK.fresh {α:Type} {k:Kind α} {base:Nat} {e:TypeId} {S:Nat→Prop} {w:World} {v:Value} {xs:List α} (h:OwnK k base e S w v xs):∀ g,v.ownBlock=some g→g≠w.heap.size:=fun g hg e=>by have:=(h.at_ g hg).2;omega
/-! ### The store -/
structure ja2 (base:Nat) (S T:Nat→Prop) (w:World) (sb mb pb:Nat) (fv rv:Value) (f:Value→Value) (facts:List GA) (rounds:List Nat) (un:ByteArray→Nat→Option (Nat × ByteArray)→List Nat) (nm:Nat) (pm:ByteArray→Option Nat) (np:Nat):Prop where
 blk:Blk w sb 176 #[fv,rv,.map (some mb),.map (some pb)]
 lo:sb<base∧mb<base∧pb<base∧sb≠mb∧sb≠pb∧mb≠pb∧base≤w.heap.size
 fa:OwnK kAtom base 43 S w fv facts
 sub:∀ b,S b→T b
 ro:OwnK kNum base 3 None w rv rounds
 mp:MapV w mb nm f
 gr:∀ n s o,OwnK kNum base 3 None w (f (wk n s o)) (un n s o)
 pl:MapN w pb np pm
 a1:∀ g,fv.ownBlock=some g→rv.ownBlock≠some g∧¬ T g∧∀ n s o,(f (wk n s o)).ownBlock≠some g
 a2:∀ g,rv.ownBlock=some g→¬ T g∧∀ n s o,(f (wk n s o)).ownBlock≠some g
 a3:∀ n s o g,(f (wk n s o)).ownBlock=some g→¬ T g∧∀ n' s' o',wk n' s' o'≠wk n s o→(f (wk n' s' o')).ownBlock≠some g
 tb:∀ b,T b→b<w.heap.size∧b≠sb∧b≠mb∧b≠pb
section
variable {base:Nat} {S T:Nat→Prop} {w w':World} {sb mb pb:Nat} {fv rv:Value} {f:Value→Value} {facts:List GA} {rounds:List Nat} {un:ByteArray→Nat→Option (Nat × ByteArray)→List Nat} {nm:Nat} {pm:ByteArray→Option Nat} {np:Nat}
theorem ja2.ext (h:ja2 base S T w sb mb pb fv rv f facts rounds un nm pm np) (hx:Ext w w'):ja2 base S T w' sb mb pb fv rv f facts rounds un nm pm np :=
 ⟨h.blk.ext hx,⟨h.lo.1,h.lo.2.1,h.lo.2.2.1,h.lo.2.2.2.1,h.lo.2.2.2.2.1,h.lo.2.2.2.2.2.1,Nat.le_trans h.lo.2.2.2.2.2.2 hx.size⟩,h.fa.ext hx,h.sub,h.ro.ext hx,h.mp.ext hx,fun n s o=>(h.gr n s o).ext hx,h.pl.ext (hx.block _ h.pl.lt),h.a1,h.a2,h.a3,fun b hb=>⟨Nat.lt_of_lt_of_le (h.tb b hb).1 hx.size,(h.tb b hb).2⟩⟩
theorem ja2.less {T':Nat→Prop} (h:ja2 base S T w sb mb pb fv rv f facts rounds un nm pm np) (h1:∀ b,T' b→T b) (h2:∀ b,S b→T' b):ja2 base S T' w sb mb pb fv rv f facts rounds un nm pm np :=
 ⟨h.blk,h.lo,h.fa,h2,h.ro,h.mp,h.gr,h.pl,fun g hg=>⟨(h.a1 g hg).1,fun hT=>(h.a1 g hg).2.1 (h1 g hT),(h.a1 g hg).2.2⟩,fun g hg=>⟨fun hT=>(h.a2 g hg).1 (h1 g hT),(h.a2 g hg).2⟩,fun n s o g hg=>⟨fun hT=>(h.a3 n s o g hg).1 (h1 g hT),(h.a3 n s o g hg).2⟩,fun b hb=>h.tb b (h1 b hb)⟩
theorem ja2.more (h:ja2 base S T w sb mb pb fv rv f facts rounds un nm pm np) (hx:Ext w w') {T':Nat→Prop} (hT:∀ b,T' b→w.heap.size≤b∧b<w'.heap.size):ja2 base S (fun b=>T b∨T' b) w' sb mb pb fv rv f facts rounds un nm pm np:=by
 have h1:=h.ext hx;refine⟨h1.blk,h1.lo,h1.fa,fun b hb=>.inl (h1.sub b hb),h1.ro,h1.mp,h1.gr,h1.pl,fun g hg=>⟨(h1.a1 g hg).1,fun ht=>?_,(h1.a1 g hg).2.2⟩,fun g hg=>⟨fun ht=>?_,(h1.a2 g hg).2⟩,fun n s o g hg=>⟨fun ht=>?_,(h1.a3 n s o g hg).2⟩,fun b hb=>?_⟩
 · rcases ht with ht|ht
   · exact (h1.a1 g hg).2.1 ht
   have:=(h.fa.at_ g hg).2;have:=(hT g ht).1;omega
 · rcases ht with ht|ht
   · exact (h1.a2 g hg).1 ht
   have:=(h.ro.at_ g hg).2;have:=(hT g ht).1;omega
 · rcases ht with ht|ht
   · exact (h1.a3 n s o g hg).1 ht
   have:=((h.gr n s o).at_ g hg).2;have:=(hT g ht).1;omega
 rcases hb with hb|hb
 · exact h1.tb b hb
 have k1:=hT b hb;have k2:=h.blk.lt;have k3:=h.mp.lt;have k4:=h.pl.lt;exact⟨k1.2,by omega,by omega,by omega⟩
theorem ja2.putFact (h:ja2 base S T w sb mb pb fv rv f facts rounds un nm pm np) {w1 w2:World} {v':Value} {zs:List GA} (hx:Ext w w1) (ha:Apped kAtom base 43 S w1 fv zs v' w2) :
  ja2 base S T (w2.setCell ⟨sb,0,none⟩ v') sb mb pb v' rv f zs rounds un nm pm np:=by
 have h1:=h.ext hx;obtain⟨l1,l2,l3,l4,l5,l6,l7⟩:=h1.lo;have hown:∀ g,fv.ownBlock=some g→base≤g∧g<w1.heap.size:=h1.fa.at_;have hnb:∀ b,b<base→fv.ownBlock≠some b:=fun b hb e=>by have:=(hown b e).1;omega
 have hv':∀ g,v'.ownBlock=some g→base≤g:=fun g hg=>(ha.own.at_ g hg).1
 have hva:∀ g,v'.ownBlock=some g→(fv.ownBlock=some g∨g=w1.heap.size):=fun g hg=>by
  rcases ha.at_ with e|e
  · exact .inl (e▸hg)
  rw[e] at hg;injection hg with hg;exact .inr hg.symm
 have hsz:=ha.grown.size;refine⟨by simpa using (h1.blk.below ha.below l1).set_ 0 v',⟨l1,l2,l3,l4,l5,l6,by go_size⟩,?_,h1.sub,?_,?_,fun n s o=>?_,?_,fun g hg=>?_,fun g hg=>?_,fun n s o g hg=>?_,fun b hb=>?_⟩
 · exact ha.own.set (p:=⟨sb,0,none⟩) l1 (fun hT=>(h1.tb sb (h1.sub _ hT)).2.1 rfl) v'
 · exact (h1.ro.grown ha.grown (fun g hg e=>(h1.a1 g e).1 hg) (fun _ h=>h.elim)).set (p:=⟨sb,0,none⟩) l1 (fun h=>h) v'
 · exact (h1.mp.kept ha.grown (fun e=>hnb mb l2 e.symm)).set (p:=⟨sb,0,none⟩) (fun e=>l4 e.symm) v'
 · exact ((h1.gr n s o).grown ha.grown (fun g hg e=>(h1.a1 g e).2.2 n s o hg) (fun _ h=>h.elim)).set (p:=⟨sb,0,none⟩) l1 (fun h=>h) v'
 · exact (h1.pl.ext (ha.grown.block pb h1.pl.lt (fun e=>hnb pb l3 e.symm))).setCell (a:=⟨sb,0,none⟩) (fun e=>l5 e.symm) v'
 · rcases hva g hg with e|e
   · exact h1.a1 g e
   subst e;exact⟨fun e2=>(h1.ro.fresh _ e2 rfl),fun hT=>by have:=(h1.tb _ hT).1;omega,fun n s o e2=>(h1.gr n s o).fresh _ e2 rfl⟩
 · exact h1.a2 g hg
 · exact h1.a3 n s o g hg
 have:=h1.tb b hb;exact⟨by go_size,this.2⟩
theorem ja2.putRound (h:ja2 base S T w sb mb pb fv rv f facts rounds un nm pm np) {w1 w2:World} {v':Value} {zs:List Nat} (hx:Ext w w1) (ha:Apped kNum base 3 None w1 rv zs v' w2) :
  ja2 base S T (w2.setCell ⟨sb,1,none⟩ v') sb mb pb fv v' f facts zs un nm pm np:=by
 have h1:=h.ext hx;obtain⟨l1,l2,l3,l4,l5,l6,l7⟩:=h1.lo;have hown:∀ g,rv.ownBlock=some g→base≤g∧g<w1.heap.size:=h1.ro.at_;have hnb:∀ b,b<base→rv.ownBlock≠some b:=fun b hb e=>by have:=(hown b e).1;omega
 have hva:∀ g,v'.ownBlock=some g→(rv.ownBlock=some g∨g=w1.heap.size):=fun g hg=>by
  rcases ha.at_ with e|e
  · exact .inl (e▸hg)
  rw[e] at hg;injection hg with hg;exact .inr hg.symm
 have hsz:=ha.grown.size;refine⟨by simpa using (h1.blk.below ha.below l1).set_ 1 v',⟨l1,l2,l3,l4,l5,l6,by go_size⟩,?_,h1.sub,?_,?_,fun n s o=>?_,?_,fun g hg=>?_,fun g hg=>?_,fun n s o g hg=>?_,fun b hb=>?_⟩
 · exact (h1.fa.grown ha.grown (fun g hg e=>(h1.a1 g hg).1 e) (fun b hT e=>(h1.a2 b e).1 (h1.sub _ hT))).set (p:=⟨sb,1,none⟩) l1 (fun hT=>(h1.tb sb (h1.sub _ hT)).2.1 rfl) v'
 · exact ha.own.set (p:=⟨sb,1,none⟩) l1 (fun h=>h) v'
 · exact (h1.mp.kept ha.grown (fun e=>hnb mb l2 e.symm)).set (p:=⟨sb,1,none⟩) (fun e=>l4 e.symm) v'
 · exact ((h1.gr n s o).grown ha.grown (fun g hg e=>(h1.a2 g e).2 n s o hg) (fun _ h=>h.elim)).set (p:=⟨sb,1,none⟩) l1 (fun h=>h) v'
 · exact (h1.pl.ext (ha.grown.block pb h1.pl.lt (fun e=>hnb pb l3 e.symm))).setCell (a:=⟨sb,1,none⟩) (fun e=>l5 e.symm) v'
 · refine ⟨fun e2=>?_,(h1.a1 g hg).2⟩
   rcases hva g e2 with e|e
   · exact (h1.a1 g hg).1 e
   exact h1.fa.fresh g hg e
 · rcases hva g hg with e|e
   · exact h1.a2 g e
   subst e;exact⟨fun hT=>by have:=(h1.tb _ hT).1;omega,fun n s o e2=>(h1.gr n s o).fresh _ e2 rfl⟩
 · exact h1.a3 n s o g hg
 have:=h1.tb b hb;exact⟨by go_size,this.2⟩
theorem ja2.putPlace (h:ja2 base S T w sb mb pb fv rv f facts rounds un nm pm np) {w1 w2:World} {pm':ByteArray→Option Nat} {np':Nat} (hx:Ext w w1) (hg:w1.grownBy w2 (some pb)) (hp:MapN w2 pb np' pm') :
  ja2 base S T w2 sb mb pb fv rv f facts rounds un nm pm' np':=by
 have h1:=h.ext hx;obtain⟨l1,l2,l3,l4,l5,l6,l7⟩:=h1.lo;have hsz:=hg.size;have off:∀ {v:Value},(∀ g,v.ownBlock=some g→base≤g)→∀ g,v.ownBlock=some g→some pb≠some g:=fun hb g hg e=>by injection e with e;have:=hb g hg;omega
 refine⟨(hg.block sb h1.blk.lt (fun e=>by injection e with e;exact l5 e)).trans h1.blk,⟨l1,l2,l3,l4,l5,l6,by omega⟩,?_,h1.sub,?_,?_,fun n s o=>?_,hp,h1.a1,h1.a2,h1.a3,fun b hb=>⟨Nat.lt_of_lt_of_le (h1.tb b hb).1 hsz,(h1.tb b hb).2⟩⟩
 · exact h1.fa.grown hg (off fun g hg=>(h1.fa.at_ g hg).1) (fun b hT e=>by injection e with e;exact (h1.tb b (h1.sub _ hT)).2.2.2 e.symm)
 · exact h1.ro.grown hg (off fun g hg=>(h1.ro.at_ g hg).1) (fun _ h=>h.elim)
 · exact h1.mp.kept hg (fun e=>by injection e with e;exact l6 e)
 exact (h1.gr n s o).grown hg (off fun g hg=>((h1.gr n s o).at_ g hg).1) (fun _ h=>h.elim)
theorem ja2.group (h:ja2 base S T w sb mb pb fv rv f facts rounds un nm pm np) {w0 w1 w2:World} (hx0:Ext w w0) (hg1:w0.grownBy w1 (some mb)) (hx:Ext w1 w2) (n:ByteArray) (s:Nat) (o:Option (Nat × ByteArray)):OwnK kNum base 3 None w2 (f (wk n s o)) (un n s o):=by
 have h1:=h.ext hx0;exact (((h1.gr n s o).grown hg1 (fun g hg e=>by injection e with e;have:=((h1.gr n s o).at_ g hg).1;have:=h1.lo.2.1;omega) (fun _ h=>h.elim)).ext hx)
theorem ja2.putGroup (h:ja2 base S T w sb mb pb fv rv f facts rounds un nm pm np) {w0 w1 w2 w3 w4:World} {n:ByteArray} {s:Nat} {o:Option (Nat × ByteArray)} {v':Value} {zs:List Nat} {f':Value→Value} {nm':Nat} {un':ByteArray→Nat→Option (Nat × ByteArray)→List Nat}
  (hx0:Ext w w0) (hg1:w0.grownBy w1 (some mb)) (hx:Ext w1 w2) (ha:Apped kNum base 3 None w2 (f (wk n s o)) zs v' w3) (hg3:w3.grownBy w4 (some mb)) (hm:MapV w4 mb nm' f') (hf1:f' (wk n s o)=v') (hf2:∀ k,k≠wk n s o→f' k=f k)
  (hu1:un' n s o=zs) (hu2:∀ n' s' o',¬ (n'=n∧s'=s∧o'=o)→un' n' s' o'=un n' s' o') :
  ja2 base S T w4 sb mb pb fv rv f' facts rounds un' nm' pm np:=by
 have h1:=h.ext hx0;obtain⟨l1,l2,l3,l4,l5,l6,l7⟩:=h1.lo;have s1:=hg1.size;have s2:=hx.size;have s3:=ha.grown.size;have s4:=hg3.size;have off:∀ {v:Value},(∀ g,v.ownBlock=some g→base≤g)→∀ g,v.ownBlock=some g→some mb≠some g:=fun hb g hg e=>by injection e with e;have:=hb g hg;omega
 have hown:∀ g,(f (wk n s o)).ownBlock=some g→base≤g:=fun g hg=>((h1.gr n s o).at_ g hg).1
 have hnb:∀ b,b<base→(f (wk n s o)).ownBlock≠some b:=fun b hb e=>by have:=hown b e;omega
 have hva:∀ g,v'.ownBlock=some g→((f (wk n s o)).ownBlock=some g∨g=w2.heap.size):=fun g hg=>by
  rcases ha.at_ with e|e
  · exact .inl (e▸hg)
  rw[e] at hg;injection hg with hg;exact .inr hg.symm
 have hfk:∀ {n' s' o'},(n'=n∧s'=s∧o'=o)∨f' (wk n' s' o')=f (wk n' s' o'):=fun {n' s' o'}=>by
  by_cases e:wk n' s' o'=wk n s o
  · exact .inl (jxi e)
  exact .inr (hf2 _ e)
 have hlow:∀ b,b<base→b≠mb→b<w0.heap.size→w4.heap[b]? = w0.heap[b]? :=fun b hb hne hlt =>
  (hg3.block b (by omega) (fun e=>hne (by injection e))).trans ((ha.grown.block b (by omega) (fun e=>hnb b hb e.symm)).trans ((hx.block b (by omega)).trans (hg1.block b hlt (fun e=>hne (by injection e)))))
 have hlen:∀ {v:Value} {α:Type} {k:Kind α} {e:TypeId} {S:Nat→Prop} {xs:List α},OwnK k base e S w0 v xs→(∀ b,S b→b<w0.heap.size∧b≠mb∧(f (wk n s o)).ownBlock≠some b)→(∀ g,v.ownBlock=some g→(f (wk n s o)).ownBlock≠some g)→OwnK k base e S w4 v xs:=fun {v α k e S xs} ho hS hne =>
  (((ho.grown hg1 (off fun g hg=>(ho.at_ g hg).1) (fun b hb e=>(hS b hb).2.1 (by injection e with e;exact e.symm))).ext hx).grown ha.grown (fun g hg e=>hne g hg e) (fun b hb e=>(hS b hb).2.2 e)).grown hg3 (off fun g hg=>(ho.at_ g hg).1) (fun b hb e=>(hS b hb).2.1 (by injection e with e;exact e.symm))
 refine⟨(hlow sb l1 l4 h1.blk.lt).trans h1.blk,⟨l1,l2,l3,l4,l5,l6,by omega⟩,?_,h1.sub,?_,hm,fun n' s' o'=>?_,?_,fun g hg=>⟨(h1.a1 g hg).1,(h1.a1 g hg).2.1,fun n' s' o' e=>?_⟩,fun g hg=>⟨(h1.a2 g hg).1,fun n' s' o' e=>?_⟩,fun n' s' o' g hg=>?_,fun b hb=>⟨by have:=(h1.tb b hb).1;omega,(h1.tb b hb).2⟩⟩
 · exact hlen h1.fa (fun b hT=>⟨(h1.tb b (h1.sub _ hT)).1,(h1.tb b (h1.sub _ hT)).2.2.1,fun e=>(h1.a3 n s o b e).1 (h1.sub _ hT)⟩) (fun g hg e=>(h1.a1 g hg).2.2 n s o e)
 · exact hlen h1.ro (fun _ h=>h.elim) (fun g hg e=>(h1.a2 g hg).2 n s o e)
 · rcases hfk (n':=n') (s':=s') (o':=o') with ⟨rfl,rfl,rfl⟩|e
   · rw [hf1,hu1]
     exact ha.own.grown hg3 (off fun g hg=>(ha.own.at_ g hg).1) (fun _ h=>h.elim)
   rw[e];by_cases e2:n'=n∧s'=s∧o'=o
   · obtain ⟨rfl,rfl,rfl⟩:=e2
     rw[← e,hf1,hu1];exact ha.own.grown hg3 (off fun g hg=>(ha.own.at_ g hg).1) (fun _ h=>h.elim)
   rw[hu2 n' s' o' e2];exact hlen (h1.gr n' s' o') (fun _ h=>h.elim) (fun g hg e3=>(h1.a3 n s o g e3).2 n' s' o' (fun e4=>e2 (jxi e4)) hg)
 · exact h1.pl.ext (hlow pb l3 (fun e=>l6 e.symm) h1.pl.lt)
 · rcases hfk (n':=n') (s':=s') (o':=o') with ⟨rfl,rfl,rfl⟩|e2
   · rw [hf1] at e
     rcases hva g e with e3|e3
     · exact (h1.a1 g hg).2.2 _ _ _ e3
     have:=(h1.fa.at_ g hg).2;omega
   rw[e2] at e;exact (h1.a1 g hg).2.2 _ _ _ e
 · rcases hfk (n':=n') (s':=s') (o':=o') with ⟨rfl,rfl,rfl⟩|e2
   · rw [hf1] at e
     rcases hva g e with e3|e3
     · exact (h1.a2 g hg).2 _ _ _ e3
     have:=(h1.ro.at_ g hg).2;omega
   rw[e2] at e;exact (h1.a2 g hg).2 _ _ _ e
 by_cases e0:wk n' s' o'=wk n s o
 · obtain ⟨rfl,rfl,rfl⟩:=jxi e0
   rw[hf1] at hg;refine⟨fun hT=>?_,fun n2 s2 o2 hne e2=>?_⟩
   · rcases hva g hg with e3|e3
     · exact (h1.a3 _ _ _ g e3).1 hT
     have:=(h1.tb g hT).1;omega
   rw[hf2 _ hne] at e2;rcases hva g hg with e3|e3
   · exact (h1.a3 _ _ _ g e3).2 _ _ _ hne e2
   have:=((h1.gr n2 s2 o2).at_ g e2).2;omega
 rw[hf2 _ e0] at hg;refine⟨(h1.a3 _ _ _ g hg).1,fun n2 s2 o2 hne e2=>?_⟩;by_cases e1:wk n2 s2 o2=wk n s o
 · rw [e1,hf1] at e2
   rcases hva g e2 with e3|e3
   · exact (h1.a3 _ _ _ g hg).2 n s o (fun e4=>e0 e4.symm) e3
   have:=((h1.gr n' s' o').at_ g hg).2;omega
 rw[hf2 _ e1] at e2;exact (h1.a3 _ _ _ g hg).2 n2 s2 o2 hne e2
end
/-! ### The maps' operations in a drawn region -/
section
variable {w:World} {ops:Array Oper} {o:Oper} {a:Act} {K:Act→World→Prop} {Q:Exit→Act→World→Prop} {E:Prop}
theorem jjg {P:Program} (hgd:o.guard=none) (h:Oper.wp P o a w K Q):if Region.wanted o (yielded ops a.tmps)=true then Oper.wp P o a w K Q else E:=by
 have hw:Region.wanted o (yielded ops a.tmps)=true:=by simp[Region.wanted,hgd]
 rw[if_pos hw];exact h
theorem jov (hgd:o.guard=none) (m x v:Operand) (hop:o.op=Op.mapUpdate 116 m x v) (B n:Nat) (f:ByteArray→Option Nat) (hm:a.eval m=.map (some B)) (hown:MapN w B n f) (hn:n≤1000000) (s:ByteArray) (hx:a.eval x=.string s) (hs:s.size≤maxLen) (k:Nat) (hv:a.eval v=.int .i64 ((k:Nat):Int)) (hk:k≤1000000)
  (h:∀ w',MapN w' B (if (f s).isSome then n else n+1) (fun x=>if x=s then some k else f x)→w.grownBy w' (some B)→K (a.put o.dst undef) w'):if Region.wanted o (yielded ops a.tmps)=true then Oper.wp Tryz.prog o a w K Q else E:=by
 refine jjg hgd ?_;obtain⟨D,h1,h2,h3⟩:=hown;obtain⟨w',hr,h4,h5⟩:=h1.update jlp Tryz.underlying116 (by unfold maxLen;omega) (val:=.int .i64 ((k:Nat):Int)) (d:=.lit (.int .i64 ((k:Nat):Int))) (ps:=[]) (Go.WideMaps.keyOf_string_mk Tryz.underlying9 hs) (plainElem_int Tryz.underlying3 (WalkArith.wf_i64 (by omega)));unfold Oper.wp execOp;simp only[hop,hm,hx,hv,Sem.run_bind,Sem.run_pure,Result.andThen_ok,hr];exact h w' (MapN.put h1 h2 h3 h4) h5
theorem jnm (hgd:o.guard=none) (m x:Operand) (hop:o.op=Op.mapEntry 174 m x) {B n:Nat} {f:Value→Value} (hm:a.eval m=.map (some B)) (hown:MapV w B n f) (hn:n<maxLen) {key:Value} {kl:Lit} (hx:a.eval x=key) (hkey:keyOf Tryz.prog 325 key=some kl)
  (h : ∀ (st:Nat) (w1:World),w.grownBy w1 (some B)→w1.heap.size=w.heap.size→(∀ (w2:World) (val:Value),w2.heap[B]? = w1.heap[B]? →∃ w3,(Instr.entryStore 174 (.map (some B)) (.int .i64 (st:Int)) val).run Tryz.prog w2=.ok () w3∧(∃ f',f' key=val∧(∀ k,k≠key→f' k=f k)∧MapV w3 B (n+1) f')∧w2.grownBy w3 (some B)∧w3.heap.size=w2.heap.size) →
   K (a.put o.dst (.tuple #[f key,.int .i64 (st:Int)])) w1):if Region.wanted o (yielded ops a.tmps)=true then Oper.wp Tryz.prog o a w K Q else E:=by
 refine jjg hgd ?_;obtain⟨st,w1,hr,h1,h2,h3⟩:=hown.entry hn hkey;unfold Oper.wp execOp;simp only[hop,hm,hx,Sem.run_bind,Sem.run_pure,Result.andThen_ok,hr];exact h st w1 h1 h2 h3
theorem jl0 (hgd:o.guard=none) (m s v:Operand) (hop:o.op=Op.entryStore 174 m s v) {B:Nat} {st:Nat} {val:Value} (hm:a.eval m=.map (some B)) (hs:a.eval s=.int .i64 (st:Int)) (hv:a.eval v=val) {w3:World} (hr:(Instr.entryStore 174 (.map (some B)) (.int .i64 (st:Int)) val).run Tryz.prog w=.ok () w3)
  (h:K (a.put o.dst undef) w3):if Region.wanted o (yielded ops a.tmps)=true then Oper.wp Tryz.prog o a w K Q else E:=by
 refine jjg hgd ?_;unfold Oper.wp execOp;simp only[hop,hm,hs,hv,Sem.run_bind,Sem.run_pure,Result.andThen_ok,hr];exact h
end
end Go.Proofs.YthdojieomhighaaGreatDoor
