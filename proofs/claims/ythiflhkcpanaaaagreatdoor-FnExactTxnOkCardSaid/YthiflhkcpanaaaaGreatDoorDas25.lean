/- Own texts, joined. -/
import Derived.Test.YthiflhkcpanaaaaGreatDoorChecked
import Derived.LaidEql
import Derived.Stop.Asserts
import Derived.RowKitTokens
import Derived.Test.YthiflhkcpanaaaaGreatDoorDas24
import Derived.Test.YthiflhkcpanaaaaGreatDoorDas21
set_option linter.unusedSimpArgs false
set_option linter.unusedVariables false
set_option maxHeartbeats 4000000
set_option maxRecDepth 100000
namespace Go.Proofs.YthiflhkcpanaaaaGreatDoor
open Go.RowKit Go.Extern.Stop Go.Stop Go.Extern
theorem j2u (t:Value) (w:World) :
  Calls Tryz.prog 324 #[.nilIface,t] w fun e w'=>e=.returned (.bool false)/\w'=w:=by
 go_in;go_wp2;go_ret;exact⟨rfl,rfl⟩
/-! ### What the model's entries for internal/reflectlite say at this program's types (lines of the kit's worked example toyas, turned to this claim) -/
theorem jsl (t:Addr) (w:World):(ReflectliteValue.unpack (.iface 359 (.pointer (some t)))).run Tryz.prog w
 = .ok (.agg #[.pointer (some ⟨2,359,none⟩),.pointer (some ⟨w.heap.size,0,none⟩),.int .u64 150]) (w.alloc (.cells #[.pointer (some t)] 359)):=by kernel_rfl
theorem jz0 (a:Addr) (w:World):(ReflectliteValue.methodAny (ReflectliteValue.valueError "reflectlite.Value.Type" 0) (fun t _ _ _=>ReflectliteType.toType t) #[.agg #[.pointer (some ⟨2,359,none⟩),.pointer (some a),.int .u64 150]]).run Tryz.prog w
 = .ok (.iface 385 (.agg #[.pointer (some ⟨2,359,none⟩)])) w:=by kernel_rfl
theorem jp5 (h:Value) (w:World):(Go.method 416 385 (.agg #[h]) "Kind").run Tryz.prog w=.ok (364,h) w:=by kernel_rfl
theorem jz1 (w:World):((ReflectliteType.abiMethod fun t=>(fun a:Nat=>Value.int IntKind.u8 (a:Int)) <$> Rtype.kind t) #[.pointer (some ⟨2,359,none⟩)]).run Tryz.prog w=.ok (.int .u8 22) w:=by kernel_rfl
theorem jz2 (w:World):((ReflectliteType.abiMethod fun t=>(fun a:Nat=>Value.int IntKind.u8 (a:Int)) <$> Rtype.kind t) #[.pointer (some ⟨2,271,none⟩)]).run Tryz.prog w=.ok (.int .u8 22) w:=by kernel_rfl
/-! ### The entries that read or write memory -/
theorem rlm (z:Sem Value) (f:TypeId->Addr->Nat->Nat->Sem Value) (v:Value) :
 ReflectliteValue.method z f #[v]=(do match <- ReflectliteValue.parts v with|none=>z|some (t,a,fl)=>f t a fl (fl % 32)):=rfl
theorem jou (a:Addr) (w:World):(ReflectliteValue.parts (.agg #[.pointer (some ⟨2,359,none⟩),.pointer (some a),.int .u64 150])).run Tryz.prog w=.ok (some (359,a,150)) w:=by kernel_rfl
theorem jxl (a p:Addr) (W:World) (ha:W.cell? a=some (.pointer (some p))) :
  (ReflectliteValue.method (ReflectliteValue.valueError "reflectlite.Value.IsNil" 0) ReflectliteValue.isNil #[.agg #[.pointer (some ⟨2,359,none⟩),.pointer (some a),.int .u64 150]]).run Tryz.prog W=.ok (.bool false) W:=by
 rw[rlm];simp only[Sem.run_bind,jou,Result.andThen];simp[ReflectliteValue.isNil,loadVar,isAgg,underlying,Tryz.underlying359,ha,Result.andThen]
theorem jp6 (h:Value) (w:World):(Go.method 416 385 (.agg #[h]) "Elem").run Tryz.prog w=.ok (377,.agg #[h]) w:=by kernel_rfl
theorem jhz (h:Value) (w:World):(Go.method 416 385 (.agg #[h]) "Implements").run Tryz.prog w=.ok (378,.agg #[h]) w:=by kernel_rfl
theorem jgu (h:Value) (w:World):(Go.method 416 385 (.agg #[h]) "AssignableTo").run Tryz.prog w=.ok (375,.agg #[h]) w:=by kernel_rfl
theorem jz3 (w:World):(ReflectliteType.method ReflectliteType.elem #[.agg #[.pointer (some ⟨2,359,none⟩)]]).run Tryz.prog w=.ok (.iface 385 (.agg #[.pointer (some ⟨2,271,none⟩)])) w:=by kernel_rfl
theorem jmy (w:World):(ReflectliteType.relation "Implements" ReflectliteType.implements_ #[.agg #[.pointer (some ⟨2,271,none⟩)],.iface 385 (.agg #[.pointer (some ⟨2,220,none⟩)])]).run Tryz.prog w=.ok (.bool true) w:=by kernel_rfl
theorem jul (v:Value) (w:World):(ReflectliteType.typeOf #[.iface 271 v]).run Tryz.prog w=.ok (.iface 385 (.agg #[.pointer (some ⟨2,271,none⟩)])) w:=by kernel_rfl
theorem jmz (w:World):(ReflectliteType.relation "AssignableTo" ReflectliteType.assignableTo #[.agg #[.pointer (some ⟨2,271,none⟩)],.iface 385 (.agg #[.pointer (some ⟨2,271,none⟩)])]).run Tryz.prog w=.ok (.bool true) w:=by kernel_rfl
theorem jsm (e:Addr) (w:World):(ReflectliteValue.unpack (.iface 271 (.pointer (some e)))).run Tryz.prog w
 = .ok (.agg #[.pointer (some ⟨2,271,none⟩),.pointer (some ⟨w.heap.size,0,none⟩),.int .u64 150]) (w.alloc (.cells #[.pointer (some e)] 271)):=by kernel_rfl
theorem jum (w:World):(Rtype.elem? 359).run Tryz.prog w=.ok (some 271) w:=by kernel_rfl
theorem j2a (p:Addr) (w:World):(ReflectliteValue.mk 271 p ReflectliteValue.flagAddr).run Tryz.prog w=.ok (.agg #[.pointer (some ⟨2,271,none⟩),.pointer (some p),.int .u64 406]) w:=by kernel_rfl
theorem jxm (a p:Addr) (W:World) (ha:W.cell? a=some (.pointer (some p))) :
  (ReflectliteValue.method (ReflectliteValue.valueError "reflectlite.Value.Elem" 0) ReflectliteValue.elem #[.agg #[.pointer (some ⟨2,359,none⟩),.pointer (some a),.int .u64 150]]).run Tryz.prog W
   = .ok (.agg #[.pointer (some ⟨2,271,none⟩),.pointer (some p),.int .u64 406]) W:=by
 rw[rlm];simp only[Sem.run_bind,jou,Result.andThen];simp[ReflectliteValue.elem,loadVar,isAgg,underlying,Tryz.underlying359,ha,Result.andThen,jum,j2a]
theorem rls (v x:Value):ReflectliteValue.set #[v,x]=(do
 let (some (dst,a,fl),some (src,b,_)):=(<- ReflectliteValue.parts v,<- ReflectliteValue.parts x)
  | unsupported (.noEntry "extern/(internal/reflectlite.Value).Set.zeroValue")
 if fl / ReflectliteValue.flagAddr % 2 == 0 then unsupported (.noEntry "extern/(internal/reflectlite.Value).Set.unaddressable")
 let val <- loadVar src b
 if <- Rtype.directlyAssignable dst src then storeVar dst a val
 else if <- Rtype.implements dst src then
  if (<- Rtype.kind src) == 20 then
   match val with
   | .nilIface=>unsupported (.noEntry "extern/reflectlite: a nil value of one interface type handed on as a value of another")
   | _=>storeVar dst a val
  else storeVar dst a (.iface src val)
 else panicString ("reflectlite.Set: value of type " ++ (<- Rtype.spelt src)++ " is not assignable to type " ++ (<- Rtype.spelt dst))
 pure (.tuple #[])):=rfl
theorem jun (a:Addr) (w:World):(ReflectliteValue.parts (.agg #[.pointer (some ⟨2,271,none⟩),.pointer (some a),.int .u64 406])).run Tryz.prog w=.ok (some (271,a,406)) w:=by kernel_rfl
theorem jxn (a:Addr) (w:World):(ReflectliteValue.parts (.agg #[.pointer (some ⟨2,271,none⟩),.pointer (some a),.int .u64 150])).run Tryz.prog w=.ok (some (271,a,150)) w:=by kernel_rfl
theorem juo (w:World):(Rtype.directlyAssignable 271 271).run Tryz.prog w=.ok true w:=by kernel_rfl
theorem j1i (ta b e:Addr) (old:Value) (W:World) (hb:W.cell? b=some (.pointer (some e))) (ht:W.cell? ta=some old) (hf:W.frozen? ta=false) :
  (ReflectliteValue.set #[.agg #[.pointer (some ⟨2,271,none⟩),.pointer (some ta),.int .u64 406],.agg #[.pointer (some ⟨2,271,none⟩),.pointer (some b),.int .u64 150]]).run Tryz.prog W
   = .ok (.tuple #[]) (W.setCell ta (.pointer (some e))):=by
 rw[rls];simp only[Sem.run_bind,jun,jxn,Result.andThen];simp[ReflectliteValue.flagAddr,loadVar,isAgg,underlying,Tryz.underlying271,hb,Result.andThen,juo,storeVar,Value.cells,storeCells,Addr.add];rw[run_store Tryz.prog W ta _ _ (by rfl)];simp[ht,hf]
theorem j2v (e t:Addr) (old:Value) (w:World) (hg:w.cell? ⟨1,0,none⟩=some (.iface 385 (.agg #[.pointer (some ⟨2,220,none⟩)]))) (ht0:w.cell? t=some old) (hf0:w.frozen? t=false) :
  Calls Tryz.prog 324 #[.iface 271 (.pointer (some e)),.iface 359 (.pointer (some t))] w fun ev w'=>ev=.returned (.bool true)/\w'=((((w.alloc (.cells #[.pointer (some t)] 359)).alloc (.cells #[.pointer (some ⟨2,359,none⟩),.pointer (some ⟨w.heap.size,0,none⟩),.int .u64 150] 372)).alloc (.cells #[.pointer (some ⟨2,359,none⟩),.pointer (some ⟨w.heap.size,0,none⟩),.int .u64 150] 372)).alloc (.cells #[.pointer (some e)] 271)).setCell t (.pointer (some e)):=by
 have h6:= @run_callFunc_extern Tryz.prog 338 _ (fun args=>ReflectliteValue.unpack (args.getD 0 (.tuple #[]))) Tryz.func338 (by kernel_rfl) (by kernel_rfl) (by kernel_rfl) (by kernel_rfl)
 have h7:= @run_callFunc_extern Tryz.prog 339 _ (ReflectliteValue.methodAny (ReflectliteValue.valueError "reflectlite.Value.Type" 0) (fun t _ _ _=>ReflectliteType.toType t)) Tryz.func339 (by kernel_rfl) (by kernel_rfl) (by kernel_rfl) (by kernel_rfl)
 have h8:= @run_callFunc_extern Tryz.prog 340 _ (ReflectliteValue.method (ReflectliteValue.valueError "reflectlite.Value.IsNil" 0) ReflectliteValue.isNil) Tryz.func340 (by kernel_rfl) (by kernel_rfl) (by kernel_rfl) (by kernel_rfl)
 have h27:= @run_callFunc_extern Tryz.prog 364 _ (ReflectliteType.abiMethod fun t=>do pure (.int .u8 (<- Rtype.kind t))) Tryz.func364 (by kernel_rfl) (by kernel_rfl) (by kernel_rfl) (by kernel_rfl);have h37:= @run_callFunc_extern Tryz.prog 377 _ (ReflectliteType.method ReflectliteType.elem) Tryz.func377 (by kernel_rfl) (by kernel_rfl) (by kernel_rfl) (by kernel_rfl)
 have h38:= @run_callFunc_extern Tryz.prog 378 _ (ReflectliteType.relation "Implements" ReflectliteType.implements_) Tryz.func378 (by kernel_rfl) (by kernel_rfl) (by kernel_rfl) (by kernel_rfl)
 have h10:= @run_callFunc_extern Tryz.prog 346 _ ReflectliteType.typeOf Tryz.func346 (by kernel_rfl) (by kernel_rfl) (by kernel_rfl) (by kernel_rfl)
 have h35:= @run_callFunc_extern Tryz.prog 375 _ (ReflectliteType.relation "AssignableTo" ReflectliteType.assignableTo) Tryz.func375 (by kernel_rfl) (by kernel_rfl) (by kernel_rfl) (by kernel_rfl)
 have h11:= @run_callFunc_extern Tryz.prog 347 _ (ReflectliteValue.method (ReflectliteValue.valueError "reflectlite.Value.Elem" 0) ReflectliteValue.elem) Tryz.func347 (by kernel_rfl) (by kernel_rfl) (by kernel_rfl) (by kernel_rfl)
 have h12:= @run_callFunc_extern Tryz.prog 348 _ ReflectliteValue.set Tryz.func348 (by kernel_rfl) (by kernel_rfl) (by kernel_rfl) (by kernel_rfl);have tO:=jul;have mA:=jgu;have a25:=jmz;have v25:=jsm;have f6:=jsl;have f7:=jz0;have mK:=jp5;have mE:=jp6;have mI:=jhz;have k27:=jz1;have k25:=jz2;have e27:=jz3;have i25:=jmy;have n8:=jxl ⟨w.heap.size,0,none⟩ t ((w.alloc (.cells #[.pointer (some t)] 359)).alloc (.cells #[.pointer (some ⟨2,359,none⟩),.pointer (some ⟨w.heap.size,0,none⟩),.int .u64 150] 372)) (by simp)
 have hlt:1<w.heap.size:=by
  rcases Nat.lt_or_ge 1 w.heap.size with h|h
  . exact h
  simp[World.cell?,Array.getElem?_eq_none h] at hg
 have hg2:((w.alloc (.cells #[.pointer (some t)] 359)).alloc (.cells #[.pointer (some ⟨2,359,none⟩),.pointer (some ⟨w.heap.size,0,none⟩),.int .u64 150] 372)).cell? ⟨1,0,none⟩=some (.iface 385 (.agg #[.pointer (some ⟨2,220,none⟩)])):=by
  rw[World.cell?_alloc_lt _ _ ⟨1,0,none⟩ (by first|(simp;done)|(simp;omega)),World.cell?_alloc_lt _ _ ⟨1,0,none⟩ hlt];exact hg
 have htl:t.block<w.heap.size:=by
  rcases Nat.lt_or_ge t.block w.heap.size with h|h
  . exact h
  simp[World.cell?,Array.getElem?_eq_none h] at ht0
 have el:=jxm ⟨w.heap.size,0,none⟩ t (((w.alloc (.cells #[.pointer (some t)] 359)).alloc (.cells #[.pointer (some ⟨2,359,none⟩),.pointer (some ⟨w.heap.size,0,none⟩),.int .u64 150] 372)).alloc (.cells #[.pointer (some ⟨2,359,none⟩),.pointer (some ⟨w.heap.size,0,none⟩),.int .u64 150] 372)) (by rw[World.cell?_alloc_lt _ _ ⟨w.heap.size,0,none⟩ (by simp;omega)];simp)
 have st:=j1i t ⟨w.heap.size+1+1+1,0,none⟩ e old ((((w.alloc (.cells #[.pointer (some t)] 359)).alloc (.cells #[.pointer (some ⟨2,359,none⟩),.pointer (some ⟨w.heap.size,0,none⟩),.int .u64 150] 372)).alloc (.cells #[.pointer (some ⟨2,359,none⟩),.pointer (some ⟨w.heap.size,0,none⟩),.int .u64 150] 372)).alloc (.cells #[.pointer (some e)] 271))
  (by rw[World.cell?_alloc_at _ _ _ _ (by simp)];rfl)
  (by rw[World.cell?_alloc_lt _ _ t (by simp;omega),World.cell?_alloc_lt _ _ t (by simp;omega),World.cell?_alloc_lt _ _ t (by simp;omega),World.cell?_alloc_lt _ _ t htl];exact ht0)
  (by rw[World.frozen?_alloc_old _ _ t (by simp;omega),World.frozen?_alloc_old _ _ t (by simp;omega),World.frozen?_alloc_old _ _ t (by simp;omega),World.frozen?_alloc_old _ _ t (Nat.ne_of_lt htl)];exact hf0)
 go_in;go_wp2;refine wp_loop_rounds 1 ?_;rw[rounds_succ];go_wp2;go_ret;exact⟨rfl,rfl⟩
end Go.Proofs.YthiflhkcpanaaaaGreatDoor
namespace Go.Proofs.YthiflhkcpanaaaaGreatDoor
open Go.RowKit
def ErrIs (w:World):Prop:=w.cell? ⟨1,0,none⟩=some (.iface 385 (.agg #[.pointer (some ⟨2,220,none⟩)]))
theorem ErrIs.ext {w w':World} (h:ErrIs w) (hx:Ext w w'):ErrIs w':=(hx.cells.1 _ _ (jcc h)).trans h
theorem jxo (e:Addr) (g:Nat) (old:Value) (w:World) (he:ErrIs w) (hb:Blk w g 271 #[old]) :
  Calls Tryz.prog 324 #[.iface 271 (.pointer (some e)),.iface 359 (.pointer (some ⟨g,0,none⟩))] w fun ev w'=>ev=.returned (.bool true)/\∀ w0,Ext w0 w->w0.heap.size<=g->Ext w0 w':=by
 refine (j2v e ⟨g,0,none⟩ old w he (by rw[hb.cell];rfl) (hb.frozen 0)).mono fun ev w' h=>⟨h.1,fun w0 hx hg=>?_⟩
 rw[h.2];exact Ext.setNew ((((hx.alloc _).alloc _).alloc _).alloc _) hg _
theorem jm0 {r:GR} (h:jba r=true):∀ a∈jbd r,a.args.length<=3:=by
 rw[jfg,Bool.and_eq_true,Bool.and_eq_true] at h
 have key:∀ a:GA,jat a=true->a.args.length<=3:=fun a ha=>by
  unfold jat at ha;simp only[Bool.and_eq_true,decide_eq_true_eq] at ha;exact ha.1.2
 intro a ha;rcases List.mem_cons.1 ha with rfl|ha
 . exact key _ h.2.1
 obtain⟨p,hp,rfl⟩:=List.mem_map.1 ha;exact key _ (List.all_eq_true.1 h.1 p hp)
theorem jp7 (v:Value) (l:List GR) (w:World) {S:Nat->Prop} (hv:jam S w v l) (he:ErrIs w) :
  Calls Tryz.prog 303 #[v] w fun e w'=>e=.returned (.int .i64 ((jag l:Nat):Int))/\Ext w w':=by
 obtain⟨A,c,rfl,hc1,hc2⟩:=jaa.form hv;have HV:=zh hv;have HE:=zh he;clear hv he
 go_in;go_wp2;go_loopw [12] (fun i wr=>∃ k:Nat,k<=l.length/\i=.int .i64 k/\J1 ((l.take k).all jba=true)/\Ext w wr) (fun i _=>l.length-(intOf i).toNat)
 case atStart=>exact⟨0,Nat.zero_le _,rfl,rfl,Ext.refl _⟩
 case round =>
  obtain⟨k,hk,rfl,hp,hx⟩:=hrel;have hk0:(0:Int)<=(k:Int):=by omega
  by_cases hlt:k<l.length
  . obtain ⟨b,off,x,v1,u1,rfl,hb,hxk,hxs,ht,hu,p0,p1,p2⟩:=jam.at_ (HV.o.ext hx) hlt
    obtain⟨C,e,rfl,he1,he2⟩:=jaa.form ht;obtain⟨D,f,rfl,hf1,hf2⟩:=jaa.form hu;have hk1:(k:Int)<(l.length:Int):=by omega
    have HK:=zh hxk;have hx0:=(Ext.refl wr).alloc (.cells #[.string x.head.n,.slice C x.head.args.length e,.slice D x.body.length f] 178);have hwb:=jai (jxk _ x.body _ (hu.ext hx0));have hwa:=fun (W:World) (hW:Ext wr W)=>jai (ji8 x.head _ W hxs (ht.ext hW))
    have HRB:=zh (Blk.new wr 178 #[.string x.head.n,.slice C x.head.args.length e,.slice D x.body.length f]);have HX0:=zh hx0;have hro:=jp4 x;clear hxk ht hu hx0;cases hbo:(decide (x.body.length<=4) && x.body.all jcu)
    . have HF:=zh (show jag l=1 from by unfold jag;rw[if_pos (jbc jba _ k x HK.o (by rw[hro,hbo];rfl))])
      have HW:=zh (hwb.2 hbo);clear hwb hwa hro hbo;go_wp2_with (go_at_call 166;refine HW.o.mono ?_;rintro e w1 ⟨rfl,hx1⟩)
      go_ret;exact⟨by rw[HF.o];rfl,(hx.alloc _).t hx1⟩
    have HW:=zh (hwb.1 hbo);cases hao:jat x.head
    . have HF:=zh (show jag l=1 from by unfold jag;rw[if_pos (jbc jba _ k x HK.o (by rw[hro,hbo,hao];rfl))])
      have HWA:=zh (fun (W:World) (hW:Ext wr W)=>(hwa W hW).2 hao);clear hwb hwa hro hbo hao
      go_wp2_with (first
       | (go_at_call 166;refine HW.o.mono ?_;rintro e w1 ⟨rfl,hx1⟩;have hrb:=HRB.o.ext hx1;have q0:=hrb.cell 0;have q1:=hrb.cell 1;have hl1:=hrb.lt;have HX1:=zh hx1;clear hx1 hrb)
       | (go_at_call 199;refine (HWA.o _ (HX0.o.t HX1.o)).mono ?_;rintro e w2 ⟨rfl,hx2⟩))
      go_ret;exact⟨by rw[HF.o];rfl,((hx.alloc _).t HX1.o).t hx2⟩
    have HP:=zh (show (l.take (k+1)).all jba=true from by rw[jbo jba _ k x HK.o,hp.o,hro,hbo,hao];rfl);have HWA:=zh (fun (W:World) (hW:Ext wr W)=>(hwa W hW).1 hao);clear hwb hwa hro hbo hao
    go_wp2_with (first
     | (go_at_call 166;refine HW.o.mono ?_;rintro e w1 ⟨rfl,hx1⟩;have hrb:=HRB.o.ext hx1;have q0:=hrb.cell 0;have q1:=hrb.cell 1;have hl1:=hrb.lt;have HX1:=zh hx1;clear hx1 hrb)
     | (go_at_call 199;refine (HWA.o _ (HX0.o.t HX1.o)).mono ?_;rintro e w2 ⟨rfl,hx2⟩;have HX2:=zh (((hx.alloc _).t HX1.o).t hx2);clear hx2))
    go_roundw
    case rel=>exact⟨k+1,by omega,by go_num,HP,HX2.o⟩
    case measure=>simp[intOf];omega
  have hall:=jbl jba _ k hlt hp.o;have hno:¬ l.all jba=false:=by rw[hall];simp
  have hke:k=l.length:=by omega
  subst hke;by_cases h8:8<l.length
  . have HF:=zh (show jag l=2 from by unfold jag;rw[if_neg hno,if_pos h8])
    clear hno hall hp;go_wp2;go_ret;exact⟨by rw[HF.o];rfl,hx⟩
  have hl8:l.length<=8:=by omega
  have hbody:∀ r∈l,r.body.length<=4:=fun r hr=>jim (List.all_eq_true.1 hall r hr)
  have hargsl:∀ r∈l,∀ a∈jbd r,a.args.length<=1000:=fun r hr a ha=>Nat.le_trans (jm0 (List.all_eq_true.1 hall r hr) a ha) (by omega)
  have HA:=zh (joq _ l wr (HV.o.ext hx) hl8 hbody hargsl);clear hbody hall hp hargsl;cases hargs:argsB (jaq l)
  . have HF:=zh (show jag l=3 from by unfold jag;rw[if_neg hno,if_neg h8,if_pos hargs])
    rw[hargs] at HA;clear hargs hno;go_wp2_with (go_at_call 150;refine HA.o.mono ?_;rintro e w1 ⟨⟨B,n,rfl,_,_,_⟩,hx1⟩)
    go_ret;exact⟨by rw[HF.o];rfl,hx.t hx1⟩
  have HN3:=zh (show ¬ argsB (jaq l)=false from by rw[hargs];simp);have HN1:=zh hno;rw[hargs] at HA;have HLO:=zh (fun (W:World) (hW:Ext w W)=>jai (jj5 _ l W (HV.o.ext hW)));clear hargs hno;cases ht:l.all jca
  . have HF:=zh (show jag l=4 from by unfold jag;rw[if_neg HN1.o,if_neg h8,if_neg HN3.o,if_pos ht])
    have HL:=zh (fun (W:World) (hW:Ext w W)=>(HLO.o W hW).1 (by rw[ht];rfl));clear ht
    go_wp2_with (first
     | (go_at_call 150;refine HA.o.mono ?_;rintro e w1 ⟨⟨B,n,rfl,_,_,_⟩,hx1⟩;have HX1:=zh (hx.t hx1);clear hx1)
     | (go_at_call 322;refine (HL.o _ HX1.o).mono ?_;rintro e w2 ⟨rfl,hx2⟩;have HX2:=zh (HX1.o.t hx2);clear hx2))
    go_ret;exact⟨by rw[HF.o];rfl,HX2.o⟩
  have HN4:=zh (show ¬ l.all jca=false from by rw[ht];simp);have HL:=zh (fun (W:World) (hW:Ext w W)=>(HLO.o W hW).2 (by rw[ht];rfl));have HS:=zh (fun (W:World) (hW:Ext w W)=>jkv _ l W (HV.o.ext hW) hl8);clear ht
  go_wp2_with (first
   | (go_at_call 150;refine HA.o.mono ?_;rintro e w1 ⟨⟨B,n,rfl,_,_,_⟩,hx1⟩;have HX1:=zh (hx.t hx1);clear hx1)
   | (go_at_call 322;refine (HL.o _ HX1.o).mono ?_;rintro e w2 ⟨rfl,hx2⟩;have HX2:=zh (HX1.o.t hx2);clear hx2)
   | (go_at_call 191;refine (HS.o _ HX2.o).mono ?_;rintro e w3 ⟨hs3,hx3⟩
      have HX3:=zh (HX2.o.t hx3);clear hx3;rcases hs3 with ⟨o,hlow,hmet,g,rfl,hg,hb3⟩|⟨hcy,g,rfl⟩))
  . have HF:=zh (show jag l=0 from by unfold jag;rw[if_neg HN1.o,if_neg h8,if_neg HN3.o,if_neg HN4.o,if_neg (by rw[jq7 hmet];simp)])
    clear hlow hmet hb3;go_wp2_with (go_at_call 324;refine (j2u _ _).mono ?_;rintro e w4 ⟨rfl,rfl⟩)
    go_ret;exact⟨by rw[HF.o];rfl,HX3.o.alloc _⟩
  have HF:=zh (show jag l=5 from by unfold jag;rw[if_neg HN1.o,if_neg h8,if_neg HN3.o,if_neg HN4.o,if_pos hcy]);have hsz:=HX3.o.size;clear hcy;go_wp2_with (go_at_call 324;refine (jxo _ _ _ _ (HE.o.ext (HX3.o.alloc _)) (Blk.new _ _ _)).mono ?_;rintro e w4 ⟨rfl,hx4⟩)
  go_ret;exact⟨by rw[HF.o];rfl,hx4 w (HX3.o.alloc _) hsz⟩
theorem jp8 {α:Type} {f:α->Nat} {n:Nat}:∀ {l:List α},(∀ x∈l,f x<=n)->(l.map f).sum<=n*l.length
 | [],_=>by simp
 | a :: l,h=>by
   have h1:=jp8 (l:=l) (fun x hx=>h x (List.mem_cons_of_mem _ hx));have h2:=h a List.mem_cons_self;rw[List.map_cons,List.sum_cons,List.length_cons,Nat.mul_add,Nat.mul_one];omega
theorem j2w {t:GT} (h:ja3 t=true):wTerm t<=8:=by
 unfold ja3 at h;unfold wTerm;split at h
 . unfold jcj at h
   simp only[Bool.and_eq_true,decide_eq_true_eq] at h;exact h.1.2
 exact (jg3 h).2
theorem jv1 {a:GA} (h:jat a=true):wAtom a<=35/\a.args.length<=3/\a.n.size<=8:=by
 obtain⟨h1,h2,h3⟩:=jck h;have h4:=(jg3 h1).2;have h5:=jp8 (f:=wTerm) (fun t ht=>j2w (h3 t ht));unfold wAtom jbz;omega
theorem jm1 {a:GA} (h:factB a=true):wAtom a<=35/\a.args.length<=3/\a.n.size<=8:=by
 unfold factB at h;simp only[Bool.and_eq_true] at h;exact jv1 h.1
theorem jov {rules:List GR} {given:List GA} (h:fineB rules given=true):Facts given/\Asc given/\given.length<=40:=by
 unfold fineB at h;simp only[Bool.and_eq_true] at h;obtain⟨_,h2,h3,h4⟩:=je0 h.1;exact⟨h2,h3,h4⟩
theorem jsn {c:GC} (h:jas c=true):jbb c.comes 300=true/\jbb c.goes 300=true:=by
 unfold jas at h;simp only[Bool.and_eq_true] at h;exact h.1
theorem jhc {B:GB} (h:jbx B=true):(0<=B.time/\B.time<=100000/\B.hist.length<=30/\(B.hist.length:Int)<=B.time)/\fineB B.rules B.given=true/\jcn B.rules B.hist.reverse B.given=true:=by
 unfold jbx at h;simp only[Bool.and_eq_true,decide_eq_true_eq] at h;exact⟨⟨h.1.1.1.1,h.1.1.1.2,h.1.1.2,h.1.2⟩,h.2.1,h.2.2⟩
def histL (B:GB) (i:Nat):GC:=B.hist.getD (B.hist.length-1-i) ⟨[],[]⟩
theorem jv2 (B:GB) (i:Nat):agoL B (i+1)=(backL (agoL B i) (histL B i)).1:=rfl
theorem jll {B:GB} {i:Nat} (hi:i<B.hist.length):histL B i=B.hist[B.hist.length-1-i]:=by
 unfold histL;rw[List.getD_eq_getElem?_getD,List.getElem?_eq_getElem (by omega)]
 rfl
theorem jp9 {B:GB} (h:jbx B=true):∀ i,i<=B.hist.length->fineB B.rules (agoL B i)=true/\jcn B.rules (B.hist.reverse.drop i) (agoL B i)=true
 | 0,_=>⟨(jhc h).2.1,by have h2:=(jhc h).2.2;rw[List.drop_zero];exact h2⟩
 | i + 1,hi=>by
   obtain⟨_,h2⟩:=jp9 h i (by omega);rw[jp0 (by omega:i<B.hist.length)] at h2;unfold jcn at h2;simp only[Bool.and_eq_true] at h2;rw[jv2,jll (by omega)];exact⟨h2.2.2.1,h2.2.2.2⟩
theorem jv3 {B:GB} (h:jbx B=true) {i:Nat} (hi:i<B.hist.length):jas (histL B i)=true/\(backL (agoL B i) (histL B i)).2=true:=by
 obtain⟨_,h2⟩:=jp9 h i (by omega);rw[jp0 hi] at h2;unfold jcn at h2;simp only[Bool.and_eq_true] at h2;rw[jll hi];exact⟨h2.1,h2.2.1⟩
theorem j2b {B:GB} (h:jbx B=true) {c:GC} (hc:c∈B.hist):jas c=true:=by
 obtain⟨m,hm,rfl⟩:=List.getElem_of_mem hc;have h1:=(jv3 h (i:=B.hist.length-1-m) (by omega)).1;rw[jll (by omega)] at h1;have e:B.hist.length-1-(B.hist.length-1-m)=m:=by omega
 simp only[e] at h1;exact h1
theorem jz4 {B:GB} (h:jbx B=true):LiteB B:=by
 obtain⟨⟨t0,t1,t2,t3⟩,hf,_⟩:=jhc h;obtain⟨g1,g2,g3⟩:=jov hf
 have hr:jag B.rules=0:=by
  unfold fineB at hf;simp only[Bool.and_eq_true] at hf;exact (je0 hf.1).1
 obtain⟨r1,r2,_,_⟩:=jhw hr;refine⟨⟨by omega,fun x hx=>Nat.le_trans (jm1 (g1 x hx)).1 (by omega)⟩,⟨by omega,fun c hc=>?_⟩,⟨by omega,by omega⟩,r2,fun r hr=>?_⟩
 . obtain ⟨k1,k2⟩:=jsn (j2b h hc)
   obtain⟨c1,_,c3⟩:=jbw k1;obtain⟨d1,_,d3⟩:=jbw k2;exact⟨⟨c3,fun x hx=>Nat.le_trans (jm1 (c1 x hx)).1 (by omega)⟩,⟨d3,fun x hx=>Nat.le_trans (jm1 (d1 x hx)).1 (by omega)⟩⟩
 have hf:=r1 r hr;exact⟨hf.few,Nat.le_trans (jv1 hf.head).2.1 (by omega),fun p hp=>Nat.le_trans (jv1 (hf.body p hp)).2.1 (by omega)⟩
theorem jso {B:GB} (h:jbx B=true) {i:Nat} (hi:i<=B.hist.length):Facts (agoL B i)/\Asc (agoL B i)/\(agoL B i).length<=40:=jov (jp9 h i hi).1
theorem at_in {B:GB} {t:Int} (h:B.time-B.hist.length<=t/\t<=B.time):atL B t=(agoL B (B.time-t).toNat,true):=by
 unfold atL;rw[if_pos (show inB t (B.time-B.hist.length) B.time=true from by unfold inB;simp;exact h)]
theorem j2x {B:GB} {t:Int} (h:¬ (B.time-B.hist.length<=t/\t<=B.time)):atL B t=([],false):=by
 unfold atL;rw[if_neg (show ¬ inB t (B.time-B.hist.length) B.time=true from by unfold inB;simp;omega)]
theorem jh0 (v:Value) (xs:List GA) (w:World) {S:Nat->Prop} (hv:jab S w v xs) (hw:jb7 xs<=1048576) :
  Calls Tryz.prog 79 #[v] w fun e w'=>(∃ u,e=.returned u/\jbn (From w.heap.size) w' u xs)/\Ext w w':=by
 obtain⟨A,c,rfl,hc1,hc2⟩:=jaa.form hv;have hn:xs.length<=1048576:=by unfold jb7 at hw;omega
 obtain⟨i0,hi0,hz0,hz1,hz2⟩:=info_parts jd4;obtain⟨cs0,hcs0,hmk⟩:=made 24 69 i0 _ Tryz.underlying24 hi0 hz0 xs.length (by rw[hz2];omega) (by omega);rw[hz1] at hcs0;have HC:=zh hcs0;have HV:=zh hv;have HN:=zh hw;clear hcs0 hi0 hz0 hz1 hz2 hv hn hw
 go_in;go_wp2;go_loopw [4] (fun i wr=>∃ (k:Nat) (cs:Array Value),k<=xs.length/\i=.int .i64 k/\cs.size=xs.length*2/\Blk wr w.heap.size 69 cs/\jb4 juz w.heap.size (From (w.heap.size+1)) wr cs xs k/\Ext w wr) (fun i _=>xs.length-(intOf i).toNat)
 case atStart=>exact⟨0,cs0,Nat.zero_le _,rfl,HC.o,Blk.new _ _ _,jb4.zero,(Ext.refl _).alloc _⟩
 case round =>
  obtain⟨k,cs,hk,rfl,hcs,hb,hf,hx⟩:=hrel;by_cases hlt:k<xs.length
  . obtain ⟨b,off,x,v1,rfl,hb0,hxk,hxs,ht,hc0,hc1⟩:=jab.at_ (HV.o.ext hx) hlt
    obtain⟨A1,c1,rfl,hq1,hq2⟩:=jaa.form ht
    have HW:=zh (show jbz x.args<=1048576 from by
     have h1:=jns (List.mem_of_getElem? hxk);have h2:=HN.o;unfold wAtom at h1;omega)
    have HK:=zh hxk;have HS:=zh hcs;have HF:=zh hf;have HB:=zh hb;have HT:=zh ht;have hg:=hb.lt;clear hxk hcs hf hb hmk ht
    go_wp2_with (first
     | (go_at_call 34;refine (jj3 x _ _ HT.o HW.o).mono ?_;rintro e w1 ⟨⟨u,rfl,hu⟩,hx1⟩
        obtain⟨B,d,rfl,hd1,hd2⟩:=jae.form hu;obtain⟨⟨u0,hr0⟩,hf0⟩:=(HB.o.ext hx1).ready (i:=k*2) (by have:=HS.o;omega);obtain⟨⟨u1,hr1⟩,hf1⟩:=(HB.o.ext hx1).ready (i:=k*2+1) (by have:=HS.o;omega)))
    go_roundw
    case rel =>
     have hb1:=HB.o.ext hx1
     have ha:Agree (From (w.heap.size+1)) w1 ((w1.setCell ⟨w.heap.size,k*2,none⟩ (.string x.n)).setCell ⟨w.heap.size,k*2+1,none⟩ (.slice B x.args.length d)) :=
      ((Agree.refl _ _).set (by simp) _).set (by simp) _
     have hsz:w1.heap.size<=((w1.setCell ⟨w.heap.size,k*2,none⟩ (.string x.n)).setCell ⟨w.heap.size,k*2+1,none⟩ (.slice B x.args.length d)).heap.size:=by go_size
     refine⟨k+1,_,by omega,by go_num,?_,((hb1.set_ _ _).set_ _ _),HF.o.step (fun m hm hlt=>(jc8 hm).trans ((jc8 hm).trans (hx1.block m hlt))) (Nat.le_trans hx1.size hsz) hg (fun m hm=>by show w.heap.size+1<=m;omega) HK.o (l:=[.string x.n,.slice B x.args.length d]) ⟨_,rfl,hxs,hu.imp (fun b hb _=>hb) (fun b hb hlt=>ha b (by show w.heap.size+1<=b;have:wr.heap.size<=b:=hb;omega) hlt) hsz⟩ (jt8 (by have:=HS.o;omega)) (fun o ho=>jp1 o ho),(Below.setCell (Below.setCell (hx.t hx1) (Nat.le_refl _) _) (Nat.le_refl _) _)⟩;simp[HS.o]
    case measure=>simp[intOf];omega
  have hkk:k=xs.length:=by omega
  go_wp2;go_ret;refine⟨⟨_,rfl,?_⟩,hx⟩;exact jb4.slice (c:=xs.length) (hkk▸hf) hb rfl (Nat.le_refl _) (by unfold maxLen;have:=HN.o;unfold jb7 at this;omega) (Nat.le_refl _) (jdd (by omega))
def jcb (l:List GC):Nat:=l.length+(l.map jbp).sum
def wBase (B:GB):Nat:=jdm B.rules+jb7 B.given+jcb B.hist
theorem jsp {l:List GC} {x:GC} (h:x∈l):jbp x<=jcb l:=Nat.le_trans (jqn jbp h) (Nat.le_add_left _ _)
theorem jiv (v:Value) (xs:List GC) (l:Int) (w:World) (hl:0<=l/\l<=1048576) {S:Nat->Prop} (hv:jan S w v xs) :
  Calls Tryz.prog 75 #[v,.int .i64 l] w fun e w'=>e=.returned (.int .i64 (purse l (jcb xs)))/\Ext w w':=by
 obtain⟨h0,h1⟩:=hl;obtain⟨A,c,rfl,hc1,hc2⟩:=jaa.form hv;by_cases hc:l<xs.length
 . have HP:=zh (jbf (l:=l) (n:=jcb xs) (by unfold jcb;omega))
   go_in;go_wp2;go_ret;exact⟨by rw[HP.o];rfl,Ext.refl _⟩
 go_in;go_wp2;go_loopw [1,5] (fun lf i wr=>∃ k:Nat,∃ q:Int,k<=xs.length/\i=.int .i64 k/\lf=.int .i64 q/\0<=q/\q<=l/\q=l-xs.length-((xs.take k).map jbp).sum/\Ext w wr) (fun _ i _=>xs.length-(intOf i).toNat)
 case atStart=>exact⟨0,_,Nat.zero_le _,rfl,rfl,by omega,by omega,by simp,Ext.refl _⟩
 case round =>
  obtain⟨k,q,hk,rfl,rfl,hq0,hq1,hq,hx⟩:=hrel;have HQ:=zh hq;clear hq;by_cases hlt:k<xs.length
  . obtain ⟨b,off,x,v,u,rfl,hb,hxk,ht,hu,hc0,hc1⟩:=jan.at_ (hv.ext hx) hlt
    have HS:=zh (jis jbp xs k x hxk);have HL:=zh (jet jbp xs (k+1));clear hxk hv;obtain⟨A1,c1,rfl,hd1,hd2⟩:=jaa.form ht;obtain⟨A2,c2,rfl,hd3,hd4⟩:=jaa.form hu;have hw:=jbj (jku x _ _ q wr ⟨by omega,by omega⟩ ht hu);clear ht hu;by_cases hs:q<jbp x
    . have HP:=zh (jbf (l:=l) (n:=jcb xs) (by have:=HS.o;have:=HL.o;have:=HQ.o;unfold jcb;omega))
      have hw1:=zh (hw.1 hs);clear hw;go_wp2_with (go_at_call 76;refine hw1.o.mono ?_;rintro e w1 ⟨rfl,hx1⟩)
      go_ret;exact⟨by rw[HP.o];rfl,hx.t hx1⟩
    have hw1:=zh (hw.2 (by omega));have hle:(jbp x:Int)<=q:=by omega
    clear hw;go_wp2_with (go_at_call 76;refine hw1.o.mono ?_;rintro e w1 ⟨rfl,hx1⟩)
    go_roundw
    case rel=>exact⟨k+1,_,by omega,by go_num,rfl,by omega,by omega,by have:=HS.o;have:=HQ.o;omega,hx.t hx1⟩
    case measure=>simp[intOf];omega
  have HP:=zh (jcm (l:=l) (n:=jcb xs) (by
    have:=HQ.o;rw[List.take_of_length_le (by omega)] at this;unfold jcb;omega))
  go_wp2;go_ret;exact⟨by rw[HP.o];have:=HQ.o;rw[List.take_of_length_le (by omega)] at this;rw[this];unfold jcb;exact congrArg (fun z=>Ending.returned (.int .i64 z)) (by push_cast;omega),hx⟩
theorem jow (B:GB) (v:Value) (l:Int) (w:World) (hl:0<=l/\l<=1048576) {S:Nat->Prop} (hv:BaseR S w v B) :
  Calls Tryz.prog 17 #[v,.int .i64 l] w fun e w'=>e=.returned (.int .i64 (purse l (wBase B)))/\Ext w w':=by
 obtain⟨h0,h1⟩:=hl;obtain⟨a,b,c,rfl,ha,hb,hc⟩:=hv;obtain⟨A1,c1,rfl,hd1,hd2⟩:=jaa.form ha;obtain⟨A2,c2,rfl,hd3,hd4⟩:=jaa.form hb;obtain⟨A3,c3,rfl,hd5,hd6⟩:=jaa.form hc;have hx0:=(Ext.refl w).alloc (.cells #[.slice A1 B.rules.length c1,.int .i64 B.time,.slice A2 B.given.length c2,.slice A3 B.hist.length c3] 42);have HB0:=zh (Blk.new w 42 #[.slice A1 B.rules.length c1,.int .i64 B.time,.slice A2 B.given.length c2,.slice A3 B.hist.length c3]);have hR:=jbj (juf _ B.rules l _ ⟨h0,h1⟩ (ha.ext hx0));have HG:=zh (hb.ext hx0);have HH:=zh (jan.ext hc hx0);have HX0:=zh hx0;clear ha hb hc hx0;by_cases hq1:l<jdm B.rules
 . have HP:=zh (jbf (l:=l) (n:=wBase B) (by unfold wBase;omega))
   have hw1:=zh (hR.1 hq1);clear hR
   go_in;go_wp2_with (go_at_call 73;go_fit hw1.o;rintro e w1 ⟨rfl,hx1⟩)
   go_ret;exact⟨by rw[HP.o];rfl,HX0.o.t hx1⟩
 have hw1:=zh (hR.2 (by omega));have hle1:(jdm B.rules:Int)<=l:=by omega
 obtain⟨l1,hl1⟩:∃ q:Int,q=l-jdm B.rules:=⟨_,rfl⟩
 rw[<- hl1] at hw1;have hl10:0<=l1:=by omega
 have hl11:l1<=1048576:=by omega
 have HL1:=zh hl1;clear hR hl1;by_cases hq2:l1<jb7 B.given
 . have HP:=zh (jbf (l:=l) (n:=wBase B) (by have:=HL1.o;unfold wBase;omega))
   have HW2:=zh (fun (W:World) (hW:Ext (w.alloc (.cells #[.slice A1 B.rules.length c1,.int .i64 B.time,.slice A2 B.given.length c2,.slice A3 B.hist.length c3] 42)) W)=>(jbj (jeu _ B.given l1 W ⟨hl10,hl11⟩ (HG.o.ext hW))).1 hq2)
   go_in
   go_wp2_with (first
    | (go_at_call 73;go_fit hw1.o;rintro e w1 ⟨rfl,hx1⟩;have HX1:=zh hx1;have hb1:=HB0.o.ext hx1;have q2:=hb1.cell 2;have hl1:=hb1.lt;clear hx1 hb1)
    | (go_at_call 74;refine (HW2.o _ HX1.o).mono ?_;rintro e w2 ⟨rfl,hx2⟩))
   go_ret;exact⟨by rw[HP.o];rfl,HX0.o.t (HX1.o.t hx2)⟩
 have HW2:=zh (fun (W:World) (hW:Ext (w.alloc (.cells #[.slice A1 B.rules.length c1,.int .i64 B.time,.slice A2 B.given.length c2,.slice A3 B.hist.length c3] 42)) W)=>(jbj (jeu _ B.given l1 W ⟨hl10,hl11⟩ (HG.o.ext hW))).2 (by omega));have hle2:(jb7 B.given:Int)<=l1:=by omega
 obtain⟨l2,hl2⟩:∃ q:Int,q=l1-jb7 B.given:=⟨_,rfl⟩
 rw[<- hl2] at HW2;have hl20:0<=l2:=by omega
 have hl21:l2<=1048576:=by omega
 have HL2:=zh hl2;clear hl2;by_cases hq3:l2<jcb B.hist
 . have HP:=zh (jbf (l:=l) (n:=wBase B) (by have:=HL1.o;have:=HL2.o;unfold wBase;omega))
   have HW3:=zh (fun (W:World) (hW:Ext (w.alloc (.cells #[.slice A1 B.rules.length c1,.int .i64 B.time,.slice A2 B.given.length c2,.slice A3 B.hist.length c3] 42)) W)=>(jbj (jiv _ B.hist l2 W ⟨hl20,hl21⟩ (jan.ext HH.o hW))).1 hq3)
   go_in
   go_wp2_with (first
    | (go_at_call 73;go_fit hw1.o;rintro e w1 ⟨rfl,hx1⟩;have HX1:=zh hx1;have hb1:=HB0.o.ext hx1;have q2:=hb1.cell 2;have hl1:=hb1.lt;clear hx1 hb1)
    | (go_at_call 74;refine (HW2.o _ HX1.o).mono ?_;rintro e w2 ⟨rfl,hx2⟩;have HX2:=zh (HX1.o.t hx2);have hb2:=HB0.o.ext HX2.o;have q3:=hb2.cell 3;have hl2:=hb2.lt;clear hx2 hb2)
    | (go_at_call 75;refine (HW3.o _ HX2.o).mono ?_;rintro e w3 ⟨rfl,hx3⟩))
   go_ret;exact⟨by rw[HP.o];rfl,HX0.o.t (HX2.o.t hx3)⟩
 have HW3:=zh (fun (W:World) (hW:Ext (w.alloc (.cells #[.slice A1 B.rules.length c1,.int .i64 B.time,.slice A2 B.given.length c2,.slice A3 B.hist.length c3] 42)) W)=>(jbj (jiv _ B.hist l2 W ⟨hl20,hl21⟩ (jan.ext HH.o hW))).2 (by omega));have hle3:(jcb B.hist:Int)<=l2:=by omega
 have HP:=zh (jcm (l:=l) (n:=wBase B) (by have:=HL1.o;have:=HL2.o;unfold wBase;omega))
 go_in
 go_wp2_with (first
  | (go_at_call 73;go_fit hw1.o;rintro e w1 ⟨rfl,hx1⟩;have HX1:=zh hx1;have hb1:=HB0.o.ext hx1;have q2:=hb1.cell 2;have hl1:=hb1.lt;clear hx1 hb1)
  | (go_at_call 74;refine (HW2.o _ HX1.o).mono ?_;rintro e w2 ⟨rfl,hx2⟩;have HX2:=zh (HX1.o.t hx2);have hb2:=HB0.o.ext HX2.o;have q3:=hb2.cell 3;have hl2:=hb2.lt;clear hx2 hb2)
  | (go_at_call 75;refine (HW3.o _ HX2.o).mono ?_;rintro e w3 ⟨rfl,hx3⟩))
 go_ret;exact⟨by rw[HP.o];have:=HL1.o;have:=HL2.o;unfold wBase;exact congrArg (fun z=>Ending.returned (.int .i64 z)) (by push_cast;omega),HX0.o.t (HX2.o.t hx3)⟩
theorem jbh.made {a b:Nat} {w1 w1' w2 w3:World} {v u:Value} {r:GC} (hv:jbn (From a) w1 v r.comes) (h1:Agree (From a) w1 w1') (hs1:w1.heap.size<=w1'.heap.size)
  (hx:Ext w1' w2) (hu:jbn (From w1'.heap.size) w2 u r.goes) (h2:Agree (From a) w2 w3) (hs2:w2.heap.size<=w3.heap.size) (ha:a<=w1.heap.size) (hb:b<=a):jbh (From b) w3 [v,u] r :=
 ⟨v,u,Mid a w1.heap.size,From w1'.heap.size,rfl,jae.imp (jae.ext (jae.imp (jae.imp (S':=Mid a w1.heap.size) hv (fun b hb hlt=>⟨hb,hlt⟩) (.refl _ _) (Nat.le_refl _)) (fun _ h _=>h) (Agree.mid h1) hs1) hx) (fun _ h _=>h) (Agree.mid h2) hs2,
  jae.imp hu (fun _ h _=>h) (fun i hi hlt=>h2 i (Nat.le_trans (Nat.le_trans ha hs1) hi) hlt) hs2,fun i hi=>Nat.le_trans hb hi.1,fun i hi=>Nat.le_trans hb (Nat.le_trans (Nat.le_trans ha hs1) hi),fun i hi hi2=>Nat.lt_irrefl _ (Nat.lt_of_lt_of_le (Nat.lt_of_lt_of_le hi.2 hs1) hi2)⟩
theorem jbh.forms {S:Nat->Prop} {w:World} {v u:Value} {r:GC} (h:jbh S w [v,u] r) :
  (∃ A c,v=.slice A r.comes.length c/\r.comes.length<=c/\c<=9223372036854775807)/\(∃ A c,u=.slice A r.goes.length c/\r.goes.length<=c/\c<=9223372036854775807):=by
 obtain⟨v3,u3,S1,S2,heq,hv2,hu2,_⟩:=h;injection heq with heq1 heq
 injection heq with heq2 _
 subst heq1 heq2;exact⟨jae.form hv2,jae.form hu2⟩
theorem jup:(Tryz.prog.info? 36).map (fun i=>(i.zero,i.size,i.bytes))=some (some (.agg #[.slice none 0 0,.slice none 0 0]),2,48):=by kernel_rfl
theorem jkx (a:GC) (v u:Value) (w:World) {S T:Nat->Prop} (hv:jab S w v a.comes) (hu:jab T w u a.goes) (hw:jbp a<=1048576) :
  Calls Tryz.prog 81 #[.agg #[v,u]] w fun e w'=>(∃ v' u',e=.returned (.agg #[v',u'])/\jbh (From w.heap.size) w' [v',u'] a)/\Ext w w':=by
 obtain⟨A,c,rfl,hc1,hc2⟩:=jaa.form hv;obtain⟨B,d,rfl,hd1,hd2⟩:=jaa.form hu;have HV:=zh hv;have HU:=zh hu;have HN:=zh hw;clear hv hu hw
 go_in;have tok:True:=trivial
 go_wp2_with (first
  | (go_at_call 79;have _t:=tok;refine (jh0 _ a.comes _ (HV.o.ext ((((Ext.refl _).alloc _).alloc _).alloc _)) (by have:=HN.o;unfold jbp at this;omega)).mono ?_;clear tok _t;rintro e w1 ⟨⟨u,rfl,hu⟩,hx1⟩;obtain⟨hcc,hcf⟩:=hx1.cells;obtain⟨A1,c1,rfl,hq1,hq2⟩:=jae.form hu;have HU1:=zh hu;clear hu;have hz1:=hx1.size;simp only[World.size_alloc] at hz1;have hz1a:w.heap.size+1+1<w1.heap.size:=(by omega);have hz1b:w.heap.size+1<w1.heap.size:=(by omega);have hz1c:w.heap.size<w1.heap.size:=(by omega);clear hz1)
  | (go_at_call 79;refine (jh0 _ a.goes _ (HU.o.ext (((((((Ext.refl _).alloc _).alloc _).alloc _).t hx1).setNew (by go_size) _))) (by have:=HN.o;unfold jbp at this;omega)).mono ?_;rintro e w2 ⟨⟨u',rfl,hu'⟩,hx2⟩;obtain⟨hcc2,hcf2⟩:=hx2.cells;obtain⟨A2,c2,rfl,hq3,hq4⟩:=jae.form hu';have HU2:=zh hu';clear hu';have HX2:=zh hx2;have hz2:=hx2.size;simp only[World.size_setCell] at hz2))
 refine bodyPost_ret (v:=.agg #[.slice A1 a.comes.length c1,.slice A2 a.goes.length c2]) (by simp[results,Tryz.results81,go_sem,hcc,hcc2,hz1b]) rfl ⟨⟨_,_,rfl,?_⟩,?_⟩
 . refine jbh.made (a:=w.heap.size+3) (HU1.o.sub (jdd (by go_size))) ?_ ?_ HX2.o HU2.o ?_ ?_ ?_ ?_
   . exact (Agree.refl _ _).set (by go_size) _
   . go_size
   . exact (((Agree.refl _ _).set (by go_size) _).set (by go_size) _).set (by go_size) _
   . go_size
   . omega
   omega
 exact (((((((((Ext.refl _).alloc _).alloc _).alloc _).t hx1).setNew (by go_size) _).t HX2.o).setNew (by go_size) _).setNew (by go_size) _).setNew (by go_size) _
theorem jqa (v:Value) (xs:List GC) (w:World) {S:Nat->Prop} (hv:jan S w v xs) (hw:jcb xs<=1048576) :
  Calls Tryz.prog 80 #[v] w fun e w'=>(∃ u,e=.returned u/\jc6 (From w.heap.size) w' u xs)/\Ext w w':=by
 obtain⟨A,c,rfl,hc1,hc2⟩:=jaa.form hv;have hn:xs.length<=1048576:=by unfold jcb at hw;omega
 obtain⟨i0,hi0,hz0,hz1,hz2⟩:=info_parts jup;obtain⟨cs0,hcs0,hmk⟩:=made 25 36 i0 _ Tryz.underlying25 hi0 hz0 xs.length (by rw[hz2];omega) (by omega);rw[hz1] at hcs0;have HC:=zh hcs0;have HV:=zh hv;have HN:=zh hw;clear hcs0 hi0 hz0 hz1 hz2 hv hn hw
 go_in;go_wp2;go_loopw [4] (fun i wr=>∃ (k:Nat) (cs:Array Value),k<=xs.length/\i=.int .i64 k/\cs.size=xs.length*2/\Blk wr w.heap.size 36 cs/\jb4 jo8 w.heap.size (From (w.heap.size+1)) wr cs xs k/\Ext w wr) (fun i _=>xs.length-(intOf i).toNat)
 case atStart=>exact⟨0,cs0,Nat.zero_le _,rfl,HC.o,Blk.new _ _ _,jb4.zero,(Ext.refl _).alloc _⟩
 case round =>
  obtain⟨k,cs,hk,rfl,hcs,hb,hf,hx⟩:=hrel;by_cases hlt:k<xs.length
  . obtain ⟨b,off,x,v1,u1,rfl,hb0,hxk,ht,hp,hc0,hc1⟩:=jan.at_ (HV.o.ext hx) hlt
    obtain⟨A1,c1,rfl,hq1,hq2⟩:=jaa.form ht;obtain⟨B1,d1,rfl,hq3,hq4⟩:=jaa.form hp
    have HW:=zh (show jbp x<=1048576 from by
     have h1:=jsp (List.mem_of_getElem? hxk);have h2:=HN.o;omega)
    have HK:=zh hxk;have HS:=zh hcs;have HF:=zh hf;have HB:=zh hb;have HT:=zh ht;have HP:=zh hp;have hg:=hb.lt;clear hxk hcs hf hb hmk ht hp
    go_wp2_with (first
     | (go_at_call 81;refine (jkx x _ _ _ HT.o HP.o HW.o).mono ?_;rintro e w1 ⟨⟨v2,u2,rfl,hE⟩,hx1⟩
        obtain⟨⟨A2,c2,rfl,hd1,hd2⟩,⟨B2,d2,rfl,hd3,hd4⟩⟩:=jbh.forms hE;have HE:=zh hE;clear hE;obtain⟨⟨u0,hr0⟩,hf0⟩:=(HB.o.ext hx1).ready (i:=k*2) (by have:=HS.o;omega);obtain⟨⟨u1',hr1⟩,hf1⟩:=(HB.o.ext hx1).ready (i:=k*2+1) (by have:=HS.o;omega)))
    go_roundw
    case rel =>
     have hb1:=HB.o.ext hx1
     have ha:Agree (From (w.heap.size+1)) w1 ((w1.setCell ⟨w.heap.size,k*2,none⟩ (.slice A2 x.comes.length c2)).setCell ⟨w.heap.size,k*2+1,none⟩ (.slice B2 x.goes.length d2)) :=
      ((Agree.refl _ _).set (by simp) _).set (by simp) _
     have hsz:w1.heap.size<=((w1.setCell ⟨w.heap.size,k*2,none⟩ (.slice A2 x.comes.length c2)).setCell ⟨w.heap.size,k*2+1,none⟩ (.slice B2 x.goes.length d2)).heap.size:=by go_size
     refine⟨k+1,_,by omega,by go_num,?_,((hb1.set_ _ _).set_ _ _),HF.o.step (fun m hm hlt=>(jc8 hm).trans ((jc8 hm).trans (hx1.block m hlt))) (Nat.le_trans hx1.size hsz) hg (fun m hm=>by show w.heap.size+1<=m;omega) HK.o (l:=[.slice A2 x.comes.length c2,.slice B2 x.goes.length d2]) (jbh.imp HE.o (fun b hb _=>hb) (fun b hb hlt=>ha b (by show w.heap.size+1<=b;have:wr.heap.size<=b:=hb;omega) hlt) hsz) (jt8 (by have:=HS.o;omega)) (fun o ho=>jp1 o ho),(Below.setCell (Below.setCell (hx.t hx1) (Nat.le_refl _) _) (Nat.le_refl _) _)⟩;simp[HS.o]
    case measure=>simp[intOf];omega
  have hkk:k=xs.length:=by omega
  go_wp2;go_ret;refine⟨⟨_,rfl,?_⟩,hx⟩;exact jb4.slice (c:=xs.length) (hkk▸hf) hb rfl (Nat.le_refl _) (by unfold maxLen;have:=HN.o;unfold jcb at this;omega) (Nat.le_refl _) (jdd (by omega))
theorem BaseO.made {a b:Nat} {w1 W1 w2 W2 w3 w4:World} {v u x:Value} {B:GB}
  (hv:je7 (From a) w1 v B.rules) (h1:Agree (From a) w1 W1) (s1:w1.heap.size<=W1.heap.size) (x1:Ext W1 w2)
  (hu:jbn (From W1.heap.size) w2 u B.given) (h2:Agree (From a) w2 W2) (s2:w2.heap.size<=W2.heap.size) (x2:Ext W2 w3)
  (hx:jc6 (From W2.heap.size) w3 x B.hist) (h3:Agree (From a) w3 w4) (s3:w3.heap.size<=w4.heap.size) (ha:a<=w1.heap.size) (hb:b<=a) :
  BaseO (From b) w4 (.agg #[v,.int .i64 B.time,u,x]) B:=by
 have y1:=x1.size;have y2:=x2.size;have e1:∀ i,Mid W1.heap.size w2.heap.size i->From a i:=fun i hi=>Nat.le_trans (Nat.le_trans ha s1) hi.1
 have e2:∀ i,From W2.heap.size i->From a i:=fun i hi=>Nat.le_trans (Nat.le_trans ha s1) (Nat.le_trans (Nat.le_trans y1 s2) hi)
 refine⟨v,u,x,Mid a w1.heap.size,Mid W1.heap.size w2.heap.size,From W2.heap.size,rfl,?_,?_,?_,?_,?_,?_,?_⟩
 . have z1:je7 (Mid a w1.heap.size) w1 v B.rules:=jae.imp hv (fun b hb hlt=>⟨hb,hlt⟩) (.refl _ _) (Nat.le_refl _)
   have z2:=jae.ext (jae.imp z1 (fun _ h _=>h) (Agree.mid h1) s1) x1;have z3:=jae.ext (jae.imp z2 (fun _ h _=>h) (Agree.mid h2) s2) x2;exact jae.imp z3 (fun _ h _=>h) (Agree.mid h3) s3
 . have z1:jbn (Mid W1.heap.size w2.heap.size) w2 u B.given:=jae.imp hu (fun b hb hlt=>⟨hb,hlt⟩) (.refl _ _) (Nat.le_refl _)
   have z2:=jae.ext (jae.imp z1 (fun _ h _=>h) (fun i hi hlt=>h2 i (e1 i hi) hlt) s2) x2;exact jae.imp z2 (fun _ h _=>h) (fun i hi hlt=>h3 i (e1 i hi) hlt) s3
 . exact jae.imp hx (fun _ h _=>h) (fun i hi hlt=>h3 i (e2 i hi) hlt) s3
 . rintro i (h|h|h)
   . exact Nat.le_trans hb h.1
   . exact Nat.le_trans hb (e1 i h)
   exact Nat.le_trans hb (e2 i h)
 . intro i h k;have k1:=h.2;have k2:=k.1;omega
 . intro i h k;have k1:=h.2;have k2:W2.heap.size<=i:=k;omega
 intro i h k;have k1:=h.2;have k2:W2.heap.size<=i:=k;omega
theorem jox (B:GB) (v:Value) (w:World) {S:Nat->Prop} (hv:BaseR S w v B) (hw:wBase B<=1048576) :
  Calls Tryz.prog 20 #[v] w fun e w'=>(∃ u,e=.returned u/\BaseO (From w.heap.size) w' u B)/\Ext w w':=by
 obtain⟨a,b,c,rfl,ha,hb,hc⟩:=hv;obtain⟨A1,c1,rfl,hd1,hd2⟩:=jaa.form ha;obtain⟨A2,c2,rfl,hd3,hd4⟩:=jaa.form hb;obtain⟨A3,c3,rfl,hd5,hd6⟩:=jaa.form hc;obtain⟨W0,hW0⟩:=nm (((w.alloc (.cells #[.slice A1 B.rules.length c1,.int .i64 B.time,.slice A2 B.given.length c2,.slice A3 B.hist.length c3] 42)).alloc (.cells #[.slice none 0 0,.int .i64 0,.slice none 0 0,.slice none 0 0] 27)).alloc (.cells #[.slice none 0 0,.int .i64 0,.slice none 0 0,.slice none 0 0] 27));have hx0:Ext w W0:=by rw[hW0];exact (((Ext.refl _).alloc _).alloc _).alloc _
 have hA0:Blk W0 w.heap.size 42 #[.slice A1 B.rules.length c1,.int .i64 B.time,.slice A2 B.given.length c2,.slice A3 B.hist.length c3]:=by rw[hW0];exact ((Blk.new _ _ _).alloc _).alloc _
 have hR0:Blk W0 (w.heap.size+1) 27 #[.slice none 0 0,.int .i64 0,.slice none 0 0,.slice none 0 0]:=by rw[hW0];exact (Blk.at_new (by simp)).alloc _
 have hO0:Blk W0 (w.heap.size+1+1) 27 #[.slice none 0 0,.int .i64 0,.slice none 0 0,.slice none 0 0]:=by rw[hW0];exact Blk.at_new (by simp)
 have hs0:W0.heap.size=w.heap.size+3:=by rw[hW0];simp
 have HN:=zh (show jdm B.rules<=1048576/\jb7 B.given<=1048576/\jcb B.hist<=1048576 from by unfold wBase at hw;omega);have HA:=zh (ha.ext hx0);have HB:=zh hb;have HC:=zh hc;have HX0:=zh hx0;have HA0:=zh hA0;have HR0:=zh hR0;have HO0:=zh hO0;have HS0:=zh hs0;have HW0:=zh hW0;clear ha hb hc hx0 hA0 hR0 hO0 hs0 hw hW0
 go_in;go_wp2_with (fail)
 rw[<- HW0.o];refine (jub _ B.rules _ HA.o HN.o.1).mono ?_;rintro e w1 ⟨⟨v1,rfl,hv1⟩,hx1⟩;obtain⟨B1,d1,rfl,he1,he2⟩:=jae.form hv1;have HV1:=zh hv1;have HX1:=zh hx1;have hA1:=HA0.o.ext hx1;have hR1:=HR0.o.ext hx1;have hO1:=HO0.o.ext hx1;have a1:=hA1.cell 1;have a2:=hA1.cell 2;have o0:=hO1.cell 0;have o1:=hO1.cell 1;have f0:=hO1.frozen 0;have f1:=hO1.frozen 1;have lO:=hO1.lt;have HA1:=zh ((hA1.far (p:=⟨w.heap.size+1+1,0,none⟩) (by show w.heap.size≠w.heap.size+1+1;omega) (.slice B1 B.rules.length d1)).far (p:=⟨w.heap.size+1+1,1,none⟩) (by show w.heap.size≠w.heap.size+1+1;omega) (.int .i64 B.time));have HR1:=zh ((hR1.far (p:=⟨w.heap.size+1+1,0,none⟩) (by simp) (.slice B1 B.rules.length d1)).far (p:=⟨w.heap.size+1+1,1,none⟩) (by simp) (.int .i64 B.time));have HO1:J1 (Blk ((w1.setCell ⟨w.heap.size+1+1,0,none⟩ (.slice B1 B.rules.length d1)).setCell ⟨w.heap.size+1+1,1,none⟩ (.int .i64 B.time)) (w.heap.size+1+1) 27 #[.slice B1 B.rules.length d1,.int .i64 B.time,.slice none 0 0,.slice none 0 0]):=zh (by simpa using (hO1.set_ 0 (.slice B1 B.rules.length d1)).set_ 1 (.int .i64 B.time));have E1:=zh (((HX0.o.t hx1).setNew (p:=⟨w.heap.size+1+1,0,none⟩) (by simp;omega) (.slice B1 B.rules.length d1)).setNew (p:=⟨w.heap.size+1+1,1,none⟩) (by simp;omega) (.int .i64 B.time));have HL1:=zh (show w.heap.size+3<=w1.heap.size from by have:=hx1.size;rw[HS0.o] at this;exact this);clear hv1 hx1 hA1 hR1 hO1;go_wp2_with (fail)
 refine (jh0 _ B.given _ (HB.o.ext E1.o) HN.o.2.1).mono ?_;rintro e w2 ⟨⟨v2,rfl,hv2⟩,hx2⟩;obtain⟨B2,d2,rfl,he3,he4⟩:=jae.form hv2;have HV2:=zh hv2;have HX2:=zh hx2;clear a1 a2 o0 o1 f0 f1 lO;have hA2:=HA1.o.ext hx2;have hR2:=HR1.o.ext hx2;have hO2:=HO1.o.ext hx2;have a3:=hA2.cell 3;have o2:=hO2.cell 2;have f2:=hO2.frozen 2;have lO:=hO2.lt;have HA2:=zh (hA2.far (p:=⟨w.heap.size+1+1,2,none⟩) (by show w.heap.size≠w.heap.size+1+1;omega) (.slice B2 B.given.length d2));have HR2:=zh (hR2.far (p:=⟨w.heap.size+1+1,2,none⟩) (by simp) (.slice B2 B.given.length d2));have HO2:J1 (Blk (w2.setCell ⟨w.heap.size+1+1,2,none⟩ (.slice B2 B.given.length d2)) (w.heap.size+1+1) 27 #[.slice B1 B.rules.length d1,.int .i64 B.time,.slice B2 B.given.length d2,.slice none 0 0]):=zh (by simpa using (hO2.set_ 2 (.slice B2 B.given.length d2)));have E2:=zh ((E1.o.t hx2).setNew (p:=⟨w.heap.size+1+1,2,none⟩) (by simp;omega) (.slice B2 B.given.length d2));have HL2:=zh (show w.heap.size+3<=w2.heap.size from by have h:=hx2.size;simp only[jee] at h;have:=HL1.o;omega);clear hv2 hx2 hA2 hR2 hO2;go_wp2_with (fail)
 refine (jqa _ B.hist _ (jan.ext HC.o E2.o) HN.o.2.2).mono ?_;rintro e w3 ⟨⟨v3,rfl,hv3⟩,hx3⟩;obtain⟨B3,d3,rfl,he5,he6⟩:=jae.form hv3;have HV3:=zh hv3;have HX3:=zh hx3;clear a3 o2 f2 lO;have hR3:=HR2.o.ext hx3;have hO3:=HO2.o.ext hx3;have o0:=hO3.cell 0;have o1:=hO3.cell 1;have o2:=hO3.cell 2;have o3:=hO3.cell 3;have f3:=hO3.frozen 3;have r0:=hR3.cell 0;have r1:=hR3.cell 1;have r2:=hR3.cell 2;have r3:=hR3.cell 3;have g0:=hR3.frozen 0;have g1:=hR3.frozen 1;have g2:=hR3.frozen 2;have g3:=hR3.frozen 3;have lO:=hO3.lt;have HL3:=zh (show w.heap.size+3<=w3.heap.size from by have h:=hx3.size;simp only[jee] at h;have:=HL2.o;omega);clear hv3 hx3 hR3 hO3;go_wp2;refine bodyPost_ret (v:=.agg #[.slice B1 B.rules.length d1,.int .i64 B.time,.slice B2 B.given.length d2,.slice B3 B.hist.length d3]) (by simp[results,Tryz.results20,go_sem,o0,o1,o2,o3,r0,r1,r2,r3]) rfl ⟨⟨_,rfl,?_⟩,?_⟩
 . have l1:=HL1.o
   have l2:=HL2.o;have l3:=HL3.o;refine BaseO.made (a:=w.heap.size+3) (HV1.o.sub (jdd (by rw[HS0.o];exact Nat.le_refl _))) ?_ ?_ HX2.o HV2.o ?_ ?_ HX3.o HV3.o ?_ ?_ l1 (by omega)
   . exact ((Agree.refl _ _).set (by simp) _).set (by simp) _
   . go_size
   . exact (Agree.refl _ _).set (by simp) _
   . go_size
   . exact (((((Agree.refl _ _).set (by simp) _).set (by simp) _).set (by simp) _).set (by simp) _).set (by simp) _
   go_size
 exact ((((((E2.o.t HX3.o).setNew (by simp;omega) _).setNew (by simp) _).setNew (by simp) _).setNew (by simp) _).setNew (by simp) _)
end Go.Proofs.YthiflhkcpanaaaaGreatDoor
