/- Part of the texts of a proof; what they say stands at each theorem. -/
import Derived.Test.YtmihponoillihaaGreatDoorBas29
import Derived.BigQuiet
import Derived.StillTailTactics
import Derived.Deep.QuietTactic
set_option linter.unusedSimpArgs false
set_option linter.unusedVariables false
namespace Go.Proofs.YtmihponoillihaaGreatDoor
open Go.RowKit Go.Shelf
attribute [local go_sem] Oper.semAt_some
theorem wpListIn_appO {α : Type} {k : Kind α} {S S' T : Nat → Prop} {w : World} {v : Value} {xs : List α} {base : Nat} {e : TypeId} {F : Fence} {n : Nat} {P : Program} {ops : Array Oper} {rest : List Oper} {o : Oper} {a : Act} {Q : Exit → Act → World → Prop} (hgd : o.guard = none) (s x' : Operand) (t : TypeId)
 (ho : o.op = .call { callee := .builtin .append, args := #[s, x'], argTypes := #[t, t] })
 (i : TypeInfo) (z : Value) (bytes : Nat) (ht : P.underlying t = some (.slice e)) (hi : P.info? e = some i) (hz : i.zero = some z)
 (hsize : i.size = k.size) (hby : i.bytes = bytes) (hzs : z.cells.size = k.size)
 (hs : a.eval s = v) (hown : OwnO k base e S w v xs) (gb : Nat) (hx : a.eval x' = .slice (some ⟨gb, 0, none⟩) 1 1) (l : List Value) (x : α) (tb : TypeId) (hE : k.E T w l x) (hb : Blk w gb tb l.toArray) (hT : ∀ b, T b → b < w.heap.size → S' b) (hS : ∀ b, S b → S' b) (hdis : ∀ b, T b → ¬ S b) (hTv : ∀ g, v.ownBlock = some g → ¬ T g)
 (h63 : xs.length + 1 ≤ maxLen) (hbytes : (xs.length + 1) * bytes ≤ 140737488355328) (hbase : base ≤ w.heap.size)
 (h : ∀ v' w', AppedO k base e S' w v (xs ++ [x]) v' w' → wpListIn F n P ops Q rest (a.put o.dst v') w') : wpListIn F n P ops Q (o :: rest) a w := by
 refine wpListIn_plain hgd fun K hK' => ?_
 obtain ⟨v', w', hr, h2⟩ := run_appO (P := P) w t o.type i z bytes ht hi hz hsize hby hzs hown l x gb tb hE hb hT hS hdis hTv h63 hbytes hbase; unfold Oper.wpIn; refine ⟨?_, ?_⟩
 · simp [Oper.about, ho, resolve, Target.leads, Sem.run_pure]
 rw [Oper.semAt_plain F _ _ (by rw [ho]; intro c hc'; cases hc')]; simp [execOp, ho, resolve, invoke, builtin, hs, hx, hr, Result.andThen]; exact hK' _ _ (h v' w' h2)
set_option maxHeartbeats 400000 in
theorem newReader_any (s : ByteArray) (w : World) :
 Calls Tryz.prog 32 #[.string s] w fun e w' => e = .returned (.pointer (some ⟨w.heap.size, 0, none⟩)) ∧ w' = w.alloc (.cells #[.string s, .int .i64 0, .int .i64 (-1)] 78) := by
 go_enter Tryz.func32, Tryz.ntmps32
 go_wp2; go_ret; exact ⟨rfl, rfl⟩
def GotLogO (N : Nat) (gs : List GC) (n : Nat) (e : Ending) (w' : World) : Prop := ∃ (v : Value) (S : Nat → Prop), e = .returned (.tuple #[v, .int .i64 n]) ∧ ChangesO S w' v gs ∧ ∀ b, S b → N ≤ b
structure LogV (w0 : World) (lb sb D : Nat) (pre : List LE) (v : Value) (S : Nat → Prop) (q : Nat) (W : World) : Prop where
 fl : Blk W lb 24 #[v]
 fs : Blk W sb 3 #[.int .i64 q]
 fo : OwnO kChangeO (D + 2) 32 S W v (pre.map (·.g))
 fS : ∀ b, S b → D + 2 ≤ b ∧ b < W.heap.size
 fq : q = (pre.map (·.n)).sum
 fq2 : q ≤ pre.length * 400000
 fx : Ext w0 W
def LogI (w0 : World) (lb sb D : Nat) (pre : List LE) (W : World) : Prop := ∃ (v : Value) (S : Nat → Prop) (q : Nat), LogV w0 lb sb D pre v S q W
section
variable {w0 : World} {lb sb rb D : Nat} {pre : List LE} {A B : World} {v : Value} {S : Nat → Prop} {q : Nat}
theorem LogV.turned (h : LogV w0 lb sb D pre v S q A) (ht : Turned D A B) (h1 : lb < D) (h2 : sb < D) (h3 : w0.heap.size ≤ D) : LogV w0 lb sb D pre v S q B :=
 ⟨(ht.block _ h.fl.lt (by omega) (by omega)).trans h.fl, (ht.block _ h.fs.lt (by omega) (by omega)).trans h.fs,
   h.fo.agree (fun b hb hlt => ht.block b hlt (by have := h.fS b hb; omega) (by have := h.fS b hb; omega)) (fun g hg => ht.block g (h.fo.at_ g hg).2 (by have := (h.fo.at_ g hg).1; omega) (by have := (h.fo.at_ g hg).1; omega)) ht.size,
   fun b hb => ⟨(h.fS b hb).1, Nat.lt_of_lt_of_le (h.fS b hb).2 ht.size⟩, h.fq, h.fq2,
   ⟨ht.os.trans h.fx.os, ht.tape.trans h.fx.tape, ht.output.trans h.fx.output, Nat.le_trans h.fx.size ht.size, fun b hb => (ht.block b (Nat.lt_of_lt_of_le hb h.fx.size) (by omega) (by omega)).trans (h.fx.block b hb)⟩⟩
theorem LogV.step (h : LogV w0 lb sb D pre v S q A) (ht : Inside (fun i => i = rb) A B) (h1 : lb ≠ rb) (h2 : sb ≠ rb) (h3 : rb < D) (h4 : w0.heap.size ≤ rb) : LogV w0 lb sb D pre v S q B :=
 ⟨(ht.block _ h.fl.lt h1).trans h.fl, (ht.block _ h.fs.lt h2).trans h.fs,
   h.fo.agree (fun b hb hlt => ht.block b hlt (fun e => by have := h.fS b hb; omega)) (fun g hg => ht.block g (h.fo.at_ g hg).2 (fun e => by have := (h.fo.at_ g hg).1; omega)) ht.size,
   fun b hb => ⟨(h.fS b hb).1, Nat.lt_of_lt_of_le (h.fS b hb).2 ht.size⟩, h.fq, h.fq2, ht.toExt h.fx (fun i hi => by omega)⟩
theorem LogV.ext (h : LogV w0 lb sb D pre v S q A) (he : Ext A B) : LogV w0 lb sb D pre v S q B :=
 ⟨h.fl.ext he, h.fs.ext he, h.fo.ext he, fun b hb => ⟨(h.fS b hb).1, Nat.lt_of_lt_of_le (h.fS b hb).2 he.size⟩, h.fq, h.fq2, h.fx.trans' he⟩
end
theorem OwnO.cells {α : Type} {k : Kind α} {S : Nat → Prop} {w : World} {v : Value} {xs : List α} {base : Nat} {e : TypeId} (h : OwnO k base e S w v xs) : ∀ (g : Nat) (o : Obj), v.ownBlock = some g → w.heap[g]? = some o → o.isCells = true := by
 intro g o hg ho; obtain ⟨rows, F, h1, _⟩ := h
 rcases h1.2 with ⟨rfl, _⟩ | ⟨g', cap, cur, rfl, _, hc, _⟩
 · simp [Value.ownBlock] at hg
 simp only [Value.ownBlock] at hg
 injection hg with hg
 subst hg; rw [hc] at ho
 injection ho with ho
 subst ho
 rfl
set_option maxRecDepth 100000 in
set_option maxHeartbeats 4000000 in
theorem logGet_any (s : ByteArray) (T : TypeId) (y : Value) (w : World) (hs : s.size ≤ 4194304) (hm : MaxIs w) (he : EofIs w T y) (htab : Lib.TabIs Tryz.prog w "internal/strconv.uint64pow10" .u64 Lib.pow10Tab) :
 Calls Tryz.prog 8 #[.string s] w fun e w' => GotLogO w.heap.size (logGetL s.data.toList).1 (logGetL s.data.toList).2 e w' ∧ Ext w w' := by
 by_cases hbig : 400000 < s.size
 · have HN := Lib.hid (show logGetL s.data.toList = ([], 0) from by unfold logGetL; rw [if_pos (by simpa using hbig)])
   clear hm he htab
   go_enter Tryz.func8, Tryz.ntmps8
   go_wp2; refine bodyPost_ret (v := .tuple #[.slice none 0 0, .int .i64 0]) (by simp [results, Tryz.results8, go_sem]) rfl ⟨?_, Ext.refl _⟩; rw [HN.out]; exact ⟨_, fun _ => False, rfl, SliceO.nil 0 (Nat.zero_le _) none, fun _ h => h.elim⟩
 have hs4 : s.size ≤ 400000 := by omega
 have HN := Lib.hid (show logGetL s.data.toList = logRest 0 s.data.toList from by unfold logGetL; rw [if_neg (by simpa using hbig)]; rfl); have HM := Lib.hid hm; have HE := Lib.hid he; have HT := Lib.hid htab; obtain ⟨i0, hi0, hz0, hz1, hz2⟩ := info_parts change_info; clear hm he htab hs; refine (callsIn_wide (n := 5)).1 ?_; refine callsIn_of_wp_marks Tryz.func8 rfl trivial ?_ rfl; simp only [Tryz.ntmps8, List.size_toArray, List.length_cons, List.length_nil, Nat.reduceAdd, Nat.reduceSub, Array.replicate_succ, Array.replicate_zero, List.push_toArray, List.append_toArray, List.nil_append, List.cons_append]
 gi_wp2_with (first
  | (refine ⟨trivial, ?_⟩; gi_at_call 32; refine (callsIn_wide.2 (newReader_any s _)).mono ?_; rintro e w1 ⟨rfl, rfl⟩)
  | (refine ⟨trivial, ?_⟩; gi_at_call 33; refine (callsIn_wide.2 (records_any _ _)).mono ?_; rintro e w3 ⟨rfl, rfl⟩))
 obtain ⟨W0, hW0⟩ : ∃ W0, W0 = (((((w.alloc (.cells #[.string s, .int .i64 0, .int .i64 (-1)] 78)).alloc (.cells #[.string s, .int .i64 0, .int .i64 (-1)] 82)).alloc (.cells #[.slice none 0 0] 24)).alloc (.cells #[.int .i64 0] 3)).alloc (.cells #[.pointer (some ⟨w.heap.size + 1, 0, none⟩)] 76)) := ⟨_, rfl⟩
 rw [← hW0]
 have hD1 : w.heap.size + 5 ≤ W0.heap.size := by rw [hW0]; simp only [World.size_alloc]; omega
 have hD2 : W0.heap.size ≤ w.heap.size + 5 := by rw [hW0]; simp only [World.size_alloc]; omega
 have hrb : Blk W0 (w.heap.size + 1) 82 #[.string s, .int .i64 (0 : Nat), .int .i64 (-1)] := by
  rw [hW0]; have h := Blk.new (w.alloc (.cells #[.string s, .int .i64 0, .int .i64 (-1)] 78)) 82 #[.string s, .int .i64 0, .int .i64 (-1)]; rw [World.size_alloc] at h; exact ((h.alloc _).alloc _).alloc _
 have hlb : Blk W0 (w.heap.size + 1 + 1) 24 #[.slice none 0 0] := by
  rw [hW0]; have h := Blk.new ((w.alloc (.cells #[.string s, .int .i64 0, .int .i64 (-1)] 78)).alloc (.cells #[.string s, .int .i64 0, .int .i64 (-1)] 82)) 24 #[.slice none 0 0]; rw [World.size_alloc, World.size_alloc] at h; exact (h.alloc _).alloc _
 have hsb : Blk W0 (w.heap.size + 1 + 1 + 1) 3 #[.int .i64 (0 : Nat)] := by
  rw [hW0]; have h := Blk.new (((w.alloc (.cells #[.string s, .int .i64 0, .int .i64 (-1)] 78)).alloc (.cells #[.string s, .int .i64 0, .int .i64 (-1)] 82)).alloc (.cells #[.slice none 0 0] 24)) 3 #[.int .i64 0]; rw [World.size_alloc, World.size_alloc, World.size_alloc] at h; exact h.alloc _
 have hpb : W0.cell? ⟨w.heap.size + 1 + 1 + 1 + 1, 0, none⟩ = some (.pointer (some ⟨w.heap.size + 1, 0, none⟩)) := by
  rw [hW0]; have h := Blk.new ((((w.alloc (.cells #[.string s, .int .i64 0, .int .i64 (-1)] 78)).alloc (.cells #[.string s, .int .i64 0, .int .i64 (-1)] 82)).alloc (.cells #[.slice none 0 0] 24)).alloc (.cells #[.int .i64 0] 3)) 76 #[.pointer (some ⟨w.heap.size + 1, 0, none⟩)]; rw [World.size_alloc, World.size_alloc, World.size_alloc, World.size_alloc] at h; exact h.cell 0
 have hx0 : Ext w W0 := by rw [hW0]; exact (((((Ext.refl w).alloc _).alloc _).alloc _).alloc _).alloc _
 clear hW0
 refine wpIn_range_steps (F := Fence.wide) (α := LE) rfl (by omega) (gf := 88) (lb := #[.pointer (some ⟨w.heap.size + 1 + 1 + 1 + 1, 0, none⟩)]) rfl trivial (enters_of Tryz.func88 (by kernel_rfl) rfl)
  (records1_steps 4 (by omega) s (w.heap.size + 1) (w.heap.size + 1 + 1 + 1 + 1) 82 T y (-1) w W0 hs4 hrb hpb (by omega) (by omega) (by omega) hx0 HE.out HM.out HT.out)
  (fun A B l o hs hl ho _ => (hs.block l (Array.getElem?_eq_some_iff.1 ho).1 (fun e => by omega)).trans ho)
  Inside.trans' (fun W l o o' hl ho _ _ => ⟨rfl, rfl, rfl, by simp, fun b hb hn => World.putObj_heap_other (fun e => hn (fun hR => by omega))⟩)
  (Below.refl _ _) (fun _ => rfl) (LogI w (w.heap.size + 1 + 1) (w.heap.size + 1 + 1 + 1) W0.heap.size)
  (fun pre A B ⟨v, S, q, h⟩ ht => ⟨v, S, q, h.turned ht (by omega) (by omega) (by omega)⟩) (fun pre A B ⟨v, S, q, h⟩ ht => ⟨v, S, q, h.step ht (by omega) (by omega) (by omega) (by omega)⟩)
  ⟨_, fun _ => False, 0, hlb, hsb, OwnO.nil, fun _ h => h.elim, rfl, Nat.zero_le _, hx0⟩ ?a1 ?g ?hgs ?hgk ?assign ?body ?done
 case assign =>
  intro x W K hK; simp only [encLE]
  gi_wp2
  exact hK
 case hgs => exact fun x W => KeepsOthers.alloc _ _
 case hgk => exact fun x W => Inside.of_ext ((Ext.refl _).alloc _)
 case body =>
  rintro pre x W1 W2 o' ⟨v, S, q, hI⟩ hst ⟨S3, T3, hv, hu, hS3, hT3, hd3, hn3⟩ hlen hlt1 hlt2 ⟨o, ho, hoc⟩; have hz := hst.size
  have hlow : ∀ b, S b → b < W1.heap.size := fun b hb => (hI.fS b hb).2
  have hown : ∀ g, v.ownBlock = some g → g < W1.heap.size := fun g hg => (hI.fo.at_ g hg).2
  obtain ⟨Wb, hWb⟩ : ∃ Wb, Wb = (W2.alloc (.cells #[.slice x.A x.an x.ac, .slice x.B x.bn x.bc] 32)).putObj (W0.heap.size + 1) o' := ⟨_, rfl⟩
  have hzb1 : W2.heap.size + 1 ≤ Wb.heap.size := by rw [hWb]; simp
  have hzb2 : Wb.heap.size ≤ W2.heap.size + 1 := by rw [hWb]; simp
  have hT : Turned W0.heap.size (W2.alloc (.cells #[.slice x.A x.an x.ac, .slice x.B x.bn x.bc] 32)) Wb := by rw [hWb]; exact Turned.putObj _ _ (.inr rfl)
  have hIb := ((hI.step hst (by omega) (by omega) (by omega) (by omega)).ext ((Ext.refl _).alloc (.cells #[.slice x.A x.an x.ac, .slice x.B x.bn x.bc] 32))).turned hT (by omega) (by omega) (by omega); have hvb : AtomsO S3 Wb (.slice x.A x.an x.ac) x.g.comes := SliceO.imp (SliceO.ext hv ((Ext.refl _).alloc _)) (fun _ h _ => h) (fun b hb hlt => hT.block b hlt (by have := hS3 b hb; omega) (by have := hS3 b hb; omega)) hT.size; have hub : AtomsO T3 Wb (.slice x.B x.bn x.bc) x.g.goes := SliceO.imp (SliceO.ext hu ((Ext.refl _).alloc _)) (fun _ h _ => h) (fun b hb hlt => hT.block b hlt (by have := hT3 b hb; omega) (by have := hT3 b hb; omega)) hT.size; have hcb : Blk Wb W2.heap.size 32 #[.slice x.A x.an x.ac, .slice x.B x.bn x.bc] := (hT.block _ (by simp) (by omega) (by omega)).trans (Blk.new _ _ _); rw [← hWb]; have HT := Lib.hid hT; have HIB := Lib.hid hIb; have HVB := Lib.hid hvb; have HUB := Lib.hid hub; obtain ⟨A, n, c, rfl, hn, ha1, ha2⟩ := hIb.fo.form2; have c0 := hIb.fl.cell 0; have c1 := hIb.fs.cell 0; have c2 := hcb.cell 0; have c3 := hcb.cell 1
  have hq3 : (q : Int) + (x.n : Int) ≤ 40000800000 := by have := hIb.fq2; omega
  have hl1 := hIb.fl.lt; have hl2 := hIb.fs.lt; have hl3 := hcb.lt; have f0 := hIb.fl.frozen 0; have f1 := hIb.fs.frozen 0; clear hWb hT hIb hvb hub hv hu hst hI ho hoc
  gi_wp2_with (first
   | (gi_at_builtin; refine wpListIn_appO (k := kChangeO) (S := S) (S' := fun b => S b ∨ (W1.heap.size ≤ b ∧ b < W2.heap.size)) (T := fun b => S3 b ∨ T3 b) (base := W0.heap.size + 2) (xs := pre.map (·.g)) rfl (.tmp 22) (.tmp 24) 24 (by rfl) i0 _ 48 Tryz.underlying24 hi0 hz0 hz1 hz2 (by rfl) (by rfl)
        (HIB.out.fo.ext ((Ext.refl _).alloc _)) Wb.heap.size (by rfl) [.slice x.A x.an x.ac, .slice x.B x.bn x.bc] x.g 32 ⟨_, _, S3, T3, rfl, SliceO.ext HVB.out ((Ext.refl _).alloc _), SliceO.ext HUB.out ((Ext.refl _).alloc _), fun _ h => .inl h, fun _ h => .inr h, hd3⟩ (Blk.new Wb 32 #[.slice x.A x.an x.ac, .slice x.B x.bn x.bc])
        (fun b hb _ => .inr (hb.elim (hS3 b) (hT3 b))) (fun b hb => .inl hb) (fun b hb hs => absurd (hb.elim (hS3 b) (hT3 b)).1 (Nat.not_le.2 (hlow b hs))) (fun g hg hb => absurd (hb.elim (hS3 g) (hT3 g)).1 (Nat.not_le.2 (hown g hg))) (maxOf (by simp; omega)) (by simp; omega) (by go_size) ?_
      intro v5 w5 hap; obtain ⟨A5, n5, c5, rfl, hn5, ha5, hb5⟩ := hap.own.form2; have HAP := Lib.hid hap
      have hl5 := ((HIB.out.fl.alloc (.cells #[.slice x.A x.an x.ac, .slice x.B x.bn x.bc] 32)).below hap.below (by omega))
      have hs5 := ((HIB.out.fs.alloc (.cells #[.slice x.A x.an x.ac, .slice x.B x.bn x.bc] 32)).below hap.below (by omega))
      have p0 := hl5.cell 0; have p1 := hs5.cell 0; have g0 := hl5.frozen 0; have g1 := hs5.frozen 0; have hz5 := hap.grown.size; have HL5 := Lib.hid hl5; have HS5 := Lib.hid hs5
      clear hap hl5 hs5))
  have hlbD : w.heap.size + 1 + 1 < W0.heap.size + 2 := by omega
  have hsbD : w.heap.size + 1 + 1 + 1 < W0.heap.size + 2 := by omega
  have hbel := HAP.out.below
  have hS5 : ∀ b, (S b ∨ (W1.heap.size ≤ b ∧ b < W2.heap.size)) → W0.heap.size + 2 ≤ b ∧ b < w5.heap.size := fun b hb => by
   rcases hb with hb | hb
   · have := HIB.out.fS b hb
     simp only [World.size_alloc] at hz5; omega
   simp only [World.size_alloc] at hz5; omega
  refine ⟨(((KeepsOthers.alloc Wb _).trans (KeepsOthers.of_grownBy HAP.out.grown (fun j o h1 h2 => OwnO.cells (HIB.out.fo.ext ((Ext.refl _).alloc _)) j o h1 h2))).trans (KeepsOthers.setCell _ _ _)).trans (KeepsOthers.setCell _ _ _),
   (((Inside.of_ext ((Ext.refl Wb).alloc _)).trans' ⟨hbel.os, hbel.tape, hbel.output, hbel.size, fun b _ hn => hbel.block b (Classical.byContradiction fun h => hn (fun hR => h (by omega)))⟩).trans' (Inside.set _ _ _ (show ¬ _ from fun h => by simp only at h; omega))).trans' (Inside.set _ _ _ (show ¬ _ from fun h => by simp only at h; omega)),
   .slice A5 n5 c5, fun b => S b ∨ (W1.heap.size ≤ b ∧ b < W2.heap.size), q + x.n, ?_, ?_, ?_, ?_, ?_, ?_, ?_⟩
  · simpa using (HL5.out.set_ 0 (.slice A5 n5 c5)).far (p := ⟨w.heap.size + 1 + 1 + 1, 0, none⟩) (by simp) (.int .i64 ((q : Int) + (x.n : Int)))
  · simpa using (HS5.out.far (p := ⟨w.heap.size + 1 + 1, 0, none⟩) (by simp) (.slice A5 n5 c5)).set_ 0 (.int .i64 ((q : Int) + (x.n : Int)))
  · rw [List.map_append]
    refine HAP.out.own.agree (((Agree.refl _ _).setCell (fun hb => ?_) _).setCell (fun hb => ?_) _) (fun g hg => ?_) (by go_size)
    · have := (hS5 _ hb).1; simp only at this; omega
    · have := (hS5 _ hb).1; simp only at this; omega
    have := (HAP.out.own.at_ g hg).1; exact (Below.heap_setCell _ _ _ _ (by simp only; omega)).trans (Below.heap_setCell _ _ _ _ (by simp only; omega))
  · intro b hb
    have := hS5 b hb; exact ⟨this.1, by go_size⟩
  · rw [List.map_append, List.sum_append, HIB.out.fq]; simp
  · have := HIB.out.fq2
    rw [List.length_append, Nat.add_mul]; simp only [List.length_cons, List.length_nil]; omega
  exact Ext.setNew (Ext.setNew (HAP.out.toExt (HIB.out.fx.alloc _) (by omega)) (by simp only; omega) _) (by simp only; omega) _
 case done =>
  rintro xs W ⟨h1, h2⟩ ⟨v, S, q, hI⟩ hK; obtain ⟨A, n, c, rfl, hn, ha1, ha2⟩ := hI.fo.form2; have c0 := hI.fl.cell 0; have c1 := hI.fs.cell 0; have HI := Lib.hid hI; have HH := Lib.hid h1; have HH2 := Lib.hid h2; clear hI h1 h2
  gi_wp2
  refine wpIn_wide.2 ?_
  go_quiet (fail)
  gi_wp2
  have hK' : (W.drewN nq).heap[W0.heap.size]? = some (.deferred (some [])) := hK; have hF := (HI.out.ext ((Ext.refl W).drewN nq)).turned (Turned.putObj (D := W0.heap.size) (l := W0.heap.size) (W.drewN nq) (.deferred none) (.inl rfl)) (by omega) (by omega) (by omega); refine ⟨by simp, .inl ⟨_, _, rfl, run_takeDeferred hK', ?_⟩⟩; refine ⟨.tuple #[.slice A n c, .int .i64 q], by simp [results, Tryz.results8, go_sem], ?_, hF.fx⟩; rw [HN.out, ← HH.out, ← HH2.out, ← HI.out.fq]; exact ⟨_, From w.heap.size, rfl, hF.fo.slice (fun b hb => by have := (hF.fS b hb).1; show w.heap.size ≤ b; omega) (fun b hb => by show w.heap.size ≤ b; omega), fun b hb => hb⟩
end Go.Proofs.YtmihponoillihaaGreatDoor
namespace Go.Proofs.YtmihponoillihaaGreatDoor
open Go.RowKit
set_option maxRecDepth 100000 in
set_option maxHeartbeats 1000000 in
theorem fsAtom_same (a : GA) (v u : Value) (w : World) {S T : Nat → Prop} (hv : TermsR S w v a.args) (hu : TermsR T w u a.args) :
 Calls Tryz.prog 71 #[.agg #[.string a.n, v], .agg #[.string a.n, u]] w fun e w' => e = .returned (.bool true) ∧ Ext w w' := by
 obtain ⟨A, c, rfl, hc1, hc2⟩ := SliceR.form hv; obtain ⟨B, d, rfl, hd1, hd2⟩ := SliceR.form hu
 obtain ⟨W, hW⟩ : ∃ W, W = (w.alloc (.cells #[.string a.n, .slice A a.args.length c] 54)).alloc (.cells #[.string a.n, .slice B a.args.length d] 54) := ⟨_, rfl⟩
 have hB1 : Blk W w.heap.size 54 #[.string a.n, .slice A a.args.length c] := by rw [hW]; exact (Blk.new _ _ _).alloc _
 have hB2 : Blk W (w.heap.size + 1) 54 #[.string a.n, .slice B a.args.length d] := by
  have h := Blk.new (w.alloc (.cells #[.string a.n, .slice A a.args.length c] 54)) 54 #[.string a.n, .slice B a.args.length d]; rw [World.size_alloc] at h; rw [hW]; exact h
 have HX := Lib.hid (show Ext w W from by rw [hW]; exact ((Ext.refl _).alloc _).alloc _); have HB1 := Lib.hid hB1; have HB2 := Lib.hid hB2; have HV := Lib.hid (hv.ext HX.out); have HU := Lib.hid (hu.ext HX.out); have hl1 := hB1.lt; have hl2 := hB2.lt; clear hv hu hB1 hB2
 go_enter Tryz.func71, Tryz.ntmps71
 go_wp2; rw [← hW]; clear hW
 go_loopw [5] (fun i wr => ∃ k : Nat, k ≤ a.args.length ∧ i = .int .i64 k ∧ Ext W wr) (fun i _ => a.args.length - (intOf i).toNat)
 case atStart => exact ⟨0, Nat.zero_le _, rfl, Ext.refl _⟩
 case round =>
  obtain ⟨k, hk, rfl, hx⟩ := hrel; have q1 := (HB1.out.ext hx).cell 1; have q3 := (HB2.out.ext hx).cell 1
  by_cases hlt : k < a.args.length
  · obtain ⟨b, off, x, rfl, hb, hxk, hxs, hc0, hc1⟩ := TermsR.at_ (HV.out.ext hx) hlt
    obtain ⟨b', off', x', rfl, hb', hxk', hxs', hc0', hc1'⟩ := TermsR.at_ (HU.out.ext hx) hlt; obtain rfl : x = x' := Option.some.inj (hxk.symm.trans hxk'); clear hxk hxk'; have hk0 : (0 : Int) ≤ (k : Int) := Int.natCast_nonneg _
    have hk1 : (k : Int) < (a.args.length : Int) := by omega
    go_wp2_with fail
    go_quiet (fail)
    go_wp2
    go_roundw
    case rel => exact ⟨k + 1, by omega, by go_num, hx.drewN _⟩
    case measure => simp [intOf]; omega
  go_wp2; go_ret; exact ⟨rfl, HX.out.trans' hx⟩
set_option maxRecDepth 100000 in
set_option maxHeartbeats 1000000 in
theorem fsSame_same (v u : Value) (xs : List GA) (w : World) {S T : Nat → Prop} (hv : AtomsR S w v xs) (hu : AtomsR T w u xs) :
 Calls Tryz.prog 42 #[v, u] w fun e w' => e = .returned (.bool true) ∧ Ext w w' := by
 obtain ⟨A, c, rfl, hc1, hc2⟩ := SliceR.form hv; obtain ⟨B, d, rfl, hd1, hd2⟩ := SliceR.form hu; have HV := Lib.hid hv; have HU := Lib.hid hu; clear hv hu
 go_enter Tryz.func42, Tryz.ntmps42
 go_wp2
 go_loopw [5] (fun i wr => ∃ k : Nat, k ≤ xs.length ∧ i = .int .i64 k ∧ Ext w wr) (fun i _ => xs.length - (intOf i).toNat)
 case atStart => exact ⟨0, Nat.zero_le _, rfl, Ext.refl _⟩
 case round =>
  obtain ⟨k, hk, rfl, hx⟩ := hrel
  by_cases hlt : k < xs.length
  · obtain ⟨b, off, x, v1, rfl, hb, hxk, hxs, ht1, hc0, hc1⟩ := AtomsR.at_ (HV.out.ext hx) hlt
    obtain ⟨b', off', x', v2, rfl, hb', hxk', hxs', ht2, hc0', hc1'⟩ := AtomsR.at_ (HU.out.ext hx) hlt; obtain rfl : x = x' := Option.some.inj (hxk.symm.trans hxk'); clear hxk hxk'; have hk0 : (0 : Int) ≤ (k : Int) := Int.natCast_nonneg _
    have hk1 : (k : Int) < (xs.length : Int) := by omega
    go_wp2_with fail
    go_still_tail 8, (by kernel_rfl)
    change wpList _ _ _ _ _ wr.drew; clear hb hb' hc0 hc1 hc0' hc1'
    go_wp2_with (go_at_call 71; refine (fsAtom_same x _ _ _ ht1.drew_ ht2.drew_).mono ?_; rintro e w1 ⟨rfl, hx1⟩)
    go_roundw
    case rel => exact ⟨k + 1, by omega, by go_num, hx.drew.trans' hx1⟩
    case measure => simp [intOf]; omega
  go_wp2; go_ret; exact ⟨rfl, hx⟩
set_option maxHeartbeats 1000000 in
theorem fsChange_same (a : GC) (v1 u1 v2 u2 : Value) (w : World) {S T S' T' : Nat → Prop} (hv1 : AtomsR S w v1 a.comes) (hu1 : AtomsR T w u1 a.goes) (hv2 : AtomsR S' w v2 a.comes) (hu2 : AtomsR T' w u2 a.goes) :
 Calls Tryz.prog 13 #[.agg #[v1, u1], .agg #[v2, u2]] w fun e w' => e = .returned (.bool true) ∧ Ext w w' := by
 obtain ⟨A1, c1, rfl, hc1, hc1'⟩ := SliceR.form hv1; obtain ⟨B1, d1, rfl, hd1, hd1'⟩ := SliceR.form hu1; obtain ⟨A2, c2, rfl, hc2, hc2'⟩ := SliceR.form hv2; obtain ⟨B2, d2, rfl, hd2, hd2'⟩ := SliceR.form hu2; have HV1 := Lib.hid hv1; have HU1 := Lib.hid hu1; have HV2 := Lib.hid hv2; have HU2 := Lib.hid hu2; clear hv1 hu1 hv2 hu2
 go_enter Tryz.func13, Tryz.ntmps13
 have tok : True := trivial
 go_wp2_with (first
  | (go_at_call 42; have _t := tok; refine (fsSame_same _ _ a.comes _ (HV1.out.ext (((Ext.refl _).alloc _).alloc _)) (HV2.out.ext (((Ext.refl _).alloc _).alloc _))).mono ?_; clear tok _t; rintro e w1 ⟨rfl, hx1⟩; obtain ⟨hcc, hcf⟩ := hx1.cells)
  | (go_at_call 42; refine (fsSame_same _ _ a.goes _ (HU1.out.ext ((((Ext.refl _).alloc _).alloc _).trans' hx1)) (HU2.out.ext ((((Ext.refl _).alloc _).alloc _).trans' hx1))).mono ?_; rintro e w2 ⟨rfl, hx2⟩))
 go_ret; exact ⟨rfl, ((((Ext.refl _).alloc _).alloc _).trans' hx1).trans' hx2⟩
set_option maxRecDepth 100000 in
set_option maxHeartbeats 1000000 in
theorem fsChanges_same (v u : Value) (xs : List GC) (w : World) {S T : Nat → Prop} (hv : ChangesR S w v xs) (hu : ChangesR T w u xs) :
 Calls Tryz.prog 10 #[v, u] w fun e w' => e = .returned (.bool true) ∧ Ext w w' := by
 obtain ⟨A, c, rfl, hc1, hc2⟩ := SliceR.form hv; obtain ⟨B, d, rfl, hd1, hd2⟩ := SliceR.form hu; have HV := Lib.hid hv; have HU := Lib.hid hu; clear hv hu
 go_enter Tryz.func10, Tryz.ntmps10
 go_wp2
 go_loopw [5] (fun i wr => ∃ k : Nat, k ≤ xs.length ∧ i = .int .i64 k ∧ Ext w wr) (fun i _ => xs.length - (intOf i).toNat)
 case atStart => exact ⟨0, Nat.zero_le _, rfl, Ext.refl _⟩
 case round =>
  obtain ⟨k, hk, rfl, hx⟩ := hrel
  by_cases hlt : k < xs.length
  · obtain ⟨b, off, x, v1, u1, rfl, hb, hxk, hv1, hu1, hc0, hc1⟩ := ChangesR.at_ (ListK.ext (k := kChange) HV.out hx) hlt
    obtain ⟨b', off', x', v2, u2, rfl, hb', hxk', hv2, hu2, hc0', hc1'⟩ := ChangesR.at_ (ListK.ext (k := kChange) HU.out hx) hlt; obtain rfl : x = x' := Option.some.inj (hxk.symm.trans hxk'); clear hxk hxk'; have hk0 : (0 : Int) ≤ (k : Int) := Int.natCast_nonneg _
    have hk1 : (k : Int) < (xs.length : Int) := by omega
    go_wp2_with fail
    go_still_tail 8, (by kernel_rfl)
    change wpList _ _ _ _ _ wr.drew; clear hb hb' hc0 hc1 hc0' hc1'
    go_wp2_with (go_at_call 13; refine (fsChange_same x _ _ _ _ _ hv1.drew_ hu1.drew_ hv2.drew_ hu2.drew_).mono ?_; rintro e w1 ⟨rfl, hx1⟩)
    go_roundw
    case rel => exact ⟨k + 1, by omega, by go_num, hx.drew.trans' hx1⟩
    case measure => simp [intOf]; omega
  go_wp2; go_ret; exact ⟨rfl, hx⟩
theorem ext_take (s : ByteArray) {n : Nat} (hn : n ≤ s.size) : s.extract 0 n = strOf (s.data.toList.take n) := by
 apply ByteArray.ext
 apply Array.ext'
 rw [ByteArray.data_extract, Array.toList_extract]; show _ = List.take n s.data.toList; simp [List.extract]
def GotRead (gs : List GC) (n : Nat) (e : Ending) (w' : World) : Prop := ∃ A c, e = .returned (.tuple #[.slice A gs.length c, .int .i64 (n : Int)]) ∧ ChangesR Any w' (.slice A gs.length c) gs ∧ gs.length ≤ c ∧ c ≤ 9223372036854775807
theorem GotLogO.toR {N : Nat} {gs : List GC} {n : Nat} {e : Ending} {w' : World} (h : GotLogO N gs n e w') : GotRead gs n e w' := by
 obtain ⟨v, S, rfl, hv, _⟩ := h; have h2 := ChangesR.sub (ChangesO.read hv) (S' := Any) (fun _ _ => trivial); obtain ⟨A, c, rfl, h3, h4⟩ := SliceR.form h2; exact ⟨A, c, rfl, h2, h3, h4⟩
theorem GotLog.toR {gs : List GC} {n : Nat} {e : Ending} {w' : World} (h : GotLog gs n e w') : GotRead gs n e w' := by
 obtain ⟨v, rfl, hv⟩ := h; obtain ⟨A, c, rfl, h3, h4⟩ := SliceR.form hv; exact ⟨A, c, rfl, hv, h3, h4⟩
end Go.Proofs.YtmihponoillihaaGreatDoor
