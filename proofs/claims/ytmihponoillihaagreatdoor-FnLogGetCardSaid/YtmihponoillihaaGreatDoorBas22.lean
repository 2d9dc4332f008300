/- Part of the texts of a proof; what they say stands at each theorem. -/
import Derived.Lib.ItoaNum
import Derived.Shelf.Strings.Builder1
import Derived.Lib.OthersKept
import Derived.BigQuiet
import Derived.Laws.StructEq
import Derived.Test.YtmihponoillihaaGreatDoorBas18
import Derived.Test.YtmihponoillihaaGreatDoorBas20
import Derived.Test.YtmihponoillihaaGreatDoorBas11
import Derived.Test.YtmihponoillihaaGreatDoorBas10
import Derived.Test.YtmihponoillihaaGreatDoorBas07
import Derived.Test.YtmihponoillihaaGreatDoorBas04
set_option linter.unusedSimpArgs false
set_option linter.unusedVariables false
namespace Go.Proofs.YtmihponoillihaaGreatDoor
open Go.RowKit
theorem varsOf_mem {a : GA} {x : ByteArray} : x ∈ varsOf a ↔ ∃ t ∈ a.args, t.v = true ∧ t.n = x := by
 unfold varsOf; simp only [List.mem_map, List.mem_filter]
 constructor
 · rintro ⟨t, ⟨h1, h2⟩, h3⟩; exact ⟨t, h1, h2, h3⟩
 rintro ⟨t, h1, h2, h3⟩; exact ⟨t, ⟨h1, h2⟩, h3⟩
theorem nameOk_word {s : ByteArray} (h : nameOkB s = true) : isNo s = false := by
 unfold nameOkB lettersB inB at h; simp only [Bool.and_eq_true, decide_eq_true_eq] at h; unfold isNo
 refine decide_eq_false fun e => ?_
 have := h.1.2.1; rw [e] at this; omega
theorem varOk_word {s : ByteArray} (h : varOkB s = true) : isNo s = false := by
 unfold varOkB at h; simp only [Bool.and_eq_true] at h; unfold isNo
 refine decide_eq_false fun e => ?_
 have h1 := h.1.1; unfold capB at h1; have : s.data.toList = [] := List.eq_nil_of_length_eq_zero (by simpa using e); rw [this] at h1
 cases h1
theorem termOk_word {t : GT} (h : termOkB t = true) : isNo t.n = false := by
 unfold termOkB at h
 split at h
 · exact varOk_word h
 exact nameOk_word h
theorem atomOk_word {a : GA} (h : atomOkB a = true) : ∀ t ∈ a.args, isNo t.n = false := fun t ht => by
 unfold atomOkB at h; simp only [Bool.and_eq_true] at h; exact termOk_word (List.all_eq_true.1 h.2 t ht)
theorem fact_ok {a : GA} (h : factB a = true) : okFact a := fun t ht => by
 unfold factB at h; simp only [Bool.and_eq_true] at h; have h2 := List.all_eq_true.1 h.2 t ht; exact ⟨by simpa using h2, atomOk_word h.1 t ht⟩
end Go.Proofs.YtmihponoillihaaGreatDoor
namespace Go.Proofs.YtmihponoillihaaGreatDoor
open Go.RowKit
structure Inside (S : Nat → Prop) (w w' : World) : Prop where
 os : w'.os = w.os
 tape : w'.tape = w.tape
 output : w'.output = w.output
 size : w.heap.size ≤ w'.heap.size
 block : ∀ b, b < w.heap.size → ¬ S b → w'.heap[b]? = w.heap[b]?
section
variable {S T : Nat → Prop} {a b c : World}
theorem Inside.of_ext (h : Ext a b) : Inside S a b := ⟨h.os, h.tape, h.output, h.size, fun k hk _ => h.block k hk⟩
theorem Inside.trans' (h : Inside S a b) (k : Inside S b c) : Inside S a c :=
 ⟨k.os.trans h.os, k.tape.trans h.tape, k.output.trans h.output, Nat.le_trans h.size k.size, fun i hi hn => (k.block i (Nat.lt_of_lt_of_le hi h.size) hn).trans (h.block i hi hn)⟩
theorem Inside.set (w : World) (p : Addr) (u : Value) (h : S p.block) : Inside S w (w.setCell p u) :=
 ⟨rfl, rfl, rfl, by simp [World.setCell], fun k _ hn => Below.heap_setCell w p u k (fun e => hn (e ▸ h))⟩
theorem Inside.toExt (h : Inside S b c) (hx : Ext a b) (hS : ∀ i, S i → a.heap.size ≤ i) : Ext a c :=
 ⟨h.os.trans hx.os, h.tape.trans hx.tape, h.output.trans hx.output, Nat.le_trans hx.size h.size, fun k hk => (h.block k (Nat.lt_of_lt_of_le hk hx.size) (fun hs => absurd (hS k hs) (Nat.not_le.2 hk))).trans (hx.block k hk)⟩
theorem Inside.blk {g : Nat} {t : TypeId} {cs : Array Value} (h : Inside S a b) (hb : Blk a g t cs) (hg : ¬ S g) : Blk b g t cs := (h.block g hb.lt hg).trans hb
end
end Go.Proofs.YtmihponoillihaaGreatDoor
namespace Go.Proofs.YtmihponoillihaaGreatDoor
open Go.RowKit
def GS.num (s : GS) : Int := match s.v with
 | none => -1
 | some v => (v : Int)
end Go.Proofs.YtmihponoillihaaGreatDoor
namespace Go.Proofs.YtmihponoillihaaGreatDoor
open Go.RowKit
abbrev BuilderAt (B b : Nat) (p : Value) (l : List UInt8) (w : World) : Prop := Lib.BuilderAt 144 5 B b p (Lib.byteCells l) w
def Builds (B b : Nat) (l : List UInt8) (w : World) : Prop := Lib.IsBuilder 144 5 B b (Lib.byteCells l) w
abbrev Kept (b : Nat) (w w' : World) : Prop := Lib.OthersKept 5 (some b) w w'
theorem builder_size : (Tryz.prog.info? 144).map (·.size) = some 2 := by kernel_rfl
theorem builder_lies : liesAt Tryz.prog Tryz.prog.depth 144 (2 / Tryz.prog.cellsOf 144) 0 144 1 = true := by kernel_rfl
theorem byte_info : (Tryz.prog.info? 5).map (fun i => (i.zero, i.size, i.bytes)) = some (some (.int .u8 0), 1, 1) := by kernel_rfl
theorem row_block {w : World} {base e size n : Nat} {v : Value} {xs : List Value} {g : Nat} (h : w.ownsRow base e size v n xs) (hg : v.ownBlock = some g) : ∃ c fz, w.heap[g]? = some (.cells c e fz) := by
 rcases h.2 with ⟨rfl, _⟩ | ⟨g', cap, cur, rfl, _, hh, _⟩
 · simp [Value.ownBlock] at hg
 simp only [Value.ownBlock, Option.some.injEq] at hg; subst hg; exact ⟨_, _, hh⟩
theorem bytes_append (l m : List UInt8) : Lib.byteCells l ++ Lib.byteCells m = Lib.byteCells (l ++ m) := by simp [Lib.byteCells]
set_option maxHeartbeats 1000000 in
set_option maxRecDepth 100000 in
theorem copyCheck_used (b : Nat) (w : World) (h0 : w.cell? ⟨b, 0, none⟩ = some (.pointer (some ⟨b, 0, none⟩))) :
 Calls Tryz.prog 161 #[.pointer (some ⟨b, 0, none⟩)] w fun e w' => e = .returned (.tuple #[]) ∧ w' = w := by
 obtain ⟨j, hj, _⟩ := Option.map_eq_some_iff.1 builder_size
 go_enter Tryz.func161, Tryz.ntmps161
 go_wp2; rw [Lib.run_neq_ptr_same w _ Tryz.underlying142 hj]; go_wp2
 go_end0
 exact ⟨rfl, rfl⟩
set_option maxHeartbeats 1000000 in
set_option maxRecDepth 100000 in
theorem copyCheck_fresh (b : Nat) (w : World) (h0 : w.cell? ⟨b, 0, none⟩ = some (.pointer none)) (hsh : w.shape? b = some (144, 2)) (hfz : w.frozen? ⟨b, 0, none⟩ = false) :
 Calls Tryz.prog 161 #[.pointer (some ⟨b, 0, none⟩)] w fun e w' => e = .returned (.tuple #[]) ∧ w' = w.setCell ⟨b, 0, none⟩ (.pointer (some ⟨b, 0, none⟩)) := by
 obtain ⟨j, hj, hjs⟩ := Option.map_eq_some_iff.1 builder_size
 go_enter Tryz.func161, Tryz.ntmps161
 go_wp2; rw [Lib.run_to_unsafe w ⟨b, 0, none⟩ Tryz.underlying142 Tryz.underlying274 hj (by rw [hjs]; decide) hsh (Nat.zero_lt_succ 1)]; simp only [Result.andThen]; rw [Oper.upon_value]; go_wp2; rw [run_callFunc_extern Tryz.func218 (by kernel_rfl) (by kernel_rfl) (by kernel_rfl) (e := Extern.AbiNoEscape.same) (by kernel_rfl)]; rw [Lib.run_noEscape]; simp only [Result.andThen]; rw [Oper.upon_value]; go_wp2; rw [Lib.run_from_unsafe w ⟨b, 0, none⟩ Tryz.underlying274 Tryz.underlying142 hj hsh builder_lies]; simp only [Result.andThen]; rw [Oper.upon_value]; go_wp2
 go_end0
 exact ⟨rfl, rfl⟩
theorem copyCheck_any (B b : Nat) (l : List UInt8) (w : World) (h : Builds B b l w) :
 Calls Tryz.prog 161 #[.pointer (some ⟨b, 0, none⟩)] w fun e w' => e = .returned (.tuple #[]) ∧ (BuilderAt B b (.pointer (some ⟨b, 0, none⟩)) l w' ∧ Below B w w' ∧ Kept b w w') := by
 rcases h with h | h
 · refine (copyCheck_fresh b w h.cell0 h.shape h.frozen0).mono ?_
   rintro e w' ⟨rfl, rfl⟩; exact ⟨rfl, h.used _, (Below.refl B w).setCell (p := ⟨b, 0, none⟩) h.1 _, (Lib.OthersKept.refl _ _ w).setCell ⟨b, 0, none⟩ rfl _⟩
 refine (copyCheck_used b w h.cell0).mono ?_; rintro e w' ⟨rfl, rfl⟩; exact ⟨rfl, h, Below.refl B _, Lib.OthersKept.refl _ _ _⟩
set_option maxHeartbeats 2000000 in
set_option maxRecDepth 100000 in
theorem writeByte_any (B b : Nat) (l : List UInt8) (c : UInt8) (w : World) (h : Builds B b l w) (hlen : l.length + 1 ≤ 140737488355328) (hBw : B ≤ w.heap.size) :
 Calls Tryz.prog 153 #[.pointer (some ⟨b, 0, none⟩), .int .u8 c.toNat] w fun e w' => e = .returned .nilIface ∧ (Builds B b (l ++ [c]) w' ∧ Below B w w' ∧ Kept b w w') := by
 obtain ⟨i0, hi, hz0, hz1, hz2⟩ := info_parts byte_info
 go_enter Tryz.func153, Tryz.ntmps153
 go_wp2_with (go_at_call 161; refine (copyCheck_any B b l _ h).mono ?_)
 rintro e w1 ⟨rfl, h1, hb1, hk1⟩; obtain ⟨hB, v, hbk, hown, hne⟩ := h1
 have c0 : w1.cell? ⟨b, 0, none⟩ = some (.pointer (some ⟨b, 0, none⟩)) := by rw [Lib.cell_of_heap hbk]; rfl
 have c1 : w1.cell? ⟨b, 1, none⟩ = some v := by rw [Lib.cell_of_heap hbk]; rfl
 have hl : (Lib.byteCells l).length = l.length := Lib.byteCells_length l
 go_wp2_with (at_builtin; refine wpList_append_own _ rfl _ _ 22 rfl B 5 i0 (.int .u8 0) 1 1 Tryz.underlying22 hi hz0 hz1 hz2 rfl (by decide) _ _ _ rfl (hown.alloc _) ⟨w1.heap.size, 0, none⟩ 1 1 [.int .u8 c.toNat] rfl rfl ?c1 ?c2 ?c3 ?c4 ?c5 ?_)
 case c1 =>
  intro j u hj
  match j, hj with
  | 0, hj => simp at hj; subst hj; simp [Addr.add]
 case c2 => intro u hu; simp at hu; subst hu; rfl
 case c3 => unfold maxLen; omega
 case c4 => omega
 case c5 => have := hb1.size; simp; omega
 intro v' w2 hown' hgrow _
 have hlt : b < w1.heap.size := by
  rcases Nat.lt_or_ge b w1.heap.size with h' | h'
  · exact h'
  simp [Array.getElem?_eq_none h'] at hbk
 have hb2 : w2.heap[b]? = some (.cells #[.pointer (some ⟨b, 0, none⟩), v] 144 (0, 0)) := by
  rw [hgrow.block b (by simp; omega) (fun e => hne e.symm), Lib.alloc_old w1 _ b hlt]; exact hbk
 have d0 : w2.cell? ⟨b, 0, none⟩ = some (.pointer (some ⟨b, 0, none⟩)) := by rw [Lib.cell_of_heap hb2]; rfl
 have d1 : w2.cell? ⟨b, 1, none⟩ = some v := by rw [Lib.cell_of_heap hb2]; rfl
 have f1 : w2.frozen? ⟨b, 1, none⟩ = false := Lib.frozen_of_heap hb2 1
 obtain ⟨g, cap, rfl⟩ : ∃ g cap, v' = .slice (some ⟨g, 0, none⟩) (l.length + 1) cap := by
  rcases hown'.2 with ⟨_, h0⟩ | ⟨g, cap, cur, hv, _⟩
  · omega
  exact ⟨g, cap, hv⟩
 go_wp2; go_ret; refine ⟨rfl, .inr ?_, ?_, ?_⟩
 · rw [← bytes_append]
   exact Lib.BuilderAt.put (T := 144) (e := 5) hB hb2 (bs' := Lib.byteCells l ++ Lib.byteCells [c]) (by simpa [Lib.byteCells] using hown') (by decide)
 · exact ((hb1.alloc (by have := hb1.size; omega) _).grown hgrow (by have := hb1.size; simp; omega) (fun k hk => (hown.lt k hk).1)).setCell (p := ⟨b, 1, none⟩) hB _
 exact ((hk1.alloc _).grown hgrow (fun g hg => row_block (hown.alloc _) hg)).setCell ⟨b, 1, none⟩ rfl _
set_option maxHeartbeats 2000000 in
set_option maxRecDepth 100000 in
theorem writeString_any (B b : Nat) (l : List UInt8) (s : ByteArray) (w : World) (h : Builds B b l w) (hlen : l.length + s.size ≤ 140737488355328) (hBw : B ≤ w.heap.size) :
 Calls Tryz.prog 94 #[.pointer (some ⟨b, 0, none⟩), .string s] w fun e w' => e = .returned (.tuple #[.int .i64 s.size, .nilIface]) ∧ (Builds B b (l ++ s.data.toList) w' ∧ Below B w w' ∧ Kept b w w') := by
 obtain ⟨i0, hi, hz0, hz1, hz2⟩ := info_parts byte_info
 go_enter Tryz.func94, Tryz.ntmps94
 go_wp2_with (go_at_call 161; refine (copyCheck_any B b l _ h).mono ?_)
 rintro e w1 ⟨rfl, h1, hb1, hk1⟩; obtain ⟨hB, v, hbk, hown, hne⟩ := h1
 have c0 : w1.cell? ⟨b, 0, none⟩ = some (.pointer (some ⟨b, 0, none⟩)) := by rw [Lib.cell_of_heap hbk]; rfl
 have c1 : w1.cell? ⟨b, 1, none⟩ = some v := by rw [Lib.cell_of_heap hbk]; rfl
 have hl : (Lib.byteCells l).length = l.length := Lib.byteCells_length l
 go_wp2_with (at_builtin; refine Lib.wpList_append_own_string _ rfl _ _ 22 9 rfl B 5 i0 Tryz.underlying22 Tryz.underlying9 hi hz0 hz1 hz2 _ _ _ rfl hown s rfl ?c3 ?c4 ?c5 ?_)
 case c3 => unfold maxLen; omega
 case c4 => omega
 case c5 => have := hb1.size; omega
 intro v' w2 hown' hgrow _
 have hlt : b < w1.heap.size := by
  rcases Nat.lt_or_ge b w1.heap.size with h' | h'
  · exact h'
  simp [Array.getElem?_eq_none h'] at hbk
 have hb2 : w2.heap[b]? = some (.cells #[.pointer (some ⟨b, 0, none⟩), v] 144 (0, 0)) := by
  rw [hgrow.block b hlt (fun e => hne e.symm)]; exact hbk
 have d0 : w2.cell? ⟨b, 0, none⟩ = some (.pointer (some ⟨b, 0, none⟩)) := by rw [Lib.cell_of_heap hb2]; rfl
 have d1 : w2.cell? ⟨b, 1, none⟩ = some v := by rw [Lib.cell_of_heap hb2]; rfl
 have f1 : w2.frozen? ⟨b, 1, none⟩ = false := Lib.frozen_of_heap hb2 1
 obtain ⟨ao, n', cap, rfl⟩ : ∃ ao n' cap, v' = .slice ao n' cap := by
  rcases hown'.2 with ⟨hv, _⟩ | ⟨g, cap, cur, hv, _⟩
  · exact ⟨_, _, _, hv⟩
  exact ⟨_, _, _, hv⟩
 go_wp2
 go_ret2
 refine ⟨rfl, .inr ?_, ?_, ?_⟩
 · have hs : Lib.strCells s = Lib.byteCells s.data.toList := rfl
   rw [← bytes_append, ← hs]; exact Lib.BuilderAt.put (T := 144) (e := 5) hB hb2 (bs' := Lib.byteCells l ++ Lib.strCells s) (by simpa [Lib.strCells_length, hl] using hown') (by decide)
 · exact (hb1.grown hgrow (by have := hb1.size; omega) (fun k hk => (hown.lt k hk).1)).setCell (p := ⟨b, 1, none⟩) hB _
 exact (hk1.grown hgrow (fun g hg => row_block hown hg)).setCell ⟨b, 1, none⟩ rfl _
theorem string_any (B b : Nat) (l : List UInt8) (w : World) (h : Builds B b l w) (hBw : B ≤ w.heap.size) :
 Calls Tryz.prog 96 #[.pointer (some ⟨b, 0, none⟩)] w fun e w' => e = .returned (.string ⟨l.toArray⟩) ∧ Below B w w' :=
 Tryz.Builder_String_any B b l w h hBw
theorem Builds.alloc {B b : Nat} {l : List UInt8} {w : World} (h : Builds B b l w) (o : Obj) : Builds B b l (w.alloc o) := by
 rcases h with ⟨hB, v, hb, hown, hne⟩ | ⟨hB, v, hb, hown, hne⟩
 · exact .inl ⟨hB, v, (Below.heap_alloc w o b (Array.getElem?_eq_some_iff.1 hb).1).trans hb, hown.alloc o, hne⟩
 exact .inr ⟨hB, v, (Below.heap_alloc w o b (Array.getElem?_eq_some_iff.1 hb).1).trans hb, hown.alloc o, hne⟩
theorem Builds.fresh (w : World) : Builds w.heap.size w.heap.size [] (w.alloc (.cells #[.pointer none, .slice none 0 0] 144)) := Lib.fresh_isBuilder _ _ w
theorem Kept.blk {b g : Nat} {t : TypeId} {cs : Array Value} {w w' : World} (h : Kept b w w') (hb : Blk w g t cs) (hg : g ≠ b) (ht : t ≠ 5) : Blk w' g t cs :=
 h g _ hb (fun e => hg (Option.some.inj e)) (fun c fz e => by injection e with _ e2 _; exact ht e2)
set_option maxRecDepth 100000 in
set_option maxHeartbeats 4000000 in
theorem atomText_any (a : GA) (v : Value) (w : World) {S : Nat → Prop} (hv : TermsR S w v a.args) (hw : wAtom a ≤ 4194304) :
 Calls Tryz.prog 95 #[.agg #[.string a.n, v]] w fun e w' => e = .returned (.string (strOf (atomL a))) ∧ Ext w w' := by
 obtain ⟨A, c, rfl, hc1, hc2⟩ := SliceR.form hv; have HV := Lib.hid hv; have HW := Lib.hid hw
 have hn : a.n.size ≤ 4194304 := by unfold wAtom at hw; omega
 clear hv hw; have hbox : Blk (w.alloc (.cells #[.string a.n, .slice A a.args.length c] 54)) w.heap.size 54 #[.string a.n, .slice A a.args.length c] := Blk.new _ _ _; have hb0 := Builds.fresh (w.alloc (.cells #[.string a.n, .slice A a.args.length c] 54)); rw [World.size_alloc] at hb0; have HBX := Lib.hid (hbox.alloc (.cells #[.pointer none, .slice none 0 0] 144)); have HB0 := Lib.hid hb0; clear hb0 hbox; have tok : True := trivial
 go_enter Tryz.func95, Tryz.ntmps95
 go_wp2_with (first
  | (go_at_call 94; refine (writeString_any (w.heap.size + 1) (w.heap.size + 1) [] a.n _ HB0.out (by simp; omega) (by go_size)).mono ?_; rintro e w1 ⟨rfl, hb1, hz1, hk1⟩; have HB1 := Lib.hid hb1; have hx1 := hk1.blk HBX.out (by omega) (by decide); have e10 := hx1.cell 0; have e11 := hx1.cell 1; have HX1 := Lib.hid hx1; have hs1 := hz1.size; simp only [World.size_alloc] at hs1; clear hb1 hx1)
  | (go_at_call 153; have _t := tok; refine (writeByte_any (w.heap.size + 1) (w.heap.size + 1) _ 40 _ HB1.out (by simp; omega) (by omega)).mono ?_; clear tok _t; rintro e w2 ⟨rfl, hb2, hz2, hk2⟩; have HB2 := Lib.hid hb2; have hx2 := hk2.blk HX1.out (by omega) (by decide); have e20 := hx2.cell 0; have e21 := hx2.cell 1; have HX2 := Lib.hid hx2; have hs2 := hz2.size; clear hb2 hx2))
 have HE2 := Lib.hid (show Ext w w2 from (((Ext.refl w).alloc _).alloc _).trans ((hz1.mono (by omega)).trans (hz2.mono (by omega)))); clear e10 e11 e20 e21 hk1 hk2 hz1 hz2
 go_loopw [13] (fun i wr => ∃ (k : Nat) (l : List UInt8), k ≤ a.args.length ∧ i = .int .i64 k ∧ Hid (l = a.n.data.toList ++ [40] ++ namesL (a.args.take k)) ∧ Hid (Builds (w.heap.size + 1) (w.heap.size + 1) l wr) ∧ Ext w wr ∧ w.heap.size + 1 < wr.heap.size) (fun i _ => a.args.length - (intOf i).toNat)
 case atStart => exact ⟨0, _, Nat.zero_le _, rfl, by show _ = _; rw [List.take_zero, namesL, List.append_nil]; rfl, HB2, HE2.out, by omega⟩
 case round =>
  obtain ⟨k, l, hk, rfl, hp, hb, hx, hsz⟩ := hrel
  have hlen : l.length ≤ 8388609 := by
   rw [hp.out]; have h1 := namesL_len (a.args.take k); have h2 := wTerms_take a.args k; have h3 := HW.out
   have h4 : a.n.data.toList.length = a.n.size := by simp
   unfold wAtom at h3; simp only [List.length_append, List.length_cons, List.length_nil]; omega
  by_cases hlt : k < a.args.length
  · obtain ⟨b, off, x, rfl, hbb, hxk, hxs, hc0, hc1⟩ := TermsR.at_ (HV.out.ext hx) hlt
    have HK := Lib.hid (namesL_take hxk)
    have hxn : x.n.size ≤ 4194304 := by
     have h1 := wTerms_mem (List.mem_of_getElem? hxk); have h3 := HW.out; unfold wAtom at h3; unfold wTerm at h1; omega
    clear hxk hxs; have HBV := Lib.hid (Blk.new wr 71 #[.bool x.v, .string x.n])
    by_cases hk0 : k < 1
    · have hg : decide (0 < k) = false := decide_eq_false (by omega)
      go_wp2_with (go_at_call 94; refine (writeString_any (w.heap.size + 1) (w.heap.size + 1) l x.n _ (hb.out.alloc _) (by omega) (by go_size)).mono ?_; rintro e w3 ⟨rfl, hb3, hz3, hk3⟩; have HB3 := Lib.hid hb3; have hs3 := hz3.size; simp only [World.size_alloc] at hs3; clear hb3 hk3)
      go_roundw
      case rel =>
       refine ⟨k + 1, _, by omega, by go_num, ?_, HB3, (hx.alloc _).trans (hz3.mono (by omega)), by omega⟩; show _ = _; rw [hp.out, HK.out, if_pos (by omega), show k = 0 from by omega, List.take_zero, namesL, List.append_nil, List.nil_append]
      case measure => simp [intOf]; omega
    have hg : decide (0 < k) = true := decide_eq_true (by omega); have tok2 : True := trivial
    go_wp2_with (first
     | (go_at_call 153; have _t := tok2; refine (writeByte_any (w.heap.size + 1) (w.heap.size + 1) l 44 _ (hb.out.alloc _) (by omega) (by go_size)).mono ?_; clear tok2 _t; rintro e w3 ⟨rfl, hb3, hz3, hk3⟩; have HB3 := Lib.hid hb3; have hv3 := hk3.blk HBV.out (by omega) (by decide); have e30 := hv3.cell 0; have e31 := hv3.cell 1; have hs3 := hz3.size; simp only [World.size_alloc] at hs3; clear hb3 hv3 hk3)
     | (go_at_call 94; refine (writeString_any (w.heap.size + 1) (w.heap.size + 1) _ x.n _ HB3.out (by simp; omega) (by omega)).mono ?_; rintro e w4 ⟨rfl, hb4, hz4, hk4⟩; have HB4 := Lib.hid hb4; have hs4 := hz4.size; clear hb4 hk4))
    go_roundw
    case rel =>
     refine ⟨k + 1, _, by omega, by go_num, ?_, HB4, ((hx.alloc _).trans (hz3.mono (by omega))).trans (hz4.mono (by omega)), by omega⟩; show _ = _; rw [hp.out, HK.out, if_neg (by omega)]; simp only [List.append_assoc]
    case measure => simp [intOf]; omega
  go_wp2_with (first
    | (go_at_call 153; refine (writeByte_any (w.heap.size + 1) (w.heap.size + 1) l 41 _ hb.out (by omega) (by omega)).mono ?_; rintro e w3 ⟨rfl, hb3, hz3, hk3⟩; have HB3 := Lib.hid hb3; have hs3 := hz3.size; clear hb3 hk3)
    | (go_at_call 96; refine (string_any (w.heap.size + 1) (w.heap.size + 1) _ _ HB3.out (by omega)).mono ?_; rintro e w4 ⟨rfl, hz4⟩))
  go_ret; refine ⟨?_, (hx.trans (hz3.mono (by omega))).trans (hz4.mono (by omega))⟩; refine Eq.trans ?_ (ret_str (a := strOf (l ++ [41])) ?_)
  · rfl
  rw [hp.out, List.take_of_length_le (by omega)]; rfl
theorem fact_same {a b : GA} (ha : factB a = true) (hb : factB b = true) : decide (strOf (atomL a) = strOf (atomL b)) = sameA a b := by
 apply Bool.eq_iff_iff.2
 rw [decide_eq_true_iff, same_iff]
 constructor
 · intro h
   have h1 : atomL a = atomL b := by
    have := congrArg (fun x : ByteArray => x.data.toList) h; simpa [strOf] using this
   rw [atom_inj (factB_ok ha) (factB_ok hb) h1]; exact ⟨rfl, rfl⟩
 rintro ⟨h1, h2⟩
 have h3 : a = b := by
  have key : ∀ (l m : List GT), (∀ t ∈ l, t.v = false) → (∀ t ∈ m, t.v = false) → l.map (·.n) = m.map (·.n) → l = m := by
   intro l
   induction l with
   | nil => intro m _ _ h; cases m with
     | nil => rfl
     | cons _ _ => simp at h
   | cons x l ih => intro m hl hm h; cases m with
     | nil => simp at h
     | cons y m =>
       simp only [List.map_cons, List.cons.injEq] at h; have e1 := hl x List.mem_cons_self; have e2 := hm y List.mem_cons_self; rw [ih m (fun t ht => hl t (List.mem_cons_of_mem _ ht)) (fun t ht => hm t (List.mem_cons_of_mem _ ht)) h.2]
       cases x; cases y; simp_all
  have h4 := key a.args b.args (fun t ht => (fact_ok ha t ht).1) (fun t ht => (fact_ok hb t ht).1) h2
  cases a; cases b; simp_all
 rw [h3]
def fineR (r : GR) : Bool := ruleOkB r && tightB r
structure Fine (r : GR) : Prop where
 head : atomOkB r.head = true
 body : ∀ p ∈ r.body, atomOkB p.atom = true
 few : r.body.length ≤ 4
 tight : ∀ p ∈ r.body, ∀ t ∈ p.atom.args, t.v = true → boundIn r.body t.n = true
 bound : ∀ t ∈ r.head.args, t.v = true → boundIn r.body t.n = true
theorem fine_of {r : GR} (h : fineR r = true) : Fine r := by
 unfold fineR ruleOkB tightB at h; simp only [Bool.and_eq_true, decide_eq_true_eq, List.all_eq_true] at h; obtain ⟨⟨h1, h2, h3⟩, h4⟩ := h
 have hr : ∀ p ∈ r.body, p.atom ∈ ruleAtoms r := fun p hp => by unfold ruleAtoms; exact List.mem_cons_of_mem _ (List.mem_map_of_mem hp)
 have hh : r.head ∈ ruleAtoms r := by unfold ruleAtoms; exact List.mem_cons_self
 exact ⟨h2, h1, h3, fun p hp t ht hv => h4 _ (hr p hp) _ (varsOf_mem.2 ⟨t, ht, hv, rfl⟩), fun t ht hv => h4 _ hh _ (varsOf_mem.2 ⟨t, ht, hv, rfl⟩)⟩
theorem same_eq {a b : GA} (ha : factB a = true) (hb : factB b = true) : sameA a b = true ↔ a = b := by
 rw [← fact_same ha hb, decide_eq_true_iff]
 constructor
 · intro h
   have h1 : atomL a = atomL b := by
    have := congrArg (fun x : ByteArray => x.data.toList) h; simpa [strOf] using this
   exact atom_inj (factB_ok ha) (factB_ok hb) h1
 rintro rfl; rfl
def Facts (l : List GA) : Prop := ∀ a ∈ l, factB a = true
theorem hasA_mem {l : List GA} (hl : Facts l) (ha : Asc l) {a : GA} (hf : factB a = true) : hasA l a = true ↔ a ∈ l := by
 rw [hasA_same ha]
 constructor
 · rintro ⟨y, hy, h⟩; rw [← (same_eq (hl y hy) hf).1 h]; exact hy
 intro h; exact ⟨a, h, (same_eq hf hf).2 rfl⟩
theorem nodup_any {α : Type} {l m : List α} (h : l.Nodup) (k : ∀ x ∈ l, x ∈ m) : l.length ≤ m.length := by
 classical
 exact nodup_len l m h k
theorem mem_while {α : Type} {p : α → Bool} : ∀ {l : List α} {x : α}, x ∈ l.takeWhile p → p x = true
 | [], x, h => by simp at h
 | y :: l, x, h => by
   rw [List.takeWhile_cons] at h
   split at h
   · rename_i hy
     rcases List.mem_cons.1 h with rfl | h
     · exact hy
     exact mem_while h
   cases h
theorem place_take {l : List GA} {a : GA} : ∀ x ∈ l.take (placeA l a), cmpA x a < 0 := by
 intro x hx
 have e : l.take (placeA l a) = l.takeWhile fun x => ltA x a := by
  unfold placeA; exact (List.prefix_iff_eq_take.1 (List.takeWhile_prefix _)).symm
 rw [e] at hx; exact of_decide_eq_true (mem_while (p := fun x => ltA x a) hx)
theorem place_drop {l : List GA} {a : GA} (hl : Asc l) (hn : ¬ hasA l a = true) : ∀ x ∈ l.drop (placeA l a), cmpA a x < 0 := by
 induction l with
 | nil => intro x hx; simp at hx
 | cons y m ih =>
   have h1 := List.pairwise_cons.1 hl
   by_cases hlt : cmpA y a < 0
   · have hp : placeA (y :: m) a = placeA m a + 1 := by
       unfold placeA; rw [List.takeWhile_cons, if_pos (show ltA y a = true from decide_eq_true hlt)]; rfl
     rw [hasA_cons_lt hlt] at hn; rw [hp, List.drop_succ_cons]; exact ih h1.2 hn
   have hp : placeA (y :: m) a = 0 := by
     unfold placeA; rw [List.takeWhile_cons, if_neg (by unfold ltA; simp; omega)]; rfl
   rw [hasA_cons_ge hlt] at hn; rw [hp, List.drop_zero]
   have h0 : cmpA y a ≠ 0 := by simpa using hn
   have hya : cmpA a y < 0 := by
    have := cmpA_neg y a; omega
   intro x hx
   rcases List.mem_cons.1 hx with rfl | hx
   · exact hya
   exact cmpA_trans hya (h1.1 x hx)
theorem putA_asc {l : List GA} (hl : Asc l) (a : GA) : Asc (putA l a) := by
 unfold putA
 split
 · exact hl
 rename_i hn; have h1 := place_take (l := l) (a := a); have h2 := place_drop hl hn
 have hs : Asc (l.take (placeA l a) ++ l.drop (placeA l a)) := by rw [List.take_append_drop]; exact hl
 obtain ⟨k1, k2, k3⟩ := List.pairwise_append.1 hs; refine List.pairwise_append.2 ⟨List.pairwise_append.2 ⟨k1, List.pairwise_singleton _ _, fun x hx y hy => ?_⟩, k2, fun x hx y hy => ?_⟩
 · simp at hy; subst hy; exact h1 x hx
 rcases List.mem_append.1 hx with hx | hx
 · exact k3 x hx y hy
 simp at hx; subst hx; exact h2 y hy
theorem putA_iff {l : List GA} (hl : Facts l) (ha : Asc l) {a x : GA} (hf : factB a = true) : x ∈ putA l a ↔ x ∈ l ∨ x = a := by
 unfold putA
 split
 · rename_i h
   exact ⟨.inl, fun h2 => h2.elim id (fun e => e ▸ (hasA_mem hl ha hf).1 h)⟩
 simp only [List.mem_append, List.mem_singleton]
 have : x ∈ l ↔ x ∈ l.take (placeA l a) ∨ x ∈ l.drop (placeA l a) := by rw [← List.mem_append, List.take_append_drop]
 rw [this]
 constructor
 · rintro ((h | h) | h)
   · exact .inl (.inl h)
   · exact .inr h
   exact .inl (.inr h)
 rintro ((h | h) | h)
 · exact .inl (.inl h)
 · exact .inr h
 exact .inl (.inr h)
theorem putA_facts {l : List GA} (hl : Facts l) (ha : Asc l) {a : GA} (hf : factB a = true) : Facts (putA l a) := fun x hx => by
 rcases (putA_iff hl ha hf).1 hx with h | h
 · exact hl x h
 exact h ▸ hf
theorem asc_nodup {l : List GA} (h : Asc l) : l.Nodup := List.Pairwise.imp (fun {a b} h e => by
 subst e; have : cmpA a a = 0 := (cmpA_eq a a).2 rfl
 omega) h
end Go.Proofs.YtmihponoillihaaGreatDoor
namespace Go.Proofs.YtmihponoillihaaGreatDoor
open Go.RowKit
theorem putsA_said : ∀ {l out : List GA}, Facts out → Asc out → Facts l → Facts (l.foldl putA out) ∧ Asc (l.foldl putA out) ∧ ∀ x, x ∈ l.foldl putA out ↔ x ∈ out ∨ x ∈ l
 | [], out, h1, h2, _ => ⟨h1, h2, fun x => by simp⟩
 | a :: l, out, h1, h2, h3 => by
   have ha := h3 a List.mem_cons_self; obtain ⟨k1, k2, k3⟩ := putsA_said (putA_facts h1 h2 ha) (putA_asc h2 a) (fun x hx => h3 x (List.mem_cons_of_mem _ hx)); refine ⟨k1, k2, fun x => ?_⟩; rw [List.foldl_cons, k3, putA_iff h1 h2 ha, List.mem_cons, or_assoc]
theorem lessA_said {xs ys : List GA} (hx : Facts xs) (ax : Asc xs) (hy : Facts ys) (ay : Asc ys) : Facts (lessA xs ys) ∧ Asc (lessA xs ys) ∧ ∀ x, x ∈ lessA xs ys ↔ x ∈ xs ∧ x ∉ ys := by
 refine ⟨fun x h => hx x (List.mem_filter.1 h).1, ax.sublist List.filter_sublist, fun x => ?_⟩; unfold lessA; rw [List.mem_filter]
 refine and_congr_right fun h => ?_
 rw [Bool.not_eq_true', ← Bool.not_eq_true, hasA_mem hy ay (hx x h)]
section
variable {ps qs : List P2} (hx : Facts (ps.map (·.1))) (ax : Asc (ps.map (·.1))) (hy : Facts (qs.map (·.1))) (ay : Asc (qs.map (·.1)))
include hx ax hy ay
end
theorem factsB_said {l : List GA} {n : Nat} (h : factsB l n = true) : Facts l ∧ Asc l ∧ l.length ≤ n := by
 refine ⟨?_, factsB_asc h, ?_⟩
 · unfold factsB at h
   simp only [Bool.and_eq_true, List.all_eq_true] at h; exact h.1.1
 unfold factsB at h; simp only [Bool.and_eq_true, decide_eq_true_eq] at h; exact h.2
theorem doL_said {list : List GA} {c : GC} (h1 : Facts list) (h2 : Asc list) (h3 : Facts c.comes) (h4 : Facts c.goes) (h5 : Asc c.goes) : Facts (doL list c) ∧ Asc (doL list c) ∧ ∀ x, x ∈ doL list c ↔ (x ∈ list ∧ x ∉ c.goes) ∨ x ∈ c.comes := by
 obtain ⟨k1, k2, k3⟩ := lessA_said h1 h2 h4 h5; obtain ⟨m1, m2, m3⟩ := putsA_said k1 k2 h3; refine ⟨m1, m2, fun x => ?_⟩; unfold doL; rw [m3, k3]
end Go.Proofs.YtmihponoillihaaGreatDoor
namespace Go.Proofs.YtmihponoillihaaGreatDoor
open Go.RowKit
theorem check_parts {rules : List GR} (h : progCheckN rules = 0) : (∀ r ∈ rules, Fine r) ∧ rules.length ≤ 8 ∧ argsB (atomsOf rules) = true ∧ cycleB rules = false := by
 unfold progCheckN at h
 split at h
 · cases h
 split at h
 · cases h
 split at h
 · cases h
 split at h
 · cases h
 split at h
 · cases h
 rename_i h1 h2 h3 h4 h5; refine ⟨fun r hr => fine_of ?_, by omega, by simpa using h3, by simpa using h5⟩; simp only [Bool.not_eq_false, List.all_eq_true] at h1 h4; unfold fineR; rw [h1 r hr, h4 r hr]; rfl
theorem evalOk_parts {rules : List GR} {given : List GA} (h : evalOkB rules given = true) : progCheckN rules = 0 ∧ Facts given ∧ Asc given ∧ given.length ≤ 40 := by
 unfold evalOkB at h; simp only [Bool.and_eq_true, decide_eq_true_eq] at h; refine ⟨h.1.1, ?_, factsB_asc h.1.2, ?_⟩
 · have := h.1.2
   unfold factsB at this; simp only [Bool.and_eq_true, List.all_eq_true] at this; exact this.1.1
 have := h.1.2; unfold factsB at this; simp only [Bool.and_eq_true, decide_eq_true_eq] at this; exact this.2
@[go_sem] theorem as_wv (v : Value) (w : World) : (Instr.typeAssert (.iface 363 v) 299 296 true).run Tryz.prog w = .ok (.tuple #[.string ⟨#[]⟩, .bool false]) w := by kernel_rfl
noncomputable def baseN (l : List GR) : GB := if progCheckN l = 0 then ⟨l, 0, [], []⟩ else ⟨[], 0, [], []⟩
theorem wTerms_le (l : List GT) : l.length ≤ wTerms l := Nat.le_add_right _ _
theorem rules_few {l : List GR} (h : wRules l ≤ 1048576) : l.length ≤ 1048576 ∧ ∀ x ∈ l, x.head.args.length ≤ 1048576 ∧ x.body.length ≤ 1048576 ∧ ∀ p ∈ x.body, p.atom.args.length ≤ 1048576 := by
 refine ⟨by unfold wRules at h; omega, fun x hx => ?_⟩; have h1 := Nat.le_trans (wRules_mem hx) h; unfold wRule wAtom at h1; have h2 := wTerms_le x.head.args; have h3 : x.body.length ≤ wParts x.body := Nat.le_add_right _ _; refine ⟨by omega, by omega, fun p hp => ?_⟩; have h4 := wParts_mem hp; unfold wPart wAtom at h4; have h5 := wTerms_le p.atom.args; omega
theorem BaseR.empty {S : Nat → Prop} {w : World} : BaseR S w (.agg #[.slice none 0 0, .int .i64 0, .slice none 0 0, .slice none 0 0]) ⟨[], 0, [], []⟩ :=
 ⟨_, _, _, rfl, SliceR.nil_ 0 (Nat.zero_le _) none, SliceR.nil_ 0 (Nat.zero_le _) none, SliceR.nil_ 0 (Nat.zero_le _) none⟩
theorem BaseR.only {S : Nat → Prop} {w : World} {u : Value} {l : List GR} (h : RulesR S w u l) : BaseR S w (.agg #[u, .int .i64 0, .slice none 0 0, .slice none 0 0]) ⟨l, 0, [], []⟩ :=
 ⟨_, _, _, rfl, h, SliceR.nil_ 0 (Nat.zero_le _) none, SliceR.nil_ 0 (Nat.zero_le _) none⟩
set_option maxRecDepth 100000 in
set_option maxHeartbeats 2000000 in
theorem specBaseNew_from (v : Value) (l : List GR) (w : World) {S : Nat → Prop} (hv : RulesR S w v l) (hw : wRules l ≤ 1048576) :
 Calls Tryz.prog 145 #[v] w fun e w' => (∃ u, e = .returned u ∧ BaseR (From w.heap.size) w' u (baseN l)) ∧ Ext w w' := by
 obtain ⟨A, c, rfl, hc1, hc2⟩ := SliceR.form hv; obtain ⟨hf1, hf2⟩ := rules_few hw; have HV := Lib.hid hv; have HB0 := Lib.hid (Blk.new w 45 #[.slice none 0 0, .int .i64 0, .slice none 0 0, .slice none 0 0]); have HX0 := Lib.hid ((Ext.refl w).alloc (.cells #[.slice none 0 0, .int .i64 0, .slice none 0 0, .slice none 0 0] 45))
 have HF2 := Lib.hid (show ∀ r ∈ l, r.head.args.length ≤ 4194304 ∧ r.body.length ≤ 4194304 ∧ ∀ p ∈ r.body, p.atom.args.length ≤ 4194304 from fun r hr => by
  obtain ⟨h1, h2, h3⟩ := hf2 r hr
  exact ⟨by omega, by omega, fun p hp => by have := h3 p hp; omega⟩)
 clear hv hf2 hw
 by_cases hp : progCheckN l = 0
 · have HB := Lib.hid (show baseN l = ⟨l, 0, [], []⟩ from if_pos hp)
   have HP := Lib.hid (fun (W : World) (hW : Ext w W) => show Calls Tryz.prog 187 #[.slice A l.length c] W fun e w' => e = .returned (.int .i64 0) ∧ Ext W w' from by
    have h := specProgCheck_any _ l W (HV.out.ext hW); rw [hp] at h
    exact h)
   clear hp
   go_enter Tryz.func145, Tryz.ntmps145
   go_wp2_with (first
    | (go_at_call 187; refine (HP.out _ HX0.out).mono ?_; rintro e w1 ⟨rfl, hx1⟩; have HX1 := Lib.hid (HX0.out.trans' hx1); have HB1 := Lib.hid (HB0.out.ext hx1); have hl1 := HB1.out.lt
       have p0 := (HB1.out).cell 0; have f0 := (HB1.out).frozen 0; have p1 := (HB1.out).cell 1; have f1 := (HB1.out).frozen 1; have p2 := (HB1.out).cell 2; have f2 := (HB1.out).frozen 2; have p3 := (HB1.out).cell 3; have f3 := (HB1.out).frozen 3
       clear hx1)
    | (go_at_call 70; refine (l7Rules_any _ l _ (HV.out.ext HX1.out) (by omega) HF2.out).mono ?_; rintro e w2 ⟨⟨u, rfl, hu⟩, hx2⟩; clear p0 p1 p2 p3 f0 f1 f2 f3; have HB2 := Lib.hid (HB1.out.ext hx2); have hl2 := HB2.out.lt
       have p0 := (HB2.out).cell 0; have f0 := (HB2.out).frozen 0; have p1 := (HB2.out).cell 1; have f1 := (HB2.out).frozen 1; have p2 := (HB2.out).cell 2; have f2 := (HB2.out).frozen 2; have p3 := (HB2.out).cell 3; have f3 := (HB2.out).frozen 3; have HLT := Lib.hid hl1; have HU := Lib.hid hu; have HX2 := Lib.hid (HX1.out.trans' hx2); obtain ⟨UA, UC, rfl, hu1, hu2⟩ := SliceR.form hu
       clear hu hx2))
   refine bodyPost_ret (v := .agg #[.slice UA l.length UC, .int .i64 0, .slice none 0 0, .slice none 0 0]) (by simp [results, Tryz.results145, go_sem, p0, p1, p2, p3]) rfl ⟨⟨_, rfl, ?_⟩, ?_⟩
   · rw [HB.out]
     exact BaseR.only (RulesR.imp HU.out (fun _ h => Nat.le_trans (Nat.le_of_lt HLT.out) h) (((((Agree.refl _ _).set (p := ⟨w.heap.size, _, none⟩) HLT.out _).set (p := ⟨w.heap.size, _, none⟩) HLT.out _).set (p := ⟨w.heap.size, _, none⟩) HLT.out _).set (p := ⟨w.heap.size, _, none⟩) HLT.out _) (by go_size))
   exact Ext.setNew (a := w) (Ext.setNew (Ext.setNew (Ext.setNew HX2.out (Nat.le_refl _) _) (Nat.le_refl _) _) (Nat.le_refl _) _) (Nat.le_refl _) _
 have HB := Lib.hid (show baseN l = ⟨[], 0, [], []⟩ from if_neg hp)
 obtain ⟨m, hm⟩ : ∃ m, m = progCheckN l := ⟨_, rfl⟩
 have hm0 : (((m : Int) == 0) : Bool) = false := by
  rw [beq_eq_false_iff_ne]; omega
 have HP := Lib.hid (fun (W : World) (hW : Ext w W) => show Calls Tryz.prog 187 #[.slice A l.length c] W fun e w' => e = .returned (.int .i64 m) ∧ Ext W w' from by
  rw [hm]; exact specProgCheck_any _ l W (HV.out.ext hW))
 clear hp hm
 go_enter Tryz.func145, Tryz.ntmps145
 go_wp2_with (first
  | (go_at_call 187; refine (HP.out _ HX0.out).mono ?_; rintro e w1 ⟨rfl, hx1⟩; have HX1 := Lib.hid (HX0.out.trans' hx1); have HB1 := Lib.hid (HB0.out.ext hx1); have hl1 := HB1.out.lt
     have p0 := (HB1.out).cell 0; have f0 := (HB1.out).frozen 0; have p1 := (HB1.out).cell 1; have f1 := (HB1.out).frozen 1; have p2 := (HB1.out).cell 2; have f2 := (HB1.out).frozen 2; have p3 := (HB1.out).cell 3; have f3 := (HB1.out).frozen 3
     clear hx1))
 refine bodyPost_ret (v := .agg #[.slice none 0 0, .int .i64 0, .slice none 0 0, .slice none 0 0]) (by simp [results, Tryz.results145, go_sem, p0, p1, p2, p3]) rfl ⟨⟨_, rfl, ?_⟩, ?_⟩
 · rw [HB.out]
   exact BaseR.empty
 exact Ext.setNew (a := w) (Ext.setNew (Ext.setNew (Ext.setNew HX1.out (Nat.le_refl _) _) (Nat.le_refl _) _) (Nat.le_refl _) _) (Nat.le_refl _) _
theorem BaseR.sub {S S' : Nat → Prop} {w : World} {v : Value} {B : GB} (h : BaseR S w v B) (hS : ∀ b, S b → S' b) : BaseR S' w v B := h.imp hS (.refl _ _) (Nat.le_refl _)
theorem sum_most {α : Type} {f : α → Nat} {n : Nat} : ∀ {l : List α}, (∀ x ∈ l, f x ≤ n) → (l.map f).sum ≤ n * l.length
 | [], _ => by simp
 | a :: l, h => by
   have h1 := sum_most (l := l) (fun x hx => h x (List.mem_cons_of_mem _ hx)); have h2 := h a List.mem_cons_self; rw [List.map_cons, List.sum_cons, List.length_cons, Nat.mul_add, Nat.mul_one]; omega
theorem term_w {t : GT} (h : termOkB t = true) : wTerm t ≤ 8 := by
 unfold termOkB at h; unfold wTerm
 split at h
 · unfold varOkB at h
   simp only [Bool.and_eq_true, decide_eq_true_eq] at h; exact h.1.2
 exact (name_pos h).2
theorem atom_w {a : GA} (h : atomOkB a = true) : wAtom a ≤ 35 ∧ a.args.length ≤ 3 ∧ a.n.size ≤ 8 := by
 obtain ⟨h1, h2, h3⟩ := atom_parts h; have h4 := (name_pos h1).2; have h5 := sum_most (f := wTerm) (fun t ht => term_w (h3 t ht)); unfold wAtom wTerms; omega
theorem fact_w {a : GA} (h : factB a = true) : wAtom a ≤ 35 ∧ a.args.length ≤ 3 ∧ a.n.size ≤ 8 := by
 unfold factB at h; simp only [Bool.and_eq_true] at h; exact atom_w h.1
def midP (ps : List GP) : Prop := ∀ p ∈ ps, mid p.atom ∧ p.atom.args.length ≤ 3
theorem midP_snoc {ps : List GP} {p : GP} (h : midP ps) (hp : mid p.atom ∧ p.atom.args.length ≤ 3) : midP (ps ++ [p]) := fun x hx => by
 rcases List.mem_append.1 hx with h1 | h1
 · exact h x h1
 simp at h1; subst h1; exact hp
set_option maxRecDepth 100000 in
set_option maxHeartbeats 4000000 in
theorem l10Body_any (rb m : Nat) (v : Value) (xs : List ByteArray) (w : World) (hv : StrsR (fun b => b ≠ rb) w v xs) (hn : 1 ≤ xs.length ∧ xs.length ≤ 1000000) (hs : ∀ s ∈ xs, s.size ≤ 9) (hr : Rd w rb m) (hp : m + 30 ≤ 1000000) :
 Calls Tryz.prog 118 #[.pointer (some ⟨rb, 0, none⟩), v] w fun e w' =>
  (∃ (u : Value) (ps : List GP), e = .returned u ∧ OwnK kPart w.heap.size 125 (From w.heap.size) w' u ps ∧ 1 ≤ ps.length ∧ ps.length ≤ 3 ∧ midP ps) ∧ Rd w' rb (m + 30) ∧ Else rb w w' := by
 obtain ⟨A, c, rfl, hc1, hc2⟩ := SliceR.form hv; have hrl := hr.lt; obtain ⟨i0, hi0, hz0, hz1, hz2⟩ := info_parts part_info; have HR := Lib.hid hr; have HV := Lib.hid hv; have HS := Lib.hid hs; clear hr hv hs
 go_enter Tryz.func118, Tryz.ntmps118
 go_wp2_with (first
  | (go_at_call 73; refine (rdPick_any rb m 3 _ (by omega) (HR.out.ext ((Ext.refl _).alloc _)) (by omega)).mono ?_; rintro e w1 ⟨⟨z, hz, rfl⟩, hr1, he1⟩
     have HR1 := Lib.hid hr1; have HE1 := Lib.hid ((Else.of_ext (rb := rb) ((Ext.refl w).alloc (.cells #[] 125))).trans' he1); have HO1 := Lib.hid (OwnK.else_ (OwnK.empty (k := kPart) (w := w) (e := 125) (S := From w.heap.size) rfl (Nat.le_refl _)) he1 hrl (fun h => absurd (show w.heap.size ≤ rb from h) (by omega)))
     have hzi : IntKind.i64.wrap (1 + (z : Int)) = 1 + (z : Int) := (by rw [IntKind.wrap_i64]; omega)
     clear hr1 he1)
  | fail)
 go_loopw [5, 6] (fun o i wr => ∃ (k : Nat) (ps : List GP), i = .int .i64 k ∧ ps.length + k ≤ 3 ∧ 1 ≤ ps.length + k ∧ Hid (OwnK kPart w.heap.size 125 (From w.heap.size) wr o ps) ∧ Hid (midP ps) ∧ Hid (Rd wr rb (m + 1 + 8 * ps.length)) ∧ Hid (Else rb w wr)) (fun _ i _ => (intOf i).toNat)
 case atStart => exact ⟨1 + z, [], by simp, by simp; omega, by simp, HO1, Lib.hid (fun p hp => by cases hp), Lib.hid (HR1.out.le (by omega)), HE1⟩
 case round =>
  obtain ⟨k, ps, rfl, hk, hkp, ho, hm, hr, he⟩ := hrel
  have hk0 : (0 : Int) ≤ (k : Int) := by omega
  obtain ⟨O, n0, c0, rfl, hn0, ha0, hb0⟩ := ho.out.form2
  by_cases hlt : 0 < k
  · have hlt' : (0 : Int) < (k : Int) := by omega
    obtain ⟨M, hM⟩ : ∃ M, M = m + 1 + 8 * ps.length := ⟨_, rfl⟩
    rw [← hM] at hr
    have hM1 : M + 8 ≤ 1000000 := by omega
    have hwr := he.out.size; have HN0 := Lib.hid hn0.out
    have hn1 : n0 ≤ 3 := by rw [hn0.out]; omega
    clear hn0
    go_wp2_with (first
     | (go_at_call 73; refine (rdPick_any rb M 6 _ (by omega) hr.out (by omega)).mono ?_; rintro e w1 ⟨⟨z6, hz6, rfl⟩, hr1, he1⟩
        have HR2 := Lib.hid hr1; have HE2 := Lib.hid (he.out.trans' he1); have HF2 := Lib.hid he1
        clear hr1 he1)
     | (go_at_call 60; refine (of_any rb (M + 1) _ xs _ (StrsR.imp HV.out (fun _ h => h) HE2.out.agree HE2.out.size) hn HR2.out (by omega)).mono ?_; rintro e w2 ⟨⟨s, hs, hs2, rfl⟩, hr2, he2⟩
        have hs9 := HS.out s hs; have HR3 := Lib.hid hr2; have HE3 := Lib.hid (HE2.out.trans' he2); have HF3 := Lib.hid (HF2.out.trans' he2)
        clear hr2 he2 hs)
     | (go_at_call 162; refine (l10AtomVars_any rb (M + 2) s _ (by omega) HR3.out (by omega)).mono ?_; rintro e w3 ⟨⟨v3, ts, rfl, ht3, hti⟩, hr3, he3⟩
        obtain ⟨T, n3, c3, rfl, hn3, ha3, hb3⟩ := ht3.form2; have HT3 := Lib.hid ht3; have HTI := Lib.hid hti; have HR4 := Lib.hid hr3; have HE4 := Lib.hid (HE3.out.trans' he3); have HF4 := Lib.hid (HF3.out.trans' he3); have HO4 := Lib.hid (OwnK.else_ ho.out (HF3.out.trans' he3) hrl (fun h => absurd (show w.heap.size ≤ rb from h) (by omega))); have HLOW := Lib.hid (show ∀ g, (Value.slice O n0 c0).ownBlock = some g → g < wr.heap.size from fun g hg => (ho.out.at_ g hg).2); have hw4 := (HF3.out.trans' he3).size; have hw2 := HF3.out.size; have hw3 := he3.size
        clear ht3 hti hr3 he3)
     | (at_builtin; refine wpList_appK (k := kPart) (S := From w.heap.size) (T := From wr.heap.size) (base := w.heap.size) (xs := ps) (ys := [⟨_, ⟨s, ts⟩⟩]) rfl (.tmp 15) (.tmp 30) 49 (by rfl) i0 _ 48 Tryz.underlying49 hi0 hz0 hz1 hz2 (by rfl) (by rfl) (HO4.out.alloc _) _ 1 1 (by rfl) (ElemsK.one (k := kPart) (x := ⟨_, ⟨s, ts⟩⟩) (Blk.new w3 125 #[.bool _, .string s, .slice T n3 c3]) ⟨_, rfl, hs2, (HT3.out.list (S' := From wr.heap.size) (fun _ h => h.elim) (fun b hb => by show wr.heap.size ≤ b; have : w2.heap.size + 2 ≤ b := hb; omega)).ext ((Ext.refl _).alloc _)⟩) (fun b hb _ => Nat.le_trans hwr hb) (fun g hg hT => absurd (HLOW.out g hg) (Nat.not_lt.2 hT)) (by unfold maxLen; omega) (by omega) (by go_size) ?_
        intro v5 w5 hap; have HAP := Lib.hid hap
        clear hap))
    all_goals go_roundw
    all_goals first
     | (exact ⟨k - 1, _, by congr 1; omega, by rw [List.length_append]; simp; omega, by rw [List.length_append]; simp; omega, Lib.hid HAP.out.own, Lib.hid (midP_snoc hm.out ⟨⟨by omega, by have := HTI.out.1; show ts.length ≤ 6; omega, fun t ht => Nat.le_trans (HTI.out.2 t ht) (by omega)⟩, HTI.out.1⟩), Lib.hid (((HR4.out.ext ((Ext.refl _).alloc _)).below HAP.out.below hrl).le (by rw [List.length_append]; simp; omega)), Lib.hid ((HE4.out.trans' (Else.of_ext ((Ext.refl _).alloc _))).below HAP.out.below (Nat.le_refl _))⟩)
     | (simp [intOf]; omega)
  have hlt' : ¬ (0 : Int) < (k : Int) := by omega
  go_wp2; go_ret; exact ⟨⟨_, rfl, ps, ho.out, by omega, by omega, hm.out⟩, hr.out.le (by omega), he.out⟩
theorem terms_vars {w : World} {g : Nat} {x y : ByteArray} (hb : Blk w g 71 #[.bool true, .string x, .bool true, .string y]) (hx : x.size ≤ maxLen) (hy : y.size ≤ maxLen) :
 TermsR (From g) w (.slice (some ⟨g, 0, none⟩) 2 2) [⟨true, x⟩, ⟨true, y⟩] := by
 refine ⟨_, 2, rfl, Nat.le_refl _, by unfold maxLen; omega, fun _ => ⟨g, 0, rfl, hb.lt, Nat.le_refl _, fun i t hi => ?_⟩⟩
 rcases i with _ | _ | i
 · simp at hi; subst hi
   exact ⟨[.bool true, .string x], rfl, fun j u hu => by
    rcases j with _ | _ | j
    · simp at hu; subst hu; exact hb.cell 0
    · simp at hu; subst hu; exact hb.cell 1
    simp at hu, rfl, hx⟩
 · simp at hi; subst hi
   exact ⟨[.bool true, .string y], rfl, fun j u hu => by
    rcases j with _ | _ | j
    · simp at hu; subst hu; exact hb.cell 2
    · simp at hu; subst hu; exact hb.cell 3
    simp at hu, rfl, hy⟩
 simp at hi
set_option maxRecDepth 100000 in
set_option maxHeartbeats 2000000 in
theorem l10Edge_any (n x y : ByteArray) (w : World) (hx : x.size ≤ maxLen) (hy : y.size ≤ maxLen) :
 Calls Tryz.prog 186 #[.string n, .string x, .string y] w fun e w' =>
  (∃ v, e = .returned (.agg #[.string n, v]) ∧ TermsR (From w.heap.size) w' v [⟨true, x⟩, ⟨true, y⟩]) ∧ Ext w w' := by
 go_enter Tryz.func186, Tryz.ntmps186
 go_wp2
 obtain ⟨W, hW⟩ : ∃ W, W = (w.alloc (.cells #[.string n, .slice (some ⟨w.heap.size + 1, 0, none⟩) 2 2] 54)).alloc (.cells #[.bool true, .string x, .bool true, .string y] 71) := ⟨_, rfl⟩
 have hb0 : Blk W w.heap.size 54 #[.string n, .slice (some ⟨w.heap.size + 1, 0, none⟩) 2 2] := by rw [hW]; exact (Blk.new _ _ _).alloc _
 have hb1 : Blk W (w.heap.size + 1) 71 #[.bool true, .string x, .bool true, .string y] := by rw [hW]; exact Blk.at_new (by simp)
 have hx1 : Ext w W := by rw [hW]; exact ((Ext.refl w).alloc _).alloc _
 rw [← hW]; have q0 := hb0.cell 0; have q1 := hb0.cell 1; refine bodyPost_ret (v := .agg #[.string n, .slice (some ⟨w.heap.size + 1, 0, none⟩) 2 2]) (by simp [results, Tryz.results186, go_sem, q0, q1]) rfl ?_; exact ⟨⟨_, rfl, TermsR.sub (terms_vars hb1 hx hy) (fromLe (by omega))⟩, hx1⟩
end Go.Proofs.YtmihponoillihaaGreatDoor
