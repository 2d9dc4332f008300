/- The walks of strings.Reader's ReadByte and of the program's line. -/
import Derived.Test.YthndnkafckapnaaGreatDoorMarkP
import Derived.Test.YthndnkafckapnaaGreatDoorAtomText
import Derived.Deep.QuietTactic
import Derived.BigQuiet
import Derived.Deep.LoopGhost
namespace Go.Proofs.YthndnkafckapnaaGreatDoor
open Go.RowKit

/-- io.EOF is an error. -/
def EofIs (w : World) (T : TypeId) (y : Value) : Prop := w.cell? ⟨2, 0, none⟩ = some (.iface T y)
theorem EofIs.ext {w w' : World} {T : TypeId} {y : Value} (h : EofIs w T y) (he : Ext w w') : EofIs w' T y := (he.cells.1 _ _ (cell_lt h)).trans h
theorem EofIs.below' {w w' : World} {T : TypeId} {y : Value} {n : Nat} (h : EofIs w T y) (he : Below n w w') (hn : 2 < n) : EofIs w' T y :=
  (he.cell (p := ⟨2, 0, none⟩) hn).trans h
theorem EofIs.inside {w w' : World} {T : TypeId} {y : Value} {S : Nat → Prop} (h : EofIs w T y) (he : Inside S w w') (hS : ¬ S 2) : EofIs w' T y :=
  (World.cell?_of_block (a := ⟨2, 0, none⟩) (he.block _ (cell_lt h) hS)).trans h

theorem Inside.below {S : Nat → Prop} {a b c : World} {n : Nat} (h : Inside S a b) (k : Below n b c) (hn : a.heap.size ≤ n) : Inside S a c :=
  ⟨k.os.trans h.os, k.tape.trans h.tape, k.output.trans h.output, Nat.le_trans h.size k.size, fun i hi hs => (k.block i (Nat.lt_of_lt_of_le hi hn)).trans (h.block i hi hs)⟩
theorem Builds.inside {B b : Nat} {l : List UInt8} {w w' : World} {S : Nat → Prop} (h : Builds B b l w) (he : Inside S w w') (hS : ∀ i, S i → i < B) : Builds B b l w' := by
  have key : ∀ p, BuilderAt B b p l w → BuilderAt B b p l w' := fun p hp => by
    obtain ⟨hB, v, hb, hown, hne⟩ := hp
    refine ⟨hB, v, (he.block b (Array.getElem?_eq_some_iff.1 hb).1 (fun hs => absurd (hS b hs) (Nat.not_lt.2 hB))).trans hb, ⟨hown.1, ?_⟩, hne⟩
    rcases hown.2 with h0 | ⟨g, cap, cur, rfl, hg, hc, h3⟩
    · exact .inl h0
    · exact .inr ⟨g, cap, cur, rfl, hg, (he.block g (Array.getElem?_eq_some_iff.1 hc).1 (fun hs => absurd (hS g hs) (Nat.not_lt.2 hg))).trans hc, h3⟩
  exact h.imp (key _) (key _)

set_option maxRecDepth 100000 in
set_option maxHeartbeats 1000000 in
theorem readByte_more (s : ByteArray) (p : Nat) (q : Int) (b : Nat) (t : TypeId) (w : World) (hs : s.size ≤ 400000) (hp : p < s.size) (hb : Blk w b t #[.string s, .int .i64 p, .int .i64 q]) :
    Calls Tryz.prog 151 #[.pointer (some ⟨b, 0, none⟩)] w fun e w' => e = .returned (.tuple #[.int .u8 s[p].toNat, .nilIface]) ∧ Blk w' b t #[.string s, .int .i64 (p + 1 : Nat), .int .i64 (-1)] ∧ Inside (fun i => i = b) w w' := by
  have q2 := hb.cell 2
  have f1 := hb.frozen 1
  have f2 := hb.frozen 2
  have hb1 : Blk (w.setCell ⟨b, 2, none⟩ (.int .i64 (-1))) b t #[.string s, .int .i64 p, .int .i64 (-1)] := by simpa using hb.set_ 2 (.int .i64 (-1))
  have HB1 := Lib.hid hb1
  have c0 := hb1.cell 0
  have c1 := hb1.cell 1
  have g1 := hb1.frozen 1
  simp at c0 c1 q2
  have hi0 : (0 : Int) ≤ (p : Int) := by omega
  have hi1 : (p : Int) < (s.size : Int) := by omega
  have hs1 : (s.size : Int) ≤ 400000 := by omega
  have hlt : decide ((s.size : Int) ≤ (p : Int)) = false := decide_eq_false (by omega)
  clear hb1
  go_enter Tryz.func151, Tryz.ntmps151
  go_wp2
  go_quiet (fail)
  go_wp2
  go_quiet (fail)
  go_wp2
  go_ret2
  refine ⟨rfl, by simpa using (HB1.out.drewN _).set_ 1 (.int .i64 ((p : Int) + 1)), ?_⟩
  exact ((Inside.set (S := fun i => i = b) w ⟨b, 2, none⟩ _ rfl).trans' (Inside.of_ext ((Ext.refl _).drewN _))).trans' (Inside.set (S := fun i => i = b) _ ⟨b, 1, none⟩ _ rfl)

set_option maxRecDepth 100000 in
set_option maxHeartbeats 1000000 in
theorem readByte_end (s : ByteArray) (p : Nat) (q : Int) (b : Nat) (t : TypeId) (T : TypeId) (y : Value) (w : World) (hs : s.size ≤ 400000) (hp : s.size ≤ p) (hp2 : p ≤ 400000) (hb : Blk w b t #[.string s, .int .i64 p, .int .i64 q]) (he : EofIs w T y) (hne : b ≠ 2) :
    Calls Tryz.prog 151 #[.pointer (some ⟨b, 0, none⟩)] w fun e w' => e = .returned (.tuple #[.int .u8 0, .iface T y]) ∧ Blk w' b t #[.string s, .int .i64 p, .int .i64 (-1)] ∧ Inside (fun i => i = b) w w' := by
  have q2 := hb.cell 2
  have f1 := hb.frozen 1
  have f2 := hb.frozen 2
  have hb1 : Blk (w.setCell ⟨b, 2, none⟩ (.int .i64 (-1))) b t #[.string s, .int .i64 p, .int .i64 (-1)] := by simpa using hb.set_ 2 (.int .i64 (-1))
  have he1 : (w.setCell ⟨b, 2, none⟩ (.int .i64 (-1))).cell? ⟨2, 0, none⟩ = some (.iface T y) := he.inside (Inside.set (S := fun i => i = b) w ⟨b, 2, none⟩ _ rfl) (fun e => hne (Eq.symm e))
  have HB1 := Lib.hid hb1
  have c0 := hb1.cell 0
  have c1 := hb1.cell 1
  simp at c0 c1 q2
  have hi0 : (0 : Int) ≤ (p : Int) := by omega
  have hs1 : (s.size : Int) ≤ 400000 := by omega
  have hlt : decide ((s.size : Int) ≤ (p : Int)) = true := decide_eq_true (by omega)
  clear hb1
  go_enter Tryz.func151, Tryz.ntmps151
  go_wp2
  go_quiet (fail)
  go_wp2
  go_quiet (fail)
  go_wp2
  go_ret2
  refine ⟨rfl, (HB1.out.drewN _).drewN _, ?_⟩
  exact ((Inside.set (S := fun i => i = b) w ⟨b, 2, none⟩ _ rfl).trans' (Inside.of_ext ((Ext.refl _).drewN _))).trans' (Inside.of_ext ((Ext.refl _).drewN _))

/-- What reading a line hands back: the line with its newline, or none where there is none. -/
def LineGot (s : ByteArray) (p b : Nat) (t : TypeId) (e : Ending) (w' : World) : Prop :=
  (∃ x r, s.data.toList.drop p = x ++ 10 :: r ∧ (10 : UInt8) ∉ x ∧ e = .returned (.tuple #[.string (strOf (x ++ [10])), .bool true]) ∧ Blk w' b t #[.string s, .int .i64 (p + (x.length + 1) : Nat), .int .i64 (-1)]) ∨
  ((10 : UInt8) ∉ s.data.toList.drop p ∧ e = .returned (.tuple #[.string ⟨#[]⟩, .bool false]))

set_option maxRecDepth 100000 in
set_option maxHeartbeats 1000000 in
theorem line_any (s : ByteArray) (p : Nat) (q : Int) (b : Nat) (t : TypeId) (T : TypeId) (y : Value) (w : World) (hs : s.size ≤ 400000) (hp : p ≤ s.size) (hb : Blk w b t #[.string s, .int .i64 p, .int .i64 q]) (he : EofIs w T y) (hne : b ≠ 2) :
    Calls Tryz.prog 116 #[.pointer (some ⟨b, 0, none⟩)] w fun e w' => LineGot s p b t e w' ∧ Inside (fun i => i = b) w w' := by
  have hlt := hb.lt
  have heof := cell_lt he
  have HB := Lib.hid (hb.alloc (.cells #[.pointer none, .slice none 0 0] 64))
  have HE := Lib.hid (he.ext ((Ext.refl w).alloc (.cells #[.pointer none, .slice none 0 0] 64)))
  have HF := Lib.hid (Builds.fresh w)
  clear hb he
  go_enter Tryz.func116, Tryz.ntmps116
  go_wp2
  go_loopg [] (s.size - p) (fun gk wr => ∃ (k : Nat) (q : Int) (l : List UInt8), gk = s.size - (p + k) ∧ p + k ≤ s.size ∧ Hid (l = (s.data.toList.drop p).take k) ∧ Hid ((10 : UInt8) ∉ l) ∧ Hid (Blk wr b t #[.string s, .int .i64 (p + k : Nat), .int .i64 q]) ∧ Hid (EofIs wr T y) ∧ Hid (Builds w.heap.size w.heap.size l wr) ∧ Inside (fun i => i = b) w wr ∧ w.heap.size < wr.heap.size)
  case atStart => exact ⟨0, q, [], by omega, by omega, Lib.hid (by simp), Lib.hid (by simp), HB, HE, HF, Inside.of_ext ((Ext.refl _).alloc _), by simp⟩
  case round =>
    obtain ⟨k, q, l, rfl, hpk, hl, h10, hb, he, hf, hin, hsz⟩ := hrel
    have hll : l.length = k := by rw [hl.out, List.length_take, List.length_drop]; have e : s.data.toList.length = s.size := (by simp); omega
    by_cases hlt' : p + k < s.size
    · have hat : s.data.toList[p + k]? = some s[p + k] := by rw [List.getElem?_eq_getElem (by simpa using hlt')]; rfl
      have HT := Lib.hid (show (s.data.toList.drop p).take (k + 1) = l ++ [s[p + k]] from by
        rw [hl.out]
        have h2 : (s.data.toList.drop p)[k]? = some s[p + k] := by rw [List.getElem?_drop]; exact hat
        obtain ⟨h3, h4⟩ := List.getElem?_eq_some_iff.1 h2
        rw [List.take_succ_eq_append_getElem h3, h4])
      obtain ⟨c, hc⟩ : ∃ c, c = s[p + k] := ⟨_, rfl⟩
      have HR := Lib.hid (show Calls Tryz.prog 151 #[.pointer (some ⟨b, 0, none⟩)] wr fun e w' => e = .returned (.tuple #[.int .u8 c.toNat, .nilIface]) ∧ Blk w' b t #[.string s, .int .i64 (p + (k + 1) : Nat), .int .i64 (-1)] ∧ Inside (fun i => i = b) wr w' from hc ▸ readByte_more s (p + k) q b t wr hs hlt' hb.out)
      rw [← hc] at HT hat
      have hc8 : c.toNat < 256 := c.toNat_lt
      by_cases hcn : c = 10
      · have hg : ((c.toNat : Int) == 10) = true := by rw [hcn]; rfl
        have HL := Lib.hid (show s.data.toList.drop p = l ++ 10 :: s.data.toList.drop (p + k + 1) from by
          have h2 : (s.data.toList.drop p)[k]? = some c := by rw [List.getElem?_drop]; exact hat
          obtain ⟨h3, h4⟩ := List.getElem?_eq_some_iff.1 h2
          conv => lhs; rw [← List.take_append_drop k (s.data.toList.drop p), List.drop_eq_getElem_cons h3, h4, hcn, ← hl.out, List.drop_drop]
          rw [show p + (k + 1) = p + k + 1 from by omega])
        have HCN := Lib.hid hcn
        clear hc hat hcn
        go_wp2_with (first
          | (go_at_call 151; refine HR.out.mono ?_; rintro e w1 ⟨rfl, hb1, hi1⟩; have HB1 := Lib.hid hb1; have HI1 := Lib.hid hi1; have hz1 := hi1.size; have hf1 := Builds.inside hf.out hi1 (fun i hi => by omega); have HF1 := Lib.hid hf1; clear hb1 hi1 hf1)
          | (go_at_call 80; refine (writeByte_any w.heap.size w.heap.size l c _ HF1.out (by omega) (by omega)).mono ?_; rintro e w2 ⟨rfl, hf2, hb2, hk2⟩; have HF2 := Lib.hid hf2; have HB2 := Lib.hid (HB1.out.below hb2 hlt); have HI2 := Lib.hid hb2; have hz2 := hb2.size; clear hf2 hb2 hk2)
          | (go_at_call 39; refine (string_any w.heap.size w.heap.size (l ++ [c]) _ HF2.out (by omega)).mono ?_; rintro e w3 ⟨rfl, hb3⟩; have HB3 := Lib.hid hb3; clear hb3))
        go_ret2
        refine ⟨.inl ⟨l, _, HL.out, h10.out, ?_, ?_⟩, ?_⟩
        · rw [HCN.out]; rfl
        · rw [hll]; exact HB2.out.below HB3.out hlt
        · exact ((hin.trans' HI1.out).below HI2.out (Nat.le_refl _)).below HB3.out (Nat.le_refl _)
      · have hg : ((c.toNat : Int) == 10) = false := by
          rw [beq_eq_false_iff_ne]; intro e; exact hcn (UInt8.toNat_inj.1 (by show _ = 10; omega))
        have HNO := Lib.hid (show (10 : UInt8) ∉ l ++ [c] from by
          intro hm
          rcases List.mem_append.1 hm with hm | hm
          · exact h10.out hm
          · simp at hm; exact hcn hm.symm)
        clear hc hat hcn
        go_wp2_with (first
          | (go_at_call 151; refine HR.out.mono ?_; rintro e w1 ⟨rfl, hb1, hi1⟩; have HB1 := Lib.hid hb1; have HI1 := Lib.hid hi1; have hz1 := hi1.size; have hf1 := Builds.inside hf.out hi1 (fun i hi => by omega); have HF1 := Lib.hid hf1; clear hb1 hi1 hf1)
          | (go_at_call 80; refine (writeByte_any w.heap.size w.heap.size l c _ HF1.out (by omega) (by omega)).mono ?_; rintro e w2 ⟨rfl, hf2, hb2, hk2⟩; have HF2 := Lib.hid hf2; have HB2 := Lib.hid (HB1.out.below hb2 hlt); have HI2 := Lib.hid hb2; have hz2 := hb2.size; clear hf2 hb2 hk2))
        go_roundg (s.size - (p + (k + 1)))
        case rel =>
          have hin2 := (hin.trans' HI1.out).below HI2.out (Nat.le_refl _)
          exact ⟨k + 1, -1, l ++ [c], rfl, by omega, HT.out.symm, HNO, HB2, Lib.hid ((he.out.inside HI1.out (fun e => hne (Eq.symm e))).below' HI2.out heof), HF2, hin2, by omega⟩
        case measure => omega
    · have hend : p + k = s.size := by omega
      have HR := Lib.hid (readByte_end s (p + k) q b t T y wr hs (by omega) (by omega) hb.out he.out hne)
      have HN := Lib.hid (show (10 : UInt8) ∉ s.data.toList.drop p from by
        have h2 : (s.data.toList.drop p).take k = s.data.toList.drop p := List.take_of_length_le (by rw [List.length_drop]; have e : s.data.toList.length = s.size := (by simp); omega)
        rw [← h2, ← hl.out]; exact h10.out)
      go_wp2_with (go_at_call 151; refine HR.out.mono ?_; rintro e w1 ⟨rfl, hb1, hi1⟩; have HI1 := Lib.hid hi1; clear hi1)
      go_ret2
      exact ⟨.inr ⟨HN.out, rfl⟩, hin.trans' HI1.out⟩

end Go.Proofs.YthndnkafckapnaaGreatDoor
