/- The walks of the draws: of, l10Word, l10Var, l10Args. -/
import Derived.Test.YthndnkafckapnaaGreatDoorDraw
import Derived.Test.YthndnkafckapnaaGreatDoorApp
namespace Go.Proofs.YthndnkafckapnaaGreatDoor
open Go.RowKit

section
variable {rb : Nat} {a b c : World}
theorem Else.refl (rb : Nat) (w : World) : Else rb w w := ⟨rfl, rfl, rfl, Nat.le_refl _, fun _ _ _ => rfl⟩
theorem Else.of_ext (h : Ext a b) : Else rb a b := ⟨h.os, h.tape, h.output, h.size, fun k hk _ => h.block k hk⟩
theorem Else.trans' (h : Else rb a b) (k : Else rb b c) : Else rb a c :=
  ⟨k.os.trans h.os, k.tape.trans h.tape, k.output.trans h.output, Nat.le_trans h.size k.size, fun i hi hne => (k.block i (Nat.lt_of_lt_of_le hi h.size) hne).trans (h.block i hi hne)⟩
theorem Else.agree (h : Else rb a b) : Agree (fun i => i ≠ rb) a b := fun i hi hb => h.block i hb (fun e => hi (by injection e))
theorem Else.toExt (h : Ext a b) (k : Else rb b c) (hr : a.heap.size ≤ rb) : Ext a c :=
  ⟨k.os.trans h.os, k.tape.trans h.tape, k.output.trans h.output, Nat.le_trans h.size k.size, fun i hi => (k.block i (Nat.lt_of_lt_of_le hi h.size) (fun e => by injection e; omega)).trans (h.block i hi)⟩
theorem Else.cell {g o : Nat} (h : Else rb a b) (hg : g ≠ rb) (hlt : g < a.heap.size) : b.cell? ⟨g, o, none⟩ = a.cell? ⟨g, o, none⟩ := World.cell?_of_block (h.agree g hg hlt)
theorem Else.frozen {g o : Nat} (h : Else rb a b) (hg : g ≠ rb) (hlt : g < a.heap.size) : b.frozen? ⟨g, o, none⟩ = a.frozen? ⟨g, o, none⟩ := World.frozen?_of_block (h.agree g hg hlt)
end
theorem Reader.ext {w w' : World} {rb p : Nat} (h : Reader w rb p) (he : Ext w w') : Reader w' rb p := by
  obtain ⟨A, n, c, xs, h1, h2, h3, h4⟩ := h
  exact ⟨A, n, c, xs, h1.ext he, h2, h3, h4.ext he⟩

theorem Reader.keep {w w' : World} {rb p : Nat} (h : Reader w rb p) (he : Agree (fun b => b ≤ rb) w w') (hsz : w.heap.size ≤ w'.heap.size) : Reader w' rb p := by
  obtain ⟨A, n, c, xs, h1, h2, h3, h4⟩ := h
  exact ⟨A, n, c, xs, h1.imp (fun _ h => h) (fun b hb => he b (Nat.le_of_lt hb)) hsz, h2, h3, (he rb (Nat.le_refl _) h4.lt).trans h4⟩

/-- A reader of which at most m bytes have been asked for. -/
def Rd (w : World) (rb m : Nat) : Prop := ∃ p, p ≤ m ∧ Reader w rb p
theorem Rd.ext {w w' : World} {rb m : Nat} (h : Rd w rb m) (he : Ext w w') : Rd w' rb m := let ⟨p, h1, h2⟩ := h; ⟨p, h1, h2.ext he⟩
theorem Rd.keep {w w' : World} {rb m : Nat} (h : Rd w rb m) (he : Agree (fun b => b ≤ rb) w w') (hsz : w.heap.size ≤ w'.heap.size) : Rd w' rb m := let ⟨p, h1, h2⟩ := h; ⟨p, h1, h2.keep he hsz⟩
theorem Rd.le {w : World} {rb m n : Nat} (h : Rd w rb m) (he : m ≤ n) : Rd w rb n := let ⟨p, h1, h2⟩ := h; ⟨p, Nat.le_trans h1 he, h2⟩
theorem Rd.lt {w : World} {rb m : Nat} (h : Rd w rb m) : rb < w.heap.size := let ⟨_, _, _, _, _, _, _, _, _, h4⟩ := h; h4.lt

theorem rdPick_any (rb m n : Nat) (w : World) (hn : 1 ≤ n ∧ n ≤ 1000000) (hr : Rd w rb m) (hp : m + 1 ≤ 1000000) :
    Calls Tryz.prog 74 #[.pointer (some ⟨rb, 0, none⟩), .int .i64 n] w fun e w' => (∃ z : Nat, z < n ∧ e = .returned (.int .i64 z)) ∧ Rd w' rb (m + 1) ∧ Else rb w w' := by
  obtain ⟨p, h1, h2⟩ := hr
  exact (pick_any rb p n w hn h2 (by omega)).mono fun _ _ ⟨h3, h4, h5⟩ => ⟨h3, ⟨_, by omega, h4⟩, h5⟩

set_option maxHeartbeats 1000000 in
theorem of_any (rb m : Nat) (v : Value) (xs : List ByteArray) (w : World) (hv : StrsR (fun b => b ≠ rb) w v xs) (hn : 1 ≤ xs.length ∧ xs.length ≤ 1000000) (hr : Rd w rb m) (hp : m + 1 ≤ 1000000) :
    Calls Tryz.prog 90 #[.pointer (some ⟨rb, 0, none⟩), v] w fun e w' => (∃ s, s ∈ xs ∧ s.size ≤ maxLen ∧ e = .returned (.string s)) ∧ Rd w' rb (m + 1) ∧ Else rb w w' := by
  obtain ⟨A, c, rfl, hc1, hc2⟩ := SliceR.form hv
  have HV := Lib.hid hv
  have HR := Lib.hid hr
  obtain ⟨hn1, hn2⟩ := hn
  clear hv hr
  go_enter Tryz.func90, Tryz.ntmps90
  go_wp2_with (go_at_call 74; refine (rdPick_any rb m xs.length _ ⟨hn1, hn2⟩ HR.out hp).mono ?_; rintro e w1 ⟨⟨z, hz, rfl⟩, hr1, he1⟩; obtain ⟨b, off, x, rfl, hb, hxk, hxs, hc0⟩ := StrsR.at_ (HV.out.imp (fun _ h => h) he1.agree he1.size) hz; have HX := Lib.hid (List.mem_of_getElem? hxk); have HR1 := Lib.hid hr1; have HE1 := Lib.hid he1; clear hxk hr1 he1)
  go_ret
  exact ⟨⟨x, HX.out, hxs, rfl⟩, HR1.out, HE1.out⟩

/-- Texts laid down one by one. -/
theorem strs_block {w : World} {g : Nat} {t : TypeId} {rb : Nat} (ss : List ByteArray) (hb : Blk w g t (ss.map Value.string).toArray) (hne : g ≠ rb) (hs : ∀ s ∈ ss, s.size ≤ 1000) (hl : ss.length ≤ 1000) :
    StrsR (fun b => b ≠ rb) w (.slice (some ⟨g, 0, none⟩) ss.length ss.length) ss := by
  refine ⟨_, ss.length, rfl, Nat.le_refl _, by unfold maxLen; omega, fun _ => ⟨g, 0, rfl, hb.lt, hne, fun i x hx => ⟨[.string x], rfl, fun j u hu => ?_, rfl, ?_⟩⟩⟩
  · match j, hu with
    | 0, hu =>
      simp at hu; subst hu
      rw [hb.cell]
      simp [hx]
  · have := hs x (List.mem_of_getElem? hx); unfold maxLen; omega

end Go.Proofs.YthndnkafckapnaaGreatDoor
