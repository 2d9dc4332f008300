/- Part of the texts of a proof; what they say stands at each theorem. -/
import Derived.Test.YtmihponoillihaaGreatDoorRows
import Derived.Test.YtmihponoillihaaGreatDoorBas01
import Derived.Test.YtmihponoillihaaGreatDoorBas02
import Derived.Laws.BitsAllLaws
import Derived.Laws.BitsLemmas
import Derived.Deep.RegionLaw
import Derived.Test.YtmihponoillihaaGreatDoorBas03
set_option linter.unusedSimpArgs false
set_option linter.unusedVariables false
namespace Go.Proofs.YtmihponoillihaaGreatDoor
open Go.RowKit
def ByteE (_ : World) (cs : List Value) (c : UInt8) : Prop := cs = [.int .u8 c.toNat]
def BytesR (S : Nat → Prop) : World → Value → List UInt8 → Prop := SliceR S 1 ByteE
theorem BytesR.imp {S S' : Nat → Prop} {w w' : World} {v : Value} {xs : List UInt8} (h : BytesR S w v xs) (hS : ∀ b, S b → S' b) (he : Agree S w w') (hsz : w.heap.size ≤ w'.heap.size) : BytesR S' w' v xs :=
 SliceR.imp (E := ByteE) (w := w) (fun _ _ _ h => h) hS h he hsz
theorem BytesR.ext {S : Nat → Prop} {w w' : World} {v : Value} {xs : List UInt8} (h : BytesR S w v xs) (he : Ext w w') : BytesR S w' v xs := h.imp (fun _ h => h) (.of_ext he) he.size
theorem BytesR.at_ {S : Nat → Prop} {w : World} {A : Option Addr} {n c : Nat} {xs : List UInt8} (h : BytesR S w (.slice A n c) xs) {k : Nat} (hk : k < n) :
 ∃ (b off : Nat) (x : UInt8), A = some ⟨b, off, none⟩ ∧ b < w.heap.size ∧ xs[k]? = some x ∧ w.cell? ⟨b, off + k, none⟩ = some (.int .u8 x.toNat) := by
 obtain ⟨b, off, x, cs, hA, hb, hx, _, hc, rfl⟩ := SliceR.at_ h hk; exact ⟨b, off, x, hA, hb, hx, by simpa using hc 0 _ rfl⟩
theorem SliceR.take {α : Type} {S : Nat → Prop} {size : Nat} {E : World → List Value → α → Prop} {w : World} {A : Option Addr} {n c : Nat} {xs : List α} (h : SliceR S size E w (.slice A n c) xs) (k : Nat) (hk : k ≤ n) : SliceR S size E w (.slice A k c) (xs.take k) := by
 obtain ⟨A', c', hv, h1, h2, h3⟩ := h
 injection hv with hA hn hc
 subst hA; subst hn; subst hc
 have hl : (xs.take k).length = k := by rw [List.length_take]; omega
 refine ⟨A, c, by rw [hl], by omega, h2, fun h0 => ?_⟩; obtain ⟨b, off, ha, hb, hs, hcell⟩ := h3 (by omega)
 exact ⟨b, off, ha, hb, hs, fun i x hx => hcell i x (by
  rw [List.getElem?_take] at hx
  split at hx
  · exact hx
  cases hx)⟩
theorem SliceR.low {α : Type} {S : Nat → Prop} {size : Nat} {E : World → List Value → α → Prop} {w : World} {v : Value} {xs : List α} (h : SliceR S size E w v xs) : SliceR (fun b => b < w.heap.size) size E w v xs := by
 obtain ⟨A, c, hv, h1, h2, h3⟩ := h; refine ⟨A, c, hv, h1, h2, fun h0 => ?_⟩; obtain ⟨b, off, ha, hb, _, hcell⟩ := h3 h0; exact ⟨b, off, ha, hb, hb, hcell⟩
theorem BytesR.aside {S : Nat → Prop} {w : World} {v : Value} {xs : List UInt8} (h : BytesR S w v xs) (o : Obj) : BytesR (fun b => b < w.heap.size) (w.alloc o) v xs :=
 BytesR.imp (w := w) (SliceR.low h) (fun b hb => hb) (.of_ext ((Ext.refl w).alloc o)) (by go_size)
def Reader (w : World) (rb : Nat) (p : Nat) : Prop :=
 ∃ A n c xs, BytesR (fun b => b < rb) w (.slice A n c) xs ∧ n ≤ 2000 ∧ p ≤ 1000000 ∧ Blk w rb 134 #[.slice A n c, .int .i64 p]
def Else (rb : Nat) (w w' : World) : Prop := w.grownBy w' (some rb)
theorem reader_post {w W : World} {rb p n c : Nat} {A : Option Addr} {xs : List UInt8} (hb : BytesR (fun b => b < rb) w (.slice A n c) xs) (hn : n ≤ 2000) (hk : Blk w rb 134 #[.slice A n c, .int .i64 p]) (hp : p + 1 ≤ 1000000)
 (h : Ext (w.setCell ⟨rb, 1, none⟩ (.int .i64 ((p : Int) + 1))) W) : Reader W rb (p + 1) ∧ Else rb w W := by
 have h1 : Agree (fun b => b < rb) w (w.setCell ⟨rb, 1, none⟩ (.int .i64 ((p : Int) + 1))) := (Agree.refl _ _).setCell (by simp) _; refine ⟨⟨A, n, c, xs, (hb.imp (fun _ h => h) h1 (by go_size)).ext h, hn, hp, ?_⟩, ?_⟩
 · have := (hk.set_ 1 (.int .i64 ((p : Int) + 1))).ext h
   simpa using this
 exact ⟨h.os, h.tape, h.output, by have := h.size; simpa [World.setCell] using this, fun k hk hne => (h.block k (by simpa [World.setCell] using hk)).trans (Below.heap_setCell _ _ _ _ (fun e => hne (by rw [e])))⟩
theorem ofInt_small (a : Nat) (ha : a < 4611686018427387904) : (BitVec.ofInt 64 (a : Int)).toNat = a := by
 rw [BitVec.ofInt_natCast, BitVec.toNat_ofNat]; exact Nat.mod_eq_of_lt (by omega)
theorem xor_nat (a b : Nat) (ha : a < 4611686018427387904) (hb : b < 4611686018427387904) : bits .xor .i64 (a : Int) (b : Int) = ((a ^^^ b : Nat) : Int) := by
 have hx : a ^^^ b < 2 ^ 62 := Nat.xor_lt_two_pow (by omega) (by omega); show IntKind.i64.wrap ((BitVec.ofInt 64 (a : Int) ^^^ BitVec.ofInt 64 (b : Int)).toNat : Int) = _; rw [BitVec.toNat_xor, ofInt_small a ha, ofInt_small b hb, IntKind.wrap_i64]; omega
set_option maxRecDepth 100000 in
set_option maxHeartbeats 4000000 in
theorem pick_any (rb p n : Nat) (w : World) (hn : 1 ≤ n ∧ n ≤ 1000000) (hr : Reader w rb p) (hp : p + 1 ≤ 1000000) :
 Calls Tryz.prog 73 #[.pointer (some ⟨rb, 0, none⟩), .int .i64 n] w fun e w' => (∃ z : Nat, z < n ∧ e = .returned (.int .i64 z)) ∧ Reader w' rb (p + 1) ∧ Else rb w w' := by
 obtain ⟨A, m, c, xs, hb, hm, hpp, hk⟩ := hr; obtain ⟨hn1, hn2⟩ := hn; have q0 := hk.cell 0; have q1 := hk.cell 1; have f0 := hk.frozen 0; have f1 := hk.frozen 1; have HB := Lib.hid hb; have HK := Lib.hid hk; have HP := Lib.hid hp; have HM := Lib.hid hm; clear hb hk; have g1 : decide ((n : Int) < 1) = false := decide_eq_false (by omega)
 by_cases h0 : m = 0
 · subst h0
   go_enter Tryz.func73, Tryz.ntmps73
   go_wp2; go_ret; exact ⟨⟨0, by omega, rfl⟩, reader_post HB.out HM.out HK.out HP.out (Ext.refl _)⟩
 have g2 : (((m : Nat) : Int) == 0) = false := by rw [beq_eq_false_iff_ne]; omega
 have hm1 : 1 ≤ m := by omega
 by_cases hlt : p < m
 · obtain ⟨b, off, x, rfl, hbb, hxk, hc0⟩ := BytesR.at_ HB.out hlt
   have hbne : b ≠ rb := by
    intro e; obtain ⟨A', c', hv, _, _, h3⟩ := HB.out
    injection hv with hA hn' _
    obtain ⟨b', off', ha, _, hs, _⟩ := h3 (by omega); rw [ha] at hA
    injection hA with hA
    injection hA with hA _
    subst e; rw [hA] at hs; omega
   have hx8 : x.toNat < 256 := x.toNat_lt; clear hxk h0
   go_enter Tryz.func73, Tryz.ntmps73
   go_wp2; go_ret; exact ⟨⟨x.toNat % n, Nat.mod_lt _ (by omega), ret_int (by simp)⟩, reader_post HB.out HM.out HK.out HP.out (Ext.refl _)⟩
 obtain ⟨b, off, x, rfl, hbb, hxk, hc0⟩ := BytesR.at_ HB.out (k := p % m) (Nat.mod_lt _ (by omega)); obtain ⟨b', off', y, hbe, hbb', hyk, hd0⟩ := BytesR.at_ HB.out (k := (p * 7 + 3) % m) (Nat.mod_lt _ (by omega))
 injection hbe with hbe
 injection hbe with e1 e2
 subst e1; subst e2
 have hbne : b ≠ rb := by
  intro e; obtain ⟨A', c', hv, _, _, h3⟩ := HB.out
  injection hv with hA hn' _
  obtain ⟨b', off', ha, _, hs, _⟩ := h3 (by omega); rw [ha] at hA
  injection hA with hA
  injection hA with hA _
  subst e; rw [hA] at hs; omega
 have hx8 : x.toNat < 256 := x.toNat_lt; have hy8 : y.toNat < 256 := y.toNat_lt; have i10 : (0 : Int) ≤ (p : Int) % (m : Int) := Int.emod_nonneg _ (by omega); have i11 : (p : Int) % (m : Int) < (m : Int) := Int.emod_lt_of_pos _ (by omega); have i20 : (0 : Int) ≤ ((p : Int) * 7 + 3) % (m : Int) := Int.emod_nonneg _ (by omega); have i21 : ((p : Int) * 7 + 3) % (m : Int) < (m : Int) := Int.emod_lt_of_pos _ (by omega)
 have j1 : ((p : Int) % (m : Int)).toNat = p % m := by rw [← Int.natCast_emod, Int.toNat_natCast]
 have j2 : (((p : Int) * 7 + 3) % (m : Int)).toNat = (p * 7 + 3) % m := by
  rw [show ((p : Int) * 7 + 3) = ((p * 7 + 3 : Nat) : Int) from by push_cast; rfl, ← Int.natCast_emod, Int.toNat_natCast]
 have hrl := HK.out.lt; have g3 : decide (p < m) = false := decide_eq_false hlt; have hdiv : p / m ≤ p := Nat.div_le_self _ _; have d0 : (0 : Int) ≤ (p : Int) / (m : Int) := Int.ediv_nonneg (by omega) (by omega)
 have d1 : (p : Int) / (m : Int) ≤ 1000000 := by rw [← Int.natCast_ediv]; omega
 obtain ⟨t, ht, ht2⟩ : ∃ t : Nat, (x.toNat : Int) * 131 + (y.toNat : Int) * 1117 + (p : Int) * 29 + (p : Int) / (m : Int) * 53 = (t : Int) ∧ t < 1000000000 :=
  ⟨x.toNat * 131 + y.toNat * 1117 + p * 29 + p / m * 53, by push_cast; rfl, by omega⟩
 obtain ⟨z, hz, hz2⟩ : ∃ z : Nat, bits .xor .i64 (t : Int) ((t : Int) / 64) = (z : Int) ∧ z < 4611686018427387904 := by
  refine ⟨t ^^^ (t / 64), ?_, ?_⟩
  · rw [show ((t : Int) / 64) = ((t / 64 : Nat) : Int) from by push_cast; rfl]
    exact xor_nat t (t / 64) (by omega) (by omega)
  have : t ^^^ (t / 64) < 2 ^ 62 := Nat.xor_lt_two_pow (by omega) (by omega); omega
 clear hxk hyk h0 hdiv
 go_enter Tryz.func73, Tryz.ntmps73
 go_wp2; refine calm_region (by kernel_rfl) (by kernel_rfl) ?_
 repeat (go_big_quiet_step (fail))
 refine wpQuiet_nil ?_; rintro w1 ⟨⟨_, hx1⟩, rfl⟩; clear hc0 hd0 i10 i11 i20 i21 j1 j2 d0 d1 q0 q1 f0 f1; go_wp2; go_ret; exact ⟨⟨z % n, Nat.mod_lt _ (by omega), ret_int (by simp)⟩, reader_post HB.out HM.out HK.out HP.out hx1⟩
set_option maxRecDepth 100000 in
set_option maxHeartbeats 1000000 in
theorem l1Open_any (v : Value) (xs : List UInt8) (w : World) {S : Nat → Prop} (hv : BytesR S w v xs) :
 Calls Tryz.prog 29 #[v] w fun e w' => ∃ rb, e = .returned (.pointer (some ⟨rb, 0, none⟩)) ∧ Reader w' rb 0 ∧ Ext w w' ∧ w.heap.size ≤ rb := by
 obtain ⟨A, c, rfl, hc1, hc2⟩ := SliceR.form hv; have HV := Lib.hid hv; clear hv
 by_cases h : xs.length ≤ 2000
 · go_enter Tryz.func29, Tryz.ntmps29
   go_wp2; go_ret; refine ⟨w.heap.size, rfl, ⟨A, xs.length, c, xs, ?_, h, by omega, Blk.new _ _ _⟩, (Ext.refl _).alloc _, Nat.le_refl _⟩; exact HV.out.aside _
 go_enter Tryz.func29, Tryz.ntmps29
 go_wp2; go_ret; refine ⟨w.heap.size, rfl, ⟨A, 2000, c, xs.take 2000, ?_, Nat.le_refl _, by omega, Blk.new _ _ _⟩, (Ext.refl _).alloc _, Nat.le_refl _⟩; exact BytesR.aside (S := S) (w := w) (SliceR.take HV.out 2000 (by omega)) _
end Go.Proofs.YtmihponoillihaaGreatDoor
namespace Go.Proofs.YtmihponoillihaaGreatDoor
open Go.RowKit
section
variable {rb : Nat} {a b c : World}
theorem Else.refl (rb : Nat) (w : World) : Else rb w w := ⟨rfl, rfl, rfl, Nat.le_refl _, fun _ _ _ => rfl⟩
theorem Else.of_ext (h : Ext a b) : Else rb a b := ⟨h.os, h.tape, h.output, h.size, fun k hk _ => h.block k hk⟩
theorem Else.trans' (h : Else rb a b) (k : Else rb b c) : Else rb a c :=
 ⟨k.os.trans h.os, k.tape.trans h.tape, k.output.trans h.output, Nat.le_trans h.size k.size, fun i hi hne => (k.block i (Nat.lt_of_lt_of_le hi h.size) hne).trans (h.block i hi hne)⟩
theorem Else.agree (h : Else rb a b) : Agree (fun i => i ≠ rb) a b := fun i hi hb => h.block i hb (fun e => hi (by injection e))
theorem Else.toExt (h : Ext a b) (k : Else rb b c) (hr : a.heap.size ≤ rb) : Ext a c :=
 ⟨k.os.trans h.os, k.tape.trans h.tape, k.output.trans h.output, Nat.le_trans h.size k.size, fun i hi => (k.block i (Nat.lt_of_lt_of_le hi h.size) (fun e => by injection e; omega)).trans (h.block i hi)⟩
theorem Else.cell {g o : Nat} (h : Else rb a b) (hg : g ≠ rb) (hlt : g < a.heap.size) : b.cell? ⟨g, o, none⟩ = a.cell? ⟨g, o, none⟩ := World.cell?_of_block (h.agree g hg hlt)
end
theorem Reader.ext {w w' : World} {rb p : Nat} (h : Reader w rb p) (he : Ext w w') : Reader w' rb p := by
 obtain ⟨A, n, c, xs, h1, h2, h3, h4⟩ := h; exact ⟨A, n, c, xs, h1.ext he, h2, h3, h4.ext he⟩
theorem Reader.keep {w w' : World} {rb p : Nat} (h : Reader w rb p) (he : Agree (fun b => b ≤ rb) w w') (hsz : w.heap.size ≤ w'.heap.size) : Reader w' rb p := by
 obtain ⟨A, n, c, xs, h1, h2, h3, h4⟩ := h; exact ⟨A, n, c, xs, h1.imp (fun _ h => h) (fun b hb => he b (Nat.le_of_lt hb)) hsz, h2, h3, (he rb (Nat.le_refl _) h4.lt).trans h4⟩
def Rd (w : World) (rb m : Nat) : Prop := ∃ p, p ≤ m ∧ Reader w rb p
theorem Rd.ext {w w' : World} {rb m : Nat} (h : Rd w rb m) (he : Ext w w') : Rd w' rb m := let ⟨p, h1, h2⟩ := h; ⟨p, h1, h2.ext he⟩
theorem Rd.keep {w w' : World} {rb m : Nat} (h : Rd w rb m) (he : Agree (fun b => b ≤ rb) w w') (hsz : w.heap.size ≤ w'.heap.size) : Rd w' rb m := let ⟨p, h1, h2⟩ := h; ⟨p, h1, h2.keep he hsz⟩
theorem Rd.le {w : World} {rb m n : Nat} (h : Rd w rb m) (he : m ≤ n) : Rd w rb n := let ⟨p, h1, h2⟩ := h; ⟨p, Nat.le_trans h1 he, h2⟩
theorem Rd.lt {w : World} {rb m : Nat} (h : Rd w rb m) : rb < w.heap.size := let ⟨_, _, _, _, _, _, _, _, _, h4⟩ := h; h4.lt
theorem rdPick_any (rb m n : Nat) (w : World) (hn : 1 ≤ n ∧ n ≤ 1000000) (hr : Rd w rb m) (hp : m + 1 ≤ 1000000) :
 Calls Tryz.prog 73 #[.pointer (some ⟨rb, 0, none⟩), .int .i64 n] w fun e w' => (∃ z : Nat, z < n ∧ e = .returned (.int .i64 z)) ∧ Rd w' rb (m + 1) ∧ Else rb w w' := by
 obtain ⟨p, h1, h2⟩ := hr
 exact (pick_any rb p n w hn h2 (by omega)).mono fun _ _ ⟨h3, h4, h5⟩ => ⟨h3, ⟨_, by omega, h4⟩, h5⟩
set_option maxHeartbeats 1000000 in
theorem of_any (rb m : Nat) (v : Value) (xs : List ByteArray) (w : World) (hv : StrsR (fun b => b ≠ rb) w v xs) (hn : 1 ≤ xs.length ∧ xs.length ≤ 1000000) (hr : Rd w rb m) (hp : m + 1 ≤ 1000000) :
 Calls Tryz.prog 60 #[.pointer (some ⟨rb, 0, none⟩), v] w fun e w' => (∃ s, s ∈ xs ∧ s.size ≤ maxLen ∧ e = .returned (.string s)) ∧ Rd w' rb (m + 1) ∧ Else rb w w' := by
 obtain ⟨A, c, rfl, hc1, hc2⟩ := SliceR.form hv; have HV := Lib.hid hv; have HR := Lib.hid hr; obtain ⟨hn1, hn2⟩ := hn; clear hv hr
 go_enter Tryz.func60, Tryz.ntmps60
 go_wp2_with (go_at_call 73; refine (rdPick_any rb m xs.length _ ⟨hn1, hn2⟩ HR.out hp).mono ?_; rintro e w1 ⟨⟨z, hz, rfl⟩, hr1, he1⟩; obtain ⟨b, off, x, rfl, hb, hxk, hxs, hc0⟩ := StrsR.at_ (HV.out.imp (fun _ h => h) he1.agree he1.size) hz; have HX := Lib.hid (List.mem_of_getElem? hxk); have HR1 := Lib.hid hr1; have HE1 := Lib.hid he1; clear hxk hr1 he1)
 go_ret; exact ⟨⟨x, HX.out, hxs, rfl⟩, HR1.out, HE1.out⟩
theorem strs_block {w : World} {g : Nat} {t : TypeId} {rb : Nat} (ss : List ByteArray) (hb : Blk w g t (ss.map Value.string).toArray) (hne : g ≠ rb) (hs : ∀ s ∈ ss, s.size ≤ 1000) (hl : ss.length ≤ 1000) :
 StrsR (fun b => b ≠ rb) w (.slice (some ⟨g, 0, none⟩) ss.length ss.length) ss := by
 refine ⟨_, ss.length, rfl, Nat.le_refl _, by unfold maxLen; omega, fun _ => ⟨g, 0, rfl, hb.lt, hne, fun i x hx => ⟨[.string x], rfl, fun j u hu => ?_, rfl, ?_⟩⟩⟩
 · match j, hu with
   | 0, hu =>
     simp at hu; subst hu; rw [hb.cell]; simp [hx]
 have := hs x (List.mem_of_getElem? hx); unfold maxLen; omega
end Go.Proofs.YtmihponoillihaaGreatDoor
namespace Go.Proofs.YtmihponoillihaaGreatDoor
open Go.RowKit
def words : List ByteArray := [⟨#[97]⟩, ⟨#[98]⟩, ⟨#[99]⟩, ⟨#[100]⟩, ⟨#[97]⟩, ⟨#[98]⟩]
def vars5 : List ByteArray := [⟨#[88]⟩, ⟨#[89]⟩, ⟨#[90]⟩, ⟨#[88]⟩, ⟨#[89]⟩]
theorem strs_new {w : World} {rb m : Nat} {t : TypeId} (cs : Array Value) (ss : List ByteArray) (hcs : cs = (ss.map Value.string).toArray) (hr : Rd w rb m) (hs : ∀ s ∈ ss, s.size ≤ 1000) (hl : ss.length ≤ 1000) (n : Nat) (hn : n = ss.length) :
 StrsR (fun b => b ≠ rb) (w.alloc (.cells cs t)) (.slice (some ⟨w.heap.size, 0, none⟩) n n) ss := by
 subst hcs; subst hn; exact strs_block ss (Blk.new w t _) (by have := hr.lt; omega) hs hl
set_option maxRecDepth 100000 in
set_option maxHeartbeats 1000000 in
theorem l10Word_any (rb m : Nat) (w : World) (hr : Rd w rb m) (hp : m + 1 ≤ 1000000) :
 Calls Tryz.prog 221 #[.pointer (some ⟨rb, 0, none⟩)] w fun e w' => (∃ s : ByteArray, s.size ≤ 8 ∧ e = .returned (.string s)) ∧ Rd w' rb (m + 1) ∧ Else rb w w' := by
 have HR := Lib.hid hr; clear hr
 go_enter Tryz.func221, Tryz.ntmps221
 go_wp2_with (go_at_call 60; refine (of_any rb m _ words _ (strs_new _ words rfl HR.out (by decide) (by decide) _ rfl) (by decide) (HR.out.ext ((Ext.refl _).alloc _)) hp).mono ?_; rintro e w1 ⟨⟨s, hs, hs2, rfl⟩, hr1, he1⟩)
 go_ret; exact ⟨⟨s, (show ∀ s ∈ words, s.size ≤ 8 from by decide) s hs, rfl⟩, hr1, (Else.of_ext ((Ext.refl _).alloc _)).trans' he1⟩
set_option maxRecDepth 100000 in
set_option maxHeartbeats 1000000 in
theorem l10Var_any (rb m : Nat) (w : World) (hr : Rd w rb m) (hp : m + 1 ≤ 1000000) :
 Calls Tryz.prog 220 #[.pointer (some ⟨rb, 0, none⟩)] w fun e w' => (∃ s : ByteArray, s.size ≤ 8 ∧ e = .returned (.string s)) ∧ Rd w' rb (m + 1) ∧ Else rb w w' := by
 have HR := Lib.hid hr; clear hr
 go_enter Tryz.func220, Tryz.ntmps220
 go_wp2_with (go_at_call 60; refine (of_any rb m _ vars5 _ (strs_new _ vars5 rfl HR.out (by decide) (by decide) _ rfl) (by decide) (HR.out.ext ((Ext.refl _).alloc _)) hp).mono ?_; rintro e w1 ⟨⟨s, hs, hs2, rfl⟩, hr1, he1⟩)
 go_ret; exact ⟨⟨s, (show ∀ s ∈ vars5, s.size ≤ 8 from by decide) s hs, rfl⟩, hr1, (Else.of_ext ((Ext.refl _).alloc _)).trans' he1⟩
set_option maxHeartbeats 1000000 in
theorem l10Args_any (s : ByteArray) (w : World) :
 Calls Tryz.prog 219 #[.string s] w fun e w' => (∃ z : Nat, z ≤ 3 ∧ e = .returned (.int .i64 z)) ∧ w' = w := by
 go_enter Tryz.func219, Tryz.ntmps219
 go_wp2
 all_goals (go_ret; first | exact ⟨⟨2, by omega, rfl⟩, rfl⟩ | exact ⟨⟨0, by omega, rfl⟩, rfl⟩ | exact ⟨⟨3, by omega, rfl⟩, rfl⟩ | exact ⟨⟨1, by omega, rfl⟩, rfl⟩)
theorem own_form {w : World} {base : Nat} {e : TypeId} {size : Nat} {v : Value} {n : Nat} {rows : List Value} (h : w.ownsRow base e size v n rows) : ∃ A c, v = .slice A n c := by
 rcases h.2 with ⟨rfl, rfl⟩ | ⟨g, cap, cur, rfl, _⟩
 · exact ⟨_, _, rfl⟩
 exact ⟨_, _, rfl⟩
theorem own_else {w w' : World} {base rb : Nat} {e : TypeId} {size : Nat} {v : Value} {n : Nat} {rows : List Value} (h : w.ownsRow base e size v n rows) (he : Else rb w w') (hb : rb < base) : w'.ownsRow base e size v n rows :=
 h.kept he (by
  cases hv : v.ownBlock with
  | none => exact .inl rfl
  | some g => right; intro e; injection e with e; have := (h.lt g hv).1; omega)
theorem own_ext {w w' : World} {base : Nat} {e : TypeId} {size : Nat} {v : Value} {n : Nat} {rows : List Value} (h : w.ownsRow base e size v n rows) (he : Ext w w') : w'.ownsRow base e size v n rows :=
 h.kept (row := none) ⟨he.os, he.tape, he.output, he.size, fun k hk _ => he.block k hk⟩ (by
  cases hv : v.ownBlock with
  | none => exact .inl rfl
  | some g => right; simp)
theorem own_far {w w' : World} {base : Nat} {e : TypeId} {size : Nat} {v : Value} {n : Nat} {rows : List Value} (h : w.ownsRow base e size v n rows) (hg : w.grownBy w' v.ownBlock) (a : Addr) (ha : a.block < base) (hlt : a.block < w.heap.size) : w'.cell? a = w.cell? a :=
 hg.cell_far a hlt (by
  cases hv : v.ownBlock with
  | none => simp
  | some g => intro e; injection e with e; have := (h.lt g hv).1; omega)
theorem own_blk {w w' : World} {base : Nat} {e : TypeId} {size : Nat} {v : Value} {n : Nat} {rows : List Value} (h : w.ownsRow base e size v n rows) (hg : w.grownBy w' v.ownBlock) {g : Nat} {t : TypeId} {cs : Array Value} (hb : Blk w g t cs) (ha : g < base) : Blk w' g t cs :=
 (hg.block g hb.lt (by
  cases hv : v.ownBlock with
  | none => simp
  | some g => intro e; injection e with e; have := (h.lt g hv).1; omega)).trans hb
theorem Blk.else_ {w w' : World} {rb g : Nat} {t : TypeId} {cs : Array Value} (h : Blk w g t cs) (he : Else rb w w') (hne : g ≠ rb) : Blk w' g t cs := (he.agree g hne h.lt).trans h
def tiny (ts : List GT) : Prop := ts.length ≤ 3 ∧ ∀ t ∈ ts, t.n.size ≤ 8
theorem own_agree {w w' : World} {base : Nat} {e : TypeId} {size : Nat} {v : Value} {n : Nat} {rows : List Value} {S : Nat → Prop} (h : w.ownsRow base e size v n rows) (hg : w.grownBy w' v.ownBlock) (hS : ∀ b, S b → b < base) : Agree S w w' := fun b hb hlt =>
 hg.block b hlt (by
  cases hv : v.ownBlock with
  | none => simp
  | some g => intro e; injection e with e; have := (h.lt g hv).1; have := hS b hb; omega)
def AtomInv (w wr : World) (rb M : Nat) (name : ByteArray) (ts : List GT) (rows : List Value) (v : Value) (c0 : Array Value) : Prop :=
 c0.size = 2 ∧ Blk wr w.heap.size 54 c0 ∧ Blk wr (w.heap.size + 1) 54 #[.string name, v] ∧ wr.ownsRow (w.heap.size + 2) 71 2 v ts.length rows ∧ RowsE 2 TermE wr rows ts ∧ tiny ts ∧ Rd wr rb M ∧ Else rb w wr
theorem AtomInv.le {w wr : World} {rb M N : Nat} {name : ByteArray} {ts : List GT} {rows : List Value} {v : Value} {c0 : Array Value} (h : AtomInv w wr rb M name ts rows v c0) (hM : M ≤ N) : AtomInv w wr rb N name ts rows v c0 :=
 ⟨h.1, h.2.1, h.2.2.1, h.2.2.2.1, h.2.2.2.2.1, h.2.2.2.2.2.1, h.2.2.2.2.2.2.1.le hM, h.2.2.2.2.2.2.2⟩
theorem atom_end {w wr : World} {rb M : Nat} {name : ByteArray} {ts : List GT} {rows : List Value} {v : Value} {c0 : Array Value} (h : AtomInv w wr rb M name ts rows v c0) (hrl : rb < w.heap.size) (x y : Value) :
 TermsR (From w.heap.size) ((wr.setCell ⟨w.heap.size, 0, none⟩ x).setCell ⟨w.heap.size, 1, none⟩ y) v ts ∧ Rd ((wr.setCell ⟨w.heap.size, 0, none⟩ x).setCell ⟨w.heap.size, 1, none⟩ y) rb M ∧ Else rb w ((wr.setCell ⟨w.heap.size, 0, none⟩ x).setCell ⟨w.heap.size, 1, none⟩ y) := by
 obtain ⟨h1, h2, h3, h4, h5, h6, h7, h8⟩ := h
 have hA : ∀ S : Nat → Prop, (¬ S w.heap.size) → Agree S wr ((wr.setCell ⟨w.heap.size, 0, none⟩ x).setCell ⟨w.heap.size, 1, none⟩ y) := fun S hS => ((Agree.refl _ _).setCell hS _).setCell hS _
 refine ⟨?_, h7.keep (hA _ (by simp; omega)) (by go_size), ?_⟩
 · have := own_slice h4 h5 rfl
   exact TermsR.imp (S := From (w.heap.size + 2)) (w := wr) this (fromLe (by omega)) (hA _ (by simp)) (by go_size)
 refine ⟨h8.os, h8.tape, h8.output, by have := h8.size; go_size, fun k hk hne => ?_⟩; exact (hA (fun b => b < w.heap.size) (by simp) k hk (Nat.lt_of_lt_of_le hk h8.size)).trans (h8.block k hk hne)
theorem atom_step {w wr w2 w3 : World} {rb M M' g cap : Nat} {name s : ByteArray} {ts : List GT} {rows : List Value} {v : Value} {c0 : Array Value} {b : Bool} {o : Obj}
 (h : AtomInv w wr rb M name ts rows v c0) (hrl : rb < w.heap.size) (hq2 : Else rb wr w2) (hr2 : Rd w2 rb M') (hs : s.size ≤ 8) (hl : ts.length + 1 ≤ 3)
 (hown3 : w3.ownsRow (w.heap.size + 2) 71 2 (.slice (some ⟨g, 0, none⟩) (ts.length + 1) cap) (ts.length + 1) (rows ++ [.bool b, .string s])) (hgrow3 : (w2.alloc o).grownBy w3 v.ownBlock) :
 AtomInv w (w3.setCell ⟨w.heap.size + 1, 1, none⟩ (.slice (some ⟨g, 0, none⟩) (ts.length + 1) cap)) rb M' name (ts ++ [⟨b, s⟩]) (rows ++ [.bool b, .string s]) (.slice (some ⟨g, 0, none⟩) (ts.length + 1) cap) c0 := by
 obtain ⟨h1, h2, h3, h4, h5, h6, h7, h8⟩ := h; have ho := own_ext (own_else h4 hq2 (by omega)) ((Ext.refl w2).alloc o)
 have hA : ∀ S : Nat → Prop, (∀ b, S b → b < w.heap.size) → Agree S w2 (w3.setCell ⟨w.heap.size + 1, 1, none⟩ (.slice (some ⟨g, 0, none⟩) (ts.length + 1) cap)) := fun S hS =>
  (((Agree.of_ext ((Ext.refl w2).alloc o)).trans' (own_agree ho hgrow3 (fun b hb => by have := hS b hb; omega)) (by go_size)).setCell (fun hb => by have := hS _ hb; simp at this; omega) _)
 have hz2 := hq2.size; have hz3 := hgrow3.size
 have hz : w2.heap.size ≤ w3.heap.size := by have : w2.heap.size ≤ (w2.alloc o).heap.size := by go_size
                                             omega
 have hw := h8.size; refine ⟨h1, ?_, ?_, ?_, ?_, ?_, ?_, ?_⟩
 · exact (own_blk ho hgrow3 ((h2.else_ hq2 (by omega)).alloc o) (by omega)).far (by simp) _
 · have := (own_blk ho hgrow3 ((h3.else_ hq2 (by omega)).alloc o) (by omega)).set_ 1 (.slice (some ⟨g, 0, none⟩) (ts.length + 1) cap)
   simpa using this
 · have := ownsRow_setCell_below hown3 (a := ⟨w.heap.size + 1, 1, none⟩) (by simp) (.slice (some ⟨g, 0, none⟩) (ts.length + 1) cap)
   simpa using this
 · exact (RowsE.mono (E' := TermE) (w' := w3.setCell ⟨w.heap.size + 1, 1, none⟩ (.slice (some ⟨g, 0, none⟩) (ts.length + 1) cap)) h5 (fun _ _ _ h => h)).append (RowsE.one rfl ⟨rfl, show s.size ≤ maxLen from by unfold maxLen; omega⟩)
 · refine ⟨by simp; omega, fun t ht => ?_⟩
   rcases List.mem_append.1 ht with ht | ht
   · exact h6.2 t ht
   simp at ht; subst ht; exact hs
 · exact hr2.keep (hA _ (fun b hb => by omega)) (by go_size)
 have hE := h8.trans' hq2; refine ⟨hgrow3.os.trans hE.os, hgrow3.tape.trans hE.tape, hgrow3.output.trans hE.output, by go_size, fun k hk hne => ?_⟩; exact (hA (fun b => b < w.heap.size) (fun _ h => h) k hk (by omega)).trans (hE.block k hk hne)
set_option maxRecDepth 100000 in
set_option maxHeartbeats 4000000 in
theorem l10AtomNo_any (rb m : Nat) (name : ByteArray) (w : World) (hs : name.size ≤ 1000) (hr : Rd w rb m) (hp : m + 6 ≤ 1000000) :
 Calls Tryz.prog 162 #[.pointer (some ⟨rb, 0, none⟩), .string name, .bool false] w fun e w' =>
  (∃ v ts, e = .returned (.agg #[.string name, v]) ∧ TermsR (From w.heap.size) w' v ts ∧ tiny ts) ∧ Rd w' rb (m + 6) ∧ Else rb w w' := by
 have hrl := hr.lt; have HR := Lib.hid hr; obtain ⟨i0, hi0, hz0, hz1, hz2⟩ := info_parts term_info; clear hr
 go_enter Tryz.func162, Tryz.ntmps162
 go_wp2_with (go_at_call 219; refine (l10Args_any name _).mono ?_; rintro e w1 ⟨⟨z, hz, rfl⟩, rfl⟩)
 go_loopw [8] (fun i wr => ∃ (k : Nat) (ts : List GT) (rows : List Value) (v : Value) (c0 : Array Value), i = .int .i64 k ∧ k + ts.length ≤ 3 ∧ Hid (AtomInv w wr rb (m + 2 * ts.length) name ts rows v c0)) (fun i _ => (intOf i).toNat)
 case atStart =>
  refine ⟨z, [], [], .slice none 0 0, #[.string ByteArray.empty, .slice none 0 0], rfl, by simpa using hz, rfl, ?_, ?_, ?_, RowsE.nil, ⟨by simp, by simp⟩, ?_, ?_⟩
  · exact (Blk.new w _ _).alloc _
  · simpa using Blk.new (w.alloc (.cells #[.string ⟨#[]⟩, .slice none 0 0] 54)) 54 #[.string name, .slice none 0 0]
  · exact World.ownsRow_nil _ _ _ _
  · exact (HR.out.ext (((Ext.refl _).alloc _).alloc _)).le (by omega)
  exact Else.of_ext (((Ext.refl _).alloc _).alloc _)
 case round =>
  obtain ⟨k, ts, rows, v, c0, rfl, hk, hh⟩ := hrel; obtain ⟨A, c, rfl⟩ := own_form hh.out.2.2.2.1
  by_cases hk0 : 0 < k
  · have q0 := hh.out.2.1.cell 0
    have q1 := hh.out.2.2.1.cell 1; have hb1 := hh.out.2.2.1.lt; go_wp2
    go_region_law (first
     | (go_simp; go_at_call 221; refine (l10Word_any rb (m + 2 * ts.length) _ (hh.out.2.2.2.2.2.2.1.ext (Ext.refl _).drew) (by omega)).mono ?_; rintro e w2 ⟨⟨s, hs, rfl⟩, hr2, he2⟩; have hq2 := (Else.of_ext (rb := rb) (Ext.refl wr).drew).trans' he2; have q2 := (hq2.cell (o := 1) (show w.heap.size + 1 ≠ rb from by omega) hb1).trans q1; have hb2 := cell_lt q2; have q3 := (((Ext.refl w2).alloc (.cells #[.bool false, .string s] 71)).cells.1 _ 1 hb2).trans q2)
     | (refine step_append_lies _ (by rfl) (.tmp 32) (.tmp 36) 52 (by rfl) (w.heap.size + 2) 71 i0 _ 2 24 Tryz.underlying52 hi0 hz0 hz1 hz2 rfl (by decide) (.slice A ts.length c) ts.length rows (by rfl) (own_ext (own_else hh.out.2.2.2.1 hq2 (by omega)) ((Ext.refl _).alloc _)) ⟨w2.heap.size, 0, none⟩ 1 1 [.bool false, .string s] (by rfl) rfl (World.news_of_block (heap_alloc_new _ _)) (by simp; exact ⟨rfl, rfl⟩) (by omega) (by unfold maxLen; omega) (by omega) (by go_size) (w2.heap.size + 1) (by simp) ?_; intro g cap w3 hown3 hgrow3 hat3 hlt3; have hown2 := own_ext (own_else hh.out.2.2.2.1 hq2 (by omega)) ((Ext.refl _).alloc (.cells #[.bool false, .string s] 71)); have q4 := (own_far hown2 hgrow3 ⟨w.heap.size + 1, 1, none⟩ (by simp) (by simp; omega)).trans q3; have hb4 := own_blk hown2 hgrow3 (((hh.out.2.2.1.else_ hq2 (by omega)).alloc (.cells #[.bool false, .string s] 71))) (by omega); have f4 := hb4.frozen 1))
    all_goals (go_wp2; go_roundw)
    all_goals try (simp [intOf]; omega)
    all_goals refine ⟨k - 1, ts ++ [⟨false, s⟩], rows ++ [.bool false, .string s], _, c0, by congr 1; omega, by simp; omega, Lib.hid ((atom_step (b := false) hh.out hrl hq2 hr2 hs (by omega) ?_ hgrow3).le (by rw [List.length_append]; simp; omega))⟩
    all_goals exact hown3
  have q0 := hh.out.2.2.1.cell 0; have q1 := hh.out.2.2.1.cell 1; have hc0 := hh.out.1; obtain ⟨⟨u0, p0⟩, f0⟩ := hh.out.2.1.ready (i := 0) (by omega); obtain ⟨⟨u1, p1⟩, f1⟩ := hh.out.2.1.ready (i := 1) (by omega); go_wp2; refine bodyPost_ret (v := .agg #[.string name, .slice A ts.length c]) (by simp [results, Tryz.results162, go_sem, p0, p1]) rfl ?_; obtain ⟨e1, e2, e3⟩ := atom_end hh.out hrl (.string name) (.slice A ts.length c); exact ⟨⟨_, ts, rfl, e1, hh.out.2.2.2.2.2.1⟩, e2.le (by have := hh.out.2.2.2.2.2.1.1; omega), e3⟩
def names8 : List ByteArray := [⟨#[101]⟩, ⟨#[101]⟩, ⟨#[101]⟩, ⟨#[112]⟩, ⟨#[112]⟩, ⟨#[113]⟩, ⟨#[122]⟩, ⟨#[104]⟩]
theorem names8_small : ∀ s ∈ names8, s.size ≤ 8 := by decide
theorem strs_at {w : World} {rb m g : Nat} {t : TypeId} (cs : Array Value) (ss : List ByteArray) (hcs : cs = (ss.map Value.string).toArray) (hg : g = w.heap.size) (hr : Rd w rb m) (hs : ∀ s ∈ ss, s.size ≤ 1000) (hl : ss.length ≤ 1000) (n : Nat) (hn : n = ss.length) :
 StrsR (fun b => b ≠ rb) (w.alloc (.cells cs t)) (.slice (some ⟨g, 0, none⟩) n n) ss := by
 subst hg; exact strs_new cs ss hcs hr hs hl n hn
set_option maxRecDepth 100000 in
set_option maxHeartbeats 2000000 in
theorem l10Fact_any (rb m : Nat) (w : World) (hr : Rd w rb m) (hp : m + 7 ≤ 1000000) :
 Calls Tryz.prog 148 #[.pointer (some ⟨rb, 0, none⟩)] w fun e w' =>
  (∃ (a : GA) (v : Value), e = .returned (.agg #[.string a.n, v]) ∧ TermsR (From w.heap.size) w' v a.args ∧ a.n.size ≤ 8 ∧ tiny a.args) ∧ Rd w' rb (m + 7) ∧ Else rb w w' := by
 have hrl := hr.lt; have HR := Lib.hid hr; have HR1 := Lib.hid (hr.ext ((Ext.refl w).alloc (.cells #[.string ⟨#[]⟩, .slice none 0 0] 54))); have HB := Lib.hid (Blk.new w 54 #[.string ⟨#[]⟩, .slice none 0 0]); clear hr
 go_enter Tryz.func148, Tryz.ntmps148
 go_wp2_with (fail)
 refine (of_any rb m _ names8 _ (strs_at _ names8 rfl (by simp) HR1.out (fun s hs => Nat.le_trans (names8_small s hs) (by omega)) (by simp [names8]) _ rfl) (by simp [names8]) (HR1.out.ext ((Ext.refl _).alloc _)) (by omega)).mono ?_; rintro e w1 ⟨⟨s, hs, hs2, rfl⟩, hr1, he1⟩; have hs8 := names8_small s hs
 have hb1 := ((HB.out.alloc _).else_ he1 (by omega))
 have HE1 := Lib.hid ((Else.of_ext (rb := rb) (((Ext.refl w).alloc _).alloc _)).trans' he1); have HR2 := Lib.hid hr1; have HB1 := Lib.hid hb1; clear hr1 he1 hb1 hs
 go_wp2_with (fail)
 refine (l10AtomNo_any rb (m + 1) s _ (by omega) HR2.out (by omega)).mono ?_; rintro e w2 ⟨⟨v, ts, rfl, ht, hti⟩, hr2, he2⟩; obtain ⟨A, c, rfl, hc1, hc2⟩ := SliceR.form ht; have hb2 := HB1.out.else_ he2 (by omega); have q0 := hb2.cell 0; have q1 := hb2.cell 1; have f0 := hb2.frozen 0; have f1 := hb2.frozen 1; have hw2 := hb2.lt; have hsz := HE1.out.size; have hlt1 := HB1.out.lt; have HT := Lib.hid ht; have HR3 := Lib.hid hr2; have HE2 := Lib.hid (HE1.out.trans' he2); clear ht hr2 he2 hb2; go_wp2; refine bodyPost_ret (v := .agg #[.string s, .slice A ts.length c]) (by simp [results, Tryz.results148, go_sem, q0, q1]) rfl ?_
 have hA : ∀ S : Nat → Prop, (¬ S w.heap.size) → Agree S w2 ((w2.setCell ⟨w.heap.size, 0, none⟩ (.string s)).setCell ⟨w.heap.size, 1, none⟩ (.slice A ts.length c)) := fun S hS => ((Agree.refl _ _).setCell hS _).setCell hS _
 refine ⟨⟨⟨s, ts⟩, _, rfl, ?_, hs8, hti⟩, HR3.out.keep (hA _ (by simp; omega)) (by go_size), ?_⟩
 · exact TermsR.imp (S := From w1.heap.size) (w := w2) HT.out (fromLe (by omega)) (hA _ (by simp; omega)) (by go_size)
 refine ⟨HE2.out.os, HE2.out.tape, HE2.out.output, by have := HE2.out.size; go_size, fun k hk hne => ?_⟩; exact (hA (fun b => b < w.heap.size) (by simp) k hk (Nat.lt_of_lt_of_le hk HE2.out.size)).trans (HE2.out.block k hk hne)
def small (a : GA) : Prop := a.n.size ≤ 8 ∧ tiny a.args
def smalls (xs : List GA) : Prop := ∀ x ∈ xs, small x
theorem small_w {a : GA} (h : small a) : wAtom a ≤ 35 := by
 obtain ⟨h1, h2, h3⟩ := h; unfold wAtom wTerms
 have : (a.args.map wTerm).sum ≤ a.args.length * 8 := by
  generalize a.args = l at h2 h3
  clear h2
  induction l with
  | nil => simp
  | cons t l ih =>
    have := h3 t (by simp); have := ih (fun t ht => h3 t (List.mem_cons_of_mem _ ht)); simp only [List.map_cons, List.sum_cons, List.length_cons, wTerm] at *; omega
 omega
theorem smalls_w {l : List GA} (h : smalls l) : wAtoms l ≤ l.length * 36 := by
 unfold wAtoms
 have : (l.map wAtom).sum ≤ l.length * 35 := by
  induction l with
  | nil => simp
  | cons t l ih =>
    have := small_w (h t (by simp)); have := ih (fun t ht => h t (List.mem_cons_of_mem _ ht)); simp only [List.map_cons, List.sum_cons, List.length_cons] at *; omega
 omega
theorem putA_mem {xs : List GA} {a x : GA} (h : x ∈ putA xs a) : x ∈ xs ∨ x = a := by
 unfold putA at h
 split at h
 · exact .inl h
 simp only [List.mem_append, List.mem_singleton] at h
 rcases h with (h | h) | h
 · exact .inl (List.mem_of_mem_take h)
 · exact .inr h
 exact .inl (List.mem_of_mem_drop h)
theorem putA_len (xs : List GA) (a : GA) : (putA xs a).length ≤ xs.length + 1 := by
 unfold putA
 split
 · omega
 simp only [List.length_append, List.length_take, List.length_drop, List.length_cons, List.length_nil]; omega
theorem smalls_put {xs : List GA} {a : GA} (h : smalls xs) (ha : small a) : smalls (putA xs a) := fun x hx => by
 rcases putA_mem hx with h1 | rfl
 · exact h x h1
 exact ha
theorem smalls_less {xs ys : List GA} (h : smalls xs) : smalls (lessA xs ys) := fun x hx => h x (List.mem_filter.1 hx).1
theorem Else.from_ {a b : World} {rb N : Nat} (h : Else rb a b) (hr : rb < N) : Agree (From N) a b := fun i hi hlt => h.agree i (fun e => by subst e; exact absurd hr (Nat.not_lt.2 hi)) hlt
theorem OwnK.else_ {α : Type} {k : Kind α} {S : Nat → Prop} {w w' : World} {v : Value} {xs : List α} {base rb : Nat} {e : TypeId} (h : OwnK k base e S w v xs) (he : Else rb w w') (hb : rb < base) (hS : ¬ S rb) : OwnK k base e S w' v xs :=
 h.agree (fun b hb' hlt => he.agree b (fun e => hS (e ▸ hb')) hlt) (fun g hg => he.agree g (fun e => by have := (h.at_ g hg).1; omega) (h.at_ g hg).2) he.size
set_option maxRecDepth 100000 in
set_option maxHeartbeats 2000000 in
theorem l10FactsK_any (rb m most : Nat) (w : World) (hr : Rd w rb m) (hm : 1 ≤ most ∧ most ≤ 100) (hp : m + 1 + 7 * most ≤ 1000000) :
 Calls Tryz.prog 134 #[.pointer (some ⟨rb, 0, none⟩), .int .i64 most] w fun e w' =>
  (∃ (v : Value) (xs : List GA), e = .returned v ∧ OwnK kAtom w.heap.size 54 (From w.heap.size) w' v xs ∧ xs.length ≤ most ∧ smalls xs) ∧ Rd w' rb (m + 1 + 7 * most) ∧ Else rb w w' := by
 have hrl := hr.lt; have HR := Lib.hid hr; obtain ⟨hm1, hm2⟩ := hm; clear hr
 go_enter Tryz.func134, Tryz.ntmps134
 go_wp2_with (go_at_call 73; refine (rdPick_any rb m most _ ⟨hm1, by omega⟩ (HR.out.ext ((Ext.refl _).alloc _)) (by omega)).mono ?_; rintro e w1 ⟨⟨z, hz, rfl⟩, hr1, he1⟩; have HO1 := Lib.hid ((OwnK.empty (k := kAtom) (S := From w.heap.size) (base := w.heap.size) (e := 54) (w := w) rfl (Nat.le_refl _)).else_ he1 (by omega) (fun h => absurd (show w.heap.size ≤ rb from h) (by omega))); have HR1 := Lib.hid hr1; have HE1 := Lib.hid ((Else.of_ext (rb := rb) ((Ext.refl w).alloc (.cells #[] 54))).trans' he1); clear hr1 he1)
 go_loopw [5, 6] (fun v i wr => ∃ (k M : Nat) (xs : List GA), i = .int .i64 k ∧ k ≤ most ∧ xs.length + k ≤ most ∧ M + 7 * k ≤ m + 1 + 7 * most ∧ Hid (OwnK kAtom w.heap.size 54 (From w.heap.size) wr v xs) ∧ Hid (smalls xs) ∧ Hid (Rd wr rb M) ∧ Hid (Else rb w wr)) (fun _ i _ => (intOf i).toNat)
 case atStart =>
  refine ⟨z, m + 1, [], rfl, by omega, by simp; omega, by omega, HO1, fun x hx => by simp at hx, HR1, HE1⟩
 case round =>
  obtain ⟨k, M, xs, rfl, hk, hxs, hM, hv, hsm, hrd, hel⟩ := hrel; obtain ⟨A, c, rfl, hc1, hc2⟩ := hv.out.form; have hsz := hel.out.size; have HL := Lib.hid (hv.out.list (S' := From w.heap.size) (fun _ h => h) (fun _ h => h))
  by_cases hk0 : 0 < k
  · go_wp2_with (first
      | (go_at_call 148; refine (l10Fact_any rb M _ hrd.out (by omega)).mono ?_; rintro e w2 ⟨⟨a, u, rfl, hu, ha1, ha2⟩, hr2, he2⟩; obtain ⟨B, d, rfl, hd1, hd2⟩ := SliceR.form hu; have HU := Lib.hid hu; have HR2 := Lib.hid hr2; have HE2 := Lib.hid he2; have HS := Lib.hid (show small a from ⟨ha1, ha2⟩); clear hu hr2 he2 ha2)
      | (go_at_call 74; refine (l3Put_own (S := From w.heap.size) (T := From w.heap.size) _ _ xs a _ (AtomsR.imp HL.out (fun _ h => h) (HE2.out.from_ hrl) HE2.out.size) (TermsR.sub HU.out (fromLe (by omega))) (maxOf (by omega)) (by omega)).mono ?_; rintro e w3 ⟨⟨v3, rfl, hv3⟩, hx3⟩; have HV3 := Lib.hid (show OwnK kAtom w.heap.size 54 (From w.heap.size) w3 v3 (putA xs a) from by
          rcases hv3 with hv3 | ⟨rfl, h3⟩
          · exact hv3.sub (Nat.le_trans hsz HE2.out.size) (fun b hb => hb.elim id id)
          rw [h3]; exact (hv.out.else_ HE2.out hrl (fun h => absurd (show w.heap.size ≤ rb from h) (by omega))).ext hx3); have HX3 := Lib.hid hx3; clear hv3 hx3))
    go_roundw
    case rel =>
     have := putA_len xs a; exact ⟨k - 1, M + 7, putA xs a, by congr 1; omega, by omega, by omega, by omega, HV3, Lib.hid (smalls_put hsm.out HS.out), Lib.hid (HR2.out.ext HX3.out), Lib.hid ((hel.out.trans' HE2.out).trans' (Else.of_ext HX3.out))⟩
    case measure => simp [intOf]; omega
  go_wp2; go_ret; exact ⟨⟨_, xs, rfl, hv.out, by omega, hsm.out⟩, hrd.out.le (by omega), hel.out⟩
theorem l10Facts_any (rb m most : Nat) (w : World) (hr : Rd w rb m) (hm : 1 ≤ most ∧ most ≤ 100) (hp : m + 1 + 7 * most ≤ 1000000) :
 Calls Tryz.prog 134 #[.pointer (some ⟨rb, 0, none⟩), .int .i64 most] w fun e w' =>
  (∃ (v : Value) (xs : List GA), e = .returned v ∧ AtomsR (From w.heap.size) w' v xs ∧ xs.length ≤ most ∧ smalls xs) ∧ Rd w' rb (m + 1 + 7 * most) ∧ Else rb w w' :=
 (l10FactsK_any rb m most w hr hm hp).mono fun e w' ⟨⟨v, xs, h1, h2, h3⟩, h4⟩ => ⟨⟨v, xs, h1, h2.list (S' := From w.heap.size) (fun _ h => h) (fun _ h => h), h3⟩, h4⟩
end Go.Proofs.YtmihponoillihaaGreatDoor
