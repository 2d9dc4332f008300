/- The walks of the draws' reader: l1Open, pick. -/
import Derived.Test.YthndnkafckapnaaGreatDoorRows
import Derived.Test.YthndnkafckapnaaGreatDoorRep
import Derived.Test.YthndnkafckapnaaGreatDoorCalm
import Derived.Laws.BitsAllLaws
import Derived.Laws.BitsLemmas
namespace Go.Proofs.YthndnkafckapnaaGreatDoor
open Go.RowKit

/-- The bytes of a code. -/
def ByteE (_ : World) (cs : List Value) (c : UInt8) : Prop := cs = [.int .u8 c.toNat]
def BytesR (S : Nat → Prop) : World → Value → List UInt8 → Prop := SliceR S 1 ByteE

theorem BytesR.imp {S S' : Nat → Prop} {w w' : World} {v : Value} {xs : List UInt8} (h : BytesR S w v xs) (hS : ∀ b, S b → S' b) (he : Agree S w w') (hsz : w.heap.size ≤ w'.heap.size) : BytesR S' w' v xs :=
  SliceR.imp (E := ByteE) (w := w) (fun _ _ _ h => h) hS h he hsz
theorem BytesR.ext {S : Nat → Prop} {w w' : World} {v : Value} {xs : List UInt8} (h : BytesR S w v xs) (he : Ext w w') : BytesR S w' v xs := h.imp (fun _ h => h) (.of_ext he) he.size
theorem BytesR.at_ {S : Nat → Prop} {w : World} {A : Option Addr} {n c : Nat} {xs : List UInt8} (h : BytesR S w (.slice A n c) xs) {k : Nat} (hk : k < n) :
    ∃ (b off : Nat) (x : UInt8), A = some ⟨b, off, none⟩ ∧ b < w.heap.size ∧ xs[k]? = some x ∧ w.cell? ⟨b, off + k, none⟩ = some (.int .u8 x.toNat) := by
  obtain ⟨b, off, x, cs, hA, hb, hx, _, hc, rfl⟩ := SliceR.at_ h hk
  exact ⟨b, off, x, hA, hb, hx, by simpa using hc 0 _ rfl⟩

theorem SliceR.take {α : Type} {S : Nat → Prop} {size : Nat} {E : World → List Value → α → Prop} {w : World} {A : Option Addr} {n c : Nat} {xs : List α} (h : SliceR S size E w (.slice A n c) xs) (k : Nat) (hk : k ≤ n) : SliceR S size E w (.slice A k c) (xs.take k) := by
  obtain ⟨A', c', hv, h1, h2, h3⟩ := h
  injection hv with hA hn hc
  subst hA; subst hn; subst hc
  have hl : (xs.take k).length = k := by rw [List.length_take]; omega
  refine ⟨A, c, by rw [hl], by omega, h2, fun h0 => ?_⟩
  obtain ⟨b, off, ha, hb, hs, hcell⟩ := h3 (by omega)
  exact ⟨b, off, ha, hb, hs, fun i x hx => hcell i x (by
    rw [List.getElem?_take] at hx
    split at hx
    · exact hx
    · cases hx)⟩
theorem SliceR.low {α : Type} {S : Nat → Prop} {size : Nat} {E : World → List Value → α → Prop} {w : World} {v : Value} {xs : List α} (h : SliceR S size E w v xs) : SliceR (fun b => b < w.heap.size) size E w v xs := by
  obtain ⟨A, c, hv, h1, h2, h3⟩ := h
  refine ⟨A, c, hv, h1, h2, fun h0 => ?_⟩
  obtain ⟨b, off, ha, hb, _, hcell⟩ := h3 h0
  exact ⟨b, off, ha, hb, hb, hcell⟩
theorem BytesR.aside {S : Nat → Prop} {w : World} {v : Value} {xs : List UInt8} (h : BytesR S w v xs) (o : Obj) : BytesR (fun b => b < w.heap.size) (w.alloc o) v xs :=
  BytesR.imp (w := w) (SliceR.low h) (fun b hb => hb) (.of_ext ((Ext.refl w).alloc o)) (by go_size)

/-- A reader in block rb: its bytes lie elsewhere; p bytes have been asked for. -/
def Reader (w : World) (rb : Nat) (p : Nat) : Prop :=
  ∃ A n c xs, BytesR (fun b => b < rb) w (.slice A n c) xs ∧ n ≤ 2000 ∧ p ≤ 1000000 ∧ Blk w rb 122 #[.slice A n c, .int .i64 p]

/-- All but the reader's block stands. -/
def Else (rb : Nat) (w w' : World) : Prop := w.grownBy w' (some rb)

theorem reader_post {w W : World} {rb p n c : Nat} {A : Option Addr} {xs : List UInt8} (hb : BytesR (fun b => b < rb) w (.slice A n c) xs) (hn : n ≤ 2000) (hk : Blk w rb 122 #[.slice A n c, .int .i64 p]) (hp : p + 1 ≤ 1000000)
    (h : Ext (w.setCell ⟨rb, 1, none⟩ (.int .i64 ((p : Int) + 1))) W) : Reader W rb (p + 1) ∧ Else rb w W := by
  have h1 : Agree (fun b => b < rb) w (w.setCell ⟨rb, 1, none⟩ (.int .i64 ((p : Int) + 1))) := (Agree.refl _ _).setCell (by simp) _
  refine ⟨⟨A, n, c, xs, (hb.imp (fun _ h => h) h1 (by go_size)).ext h, hn, hp, ?_⟩, ?_⟩
  · have := (hk.set_ 1 (.int .i64 ((p : Int) + 1))).ext h
    simpa using this
  · exact ⟨h.os, h.tape, h.output, by have := h.size; simpa [World.setCell] using this, fun k hk hne => (h.block k (by simpa [World.setCell] using hk)).trans (Below.heap_setCell _ _ _ _ (fun e => hne (by rw [e])))⟩

theorem ofInt_small (a : Nat) (ha : a < 4611686018427387904) : (BitVec.ofInt 64 (a : Int)).toNat = a := by
  rw [BitVec.ofInt_natCast, BitVec.toNat_ofNat]; exact Nat.mod_eq_of_lt (by omega)
theorem xor_nat (a b : Nat) (ha : a < 4611686018427387904) (hb : b < 4611686018427387904) : bits .xor .i64 (a : Int) (b : Int) = ((a ^^^ b : Nat) : Int) := by
  have hx : a ^^^ b < 2 ^ 62 := Nat.xor_lt_two_pow (by omega) (by omega)
  show IntKind.i64.wrap ((BitVec.ofInt 64 (a : Int) ^^^ BitVec.ofInt 64 (b : Int)).toNat : Int) = _
  rw [BitVec.toNat_xor, ofInt_small a ha, ofInt_small b hb, IntKind.wrap_i64]
  omega

set_option maxRecDepth 100000 in
set_option maxHeartbeats 4000000 in
theorem pick_any (rb p n : Nat) (w : World) (hn : 1 ≤ n ∧ n ≤ 1000000) (hr : Reader w rb p) (hp : p + 1 ≤ 1000000) :
    Calls Tryz.prog 74 #[.pointer (some ⟨rb, 0, none⟩), .int .i64 n] w fun e w' => (∃ z : Nat, z < n ∧ e = .returned (.int .i64 z)) ∧ Reader w' rb (p + 1) ∧ Else rb w w' := by
  obtain ⟨A, m, c, xs, hb, hm, hpp, hk⟩ := hr
  obtain ⟨hn1, hn2⟩ := hn
  have q0 := hk.cell 0
  have q1 := hk.cell 1
  have f0 := hk.frozen 0
  have f1 := hk.frozen 1
  have HB := Lib.hid hb
  have HK := Lib.hid hk
  have HP := Lib.hid hp
  have HM := Lib.hid hm
  clear hb hk
  have g1 : decide ((n : Int) < 1) = false := decide_eq_false (by omega)
  by_cases h0 : m = 0
  · subst h0
    go_enter Tryz.func74, Tryz.ntmps74
    go_wp2
    go_ret
    exact ⟨⟨0, by omega, rfl⟩, reader_post HB.out HM.out HK.out HP.out (Ext.refl _)⟩
  · have g2 : (((m : Nat) : Int) == 0) = false := by rw [beq_eq_false_iff_ne]; omega
    have hm1 : 1 ≤ m := by omega
    by_cases hlt : p < m
    · obtain ⟨b, off, x, rfl, hbb, hxk, hc0⟩ := BytesR.at_ HB.out hlt
      have hbne : b ≠ rb := by
        intro e
        obtain ⟨A', c', hv, _, _, h3⟩ := HB.out
        injection hv with hA hn' _
        obtain ⟨b', off', ha, _, hs, _⟩ := h3 (by omega)
        rw [ha] at hA
        injection hA with hA
        injection hA with hA _
        subst e; rw [hA] at hs; omega
      have hx8 : x.toNat < 256 := x.toNat_lt
      clear hxk h0
      go_enter Tryz.func74, Tryz.ntmps74
      go_wp2
      go_ret
      exact ⟨⟨x.toNat % n, Nat.mod_lt _ (by omega), ret_int (by simp)⟩, reader_post HB.out HM.out HK.out HP.out (Ext.refl _)⟩
    · obtain ⟨b, off, x, rfl, hbb, hxk, hc0⟩ := BytesR.at_ HB.out (k := p % m) (Nat.mod_lt _ (by omega))
      obtain ⟨b', off', y, hbe, hbb', hyk, hd0⟩ := BytesR.at_ HB.out (k := (p * 7 + 3) % m) (Nat.mod_lt _ (by omega))
      injection hbe with hbe
      injection hbe with e1 e2
      subst e1; subst e2
      have hbne : b ≠ rb := by
        intro e
        obtain ⟨A', c', hv, _, _, h3⟩ := HB.out
        injection hv with hA hn' _
        obtain ⟨b', off', ha, _, hs, _⟩ := h3 (by omega)
        rw [ha] at hA
        injection hA with hA
        injection hA with hA _
        subst e; rw [hA] at hs; omega
      have hx8 : x.toNat < 256 := x.toNat_lt
      have hy8 : y.toNat < 256 := y.toNat_lt
      have i10 : (0 : Int) ≤ (p : Int) % (m : Int) := Int.emod_nonneg _ (by omega)
      have i11 : (p : Int) % (m : Int) < (m : Int) := Int.emod_lt_of_pos _ (by omega)
      have i20 : (0 : Int) ≤ ((p : Int) * 7 + 3) % (m : Int) := Int.emod_nonneg _ (by omega)
      have i21 : ((p : Int) * 7 + 3) % (m : Int) < (m : Int) := Int.emod_lt_of_pos _ (by omega)
      have j1 : ((p : Int) % (m : Int)).toNat = p % m := by rw [← Int.natCast_emod, Int.toNat_natCast]
      have j2 : (((p : Int) * 7 + 3) % (m : Int)).toNat = (p * 7 + 3) % m := by
        rw [show ((p : Int) * 7 + 3) = ((p * 7 + 3 : Nat) : Int) from by push_cast; rfl, ← Int.natCast_emod, Int.toNat_natCast]
      have hrl := HK.out.lt
      have g3 : decide (p < m) = false := decide_eq_false hlt
      have hdiv : p / m ≤ p := Nat.div_le_self _ _
      have d0 : (0 : Int) ≤ (p : Int) / (m : Int) := Int.ediv_nonneg (by omega) (by omega)
      have d1 : (p : Int) / (m : Int) ≤ 1000000 := by rw [← Int.natCast_ediv]; omega
      obtain ⟨t, ht, ht2⟩ : ∃ t : Nat, (x.toNat : Int) * 131 + (y.toNat : Int) * 1117 + (p : Int) * 29 + (p : Int) / (m : Int) * 53 = (t : Int) ∧ t < 1000000000 :=
        ⟨x.toNat * 131 + y.toNat * 1117 + p * 29 + p / m * 53, by push_cast; rfl, by omega⟩
      obtain ⟨z, hz, hz2⟩ : ∃ z : Nat, bits .xor .i64 (t : Int) ((t : Int) / 64) = (z : Int) ∧ z < 4611686018427387904 := by
        refine ⟨t ^^^ (t / 64), ?_, ?_⟩
        · rw [show ((t : Int) / 64) = ((t / 64 : Nat) : Int) from by push_cast; rfl]
          exact xor_nat t (t / 64) (by omega) (by omega)
        · have : t ^^^ (t / 64) < 2 ^ 62 := Nat.xor_lt_two_pow (by omega) (by omega)
          omega
      clear hxk hyk h0 hdiv
      go_enter Tryz.func74, Tryz.ntmps74
      go_wp2
      refine calm_region (by kernel_rfl) (by kernel_rfl) ?_
      repeat (go_big_quiet_step (fail))
      refine wpQuiet_nil ?_
      rintro w1 ⟨⟨_, hx1⟩, rfl⟩
      clear hc0 hd0 i10 i11 i20 i21 j1 j2 d0 d1 q0 q1 f0 f1
      go_wp2
      go_ret
      exact ⟨⟨z % n, Nat.mod_lt _ (by omega), ret_int (by simp)⟩, reader_post HB.out HM.out HK.out HP.out hx1⟩

set_option maxRecDepth 100000 in
set_option maxHeartbeats 1000000 in
theorem l1Open_any (v : Value) (xs : List UInt8) (w : World) {S : Nat → Prop} (hv : BytesR S w v xs) :
    Calls Tryz.prog 35 #[v] w fun e w' => ∃ rb, e = .returned (.pointer (some ⟨rb, 0, none⟩)) ∧ Reader w' rb 0 ∧ Ext w w' ∧ w.heap.size ≤ rb := by
  obtain ⟨A, c, rfl, hc1, hc2⟩ := SliceR.form hv
  have HV := Lib.hid hv
  clear hv
  by_cases h : xs.length ≤ 2000
  · go_enter Tryz.func35, Tryz.ntmps35
    go_wp2
    go_ret
    refine ⟨w.heap.size, rfl, ⟨A, xs.length, c, xs, ?_, h, by omega, Blk.new _ _ _⟩, (Ext.refl _).alloc _, Nat.le_refl _⟩
    exact HV.out.aside _
  · go_enter Tryz.func35, Tryz.ntmps35
    go_wp2
    go_ret
    refine ⟨w.heap.size, rfl, ⟨A, 2000, c, xs.take 2000, ?_, Nat.le_refl _, by omega, Blk.new _ _ _⟩, (Ext.refl _).alloc _, Nat.le_refl _⟩
    exact BytesR.aside (S := S) (w := w) (SliceR.take HV.out 2000 (by omega)) _

end Go.Proofs.YthndnkafckapnaaGreatDoor
