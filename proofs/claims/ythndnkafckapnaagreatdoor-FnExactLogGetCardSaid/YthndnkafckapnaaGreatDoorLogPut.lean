/- The walks of LogPut: the reference's and the program's. -/
import Derived.Test.YthndnkafckapnaaGreatDoorShelf
import Derived.Test.YthndnkafckapnaaGreatDoorDec
import Derived.Test.YthndnkafckapnaaGreatDoorPut
import Derived.Test.YthndnkafckapnaaGreatDoorSumW
import Derived.Test.YthndnkafckapnaaGreatDoorApp
import Derived.Lib.AppendIntMem
namespace Go.Proofs.YthndnkafckapnaaGreatDoor
open Go.RowKit

def logHead (t : Int) (l : List UInt8) : List UInt8 := Lib.decDigits t.toNat ++ [58] ++ l
def logLine (t : Int) (l : List UInt8) : List UInt8 := logHead t l ++ Lib.decDigits (sumI (logHead t l)).toNat ++ [10]
def timeB (t : Int) : Bool := inB t 0 100000
def logPutL (t : Int) (g : GC) : List UInt8 := if (changeOkB g && timeB t) = true then logLine t (changeL g) else []

theorem pow_ext {w w' : World} (h : Lib.TabIs Tryz.prog w "internal/strconv.uint64pow10" .u64 Lib.pow10Tab) (he : Ext w w') : Lib.TabIs Tryz.prog w' "internal/strconv.uint64pow10" .u64 Lib.pow10Tab := by
  have hg : Tryz.prog.globalNamed "internal/strconv.uint64pow10" = some 5 := by kernel_rfl
  unfold Lib.TabIs World.var? at h ⊢
  rw [hg] at h ⊢
  simp only [Option.bind_some] at h ⊢
  rcases Nat.lt_or_ge 5 w.heap.size with hlt | hge
  · rw [he.block _ hlt]; exact h
  · rw [Array.getElem?_eq_none hge] at h; cases h

set_option maxHeartbeats 1000000 in
theorem decimal_any (z : Int) (w : World) (h0 : 0 ≤ z) (h1 : z ≤ 1000000000) (htab : Lib.TabIs Tryz.prog w "internal/strconv.uint64pow10" .u64 Lib.pow10Tab) :
    Calls Tryz.prog 191 #[.int .i64 z] w fun e w' => e = .returned (.string (strOf (Lib.decDigits z.toNat))) ∧ Ext w w' := by
  have HC := Lib.hid ((Tryz.strconv_Itoa z (by omega) (by omega) w htab).mono (R' := fun e w' => e = .returned (.string (strOf (Lib.decDigits z.toNat))) ∧ Ext w w') fun e w' ⟨he, k, os, hw⟩ => by
    subst hw
    refine ⟨?_, ?_⟩
    · rw [he]; unfold Lib.itoa; rw [if_neg (by omega)]; rfl
    · exact Lib.below_grow _ _ (Nat.le_refl _) _ _)
  clear htab
  go_enter Tryz.func191, Tryz.ntmps191
  go_wp2_with (go_at_call 207; refine HC.out.mono ?_; rintro e w1 ⟨rfl, hx1⟩)
  go_ret
  exact ⟨rfl, hx1⟩

theorem logHead_str (t : Int) (s : ByteArray) : strOf (Lib.decDigits t.toNat) ++ ⟨#[58]⟩ ++ s = strOf (logHead t s.data.toList) := by
  rw [show (⟨#[58]⟩ : ByteArray) = strOf [58] from rfl, strOf_append, ← strOf_list s, strOf_append]; rfl
theorem logLine_str (t : Int) (l : List UInt8) : strOf (logHead t l) ++ strOf (Lib.decDigits (sumI (logHead t l)).toNat) ++ ⟨#[10]⟩ = strOf (logLine t l) := by
  rw [show (⟨#[10]⟩ : ByteArray) = strOf [10] from rfl, strOf_append, strOf_append]; rfl
theorem logHead_len (t : Int) (l : List UInt8) (h0 : 0 ≤ t) (h1 : t ≤ 100000) : (logHead t l).length ≤ l.length + 11 := by
  have := dec_len t.toNat (by omega)
  unfold logHead
  simp only [List.length_append, List.length_cons, List.length_nil]; omega

set_option maxRecDepth 100000 in
set_option maxHeartbeats 2000000 in
theorem l8Line_any (t : Int) (s : ByteArray) (w : World) (h0 : 0 ≤ t) (h1 : t ≤ 100000) (hs : s.size ≤ 100000000) :
    Calls Tryz.prog 114 #[.int .i64 t, .string s] w fun e w' => e = .returned (.string (strOf (logLine t s.data.toList))) ∧ Ext w w' := by
  obtain ⟨d, hd⟩ : ∃ d, d = strOf (Lib.decDigits t.toNat) := ⟨_, rfl⟩
  have hds : d.size ≤ 10 := by rw [hd, strOf_size]; exact dec_len _ (by omega)
  obtain ⟨h, hh⟩ : ∃ h, h = d ++ ⟨#[58]⟩ ++ s := ⟨_, rfl⟩
  have hhe : h = strOf (logHead t s.data.toList) := by rw [hh, hd, logHead_str]
  have hhs : h.size ≤ 100000020 := by
    rw [hhe, strOf_size]
    have := logHead_len t s.data.toList h0 h1
    have e : s.data.toList.length = s.size := by simp
    omega
  obtain ⟨n, hn⟩ : ∃ n, n = sumI h.data.toList := ⟨_, rfl⟩
  have hb : 0 ≤ n ∧ n ≤ 1000002 := hn ▸ sumI_bd _
  obtain ⟨hb1, hb2⟩ := hb
  obtain ⟨f, hf⟩ : ∃ f, f = strOf (Lib.decDigits n.toNat) := ⟨_, rfl⟩
  have hfs : f.size ≤ 10 := by rw [hf, strOf_size]; exact dec_len _ (by omega)
  have HF := Lib.hid (show h ++ f ++ ⟨#[10]⟩ = strOf (logLine t s.data.toList) from by rw [hf, hn, hhe]; exact logLine_str t _)
  have HD := Lib.hid (fun W => show Calls Tryz.prog 113 #[.int .i64 t] W fun e w' => e = .returned (.string d) ∧ Ext W w' from hd ▸ l1Dec_any t W h0 (by omega))
  have HS := Lib.hid (fun W => show Calls Tryz.prog 150 #[.string h] W fun e w' => e = .returned (.int .i64 n) ∧ W = w' from hn ▸ (specSum_any h W (maxOf (by omega))).mono fun _ _ ⟨a, b⟩ => ⟨a, b.symm⟩)
  have HE := Lib.hid (fun W => show Calls Tryz.prog 113 #[.int .i64 n] W fun e w' => e = .returned (.string f) ∧ Ext W w' from hf ▸ l1Dec_any n W hb1 (by omega))
  have HH := Lib.hid hh
  have tok : True := trivial
  clear hd hh hhe hn hf
  go_enter Tryz.func114, Tryz.ntmps114
  go_wp2_with (go_at_call 113; have _t := tok; refine (HD.out _).mono ?_; clear tok _t; rintro e w1 ⟨rfl, hx1⟩)
  rw [← HH.out]
  go_wp2_with (first
    | (go_at_call 150; refine (HS.out _).mono ?_; rintro e w2 ⟨rfl, rfl⟩)
    | (go_at_call 113; refine (HE.out _).mono ?_; rintro e w2 ⟨rfl, hx2⟩))
  go_ret
  exact ⟨by rw [← HF.out]; rfl, hx1.trans' hx2⟩

theorem changeL_len (g : GC) : (changeL g).length ≤ 5 * wChange g := by
  have h1 := signedL_len 45 g.goes
  have h2 := signedL_len 43 g.comes
  unfold changeL wChange
  rw [List.length_append]; omega

set_option maxRecDepth 100000 in
set_option maxHeartbeats 4000000 in
theorem logPut_any (t : Int) (g : GC) (v u : Value) (w : World) {S T : Nat → Prop} (hv : AtomsR S w v g.comes) (hu : AtomsR T w u g.goes) (htab : Lib.TabIs Tryz.prog w "internal/strconv.uint64pow10" .u64 Lib.pow10Tab) :
    Calls Tryz.prog 153 #[.int .i64 t, .agg #[v, u]] w fun e w' => e = .returned (.string (strOf (logPutL t g))) ∧ Ext w w' := by
  obtain ⟨A, c, rfl, hc1, hc2⟩ := SliceR.form hv
  obtain ⟨B, d, rfl, hd1, hd2⟩ := SliceR.form hu
  have HB := Lib.hid (Blk.new w 25 #[.slice A g.comes.length c, .slice B g.goes.length d])
  have HV := Lib.hid (hv.ext ((Ext.refl w).alloc (.cells #[.slice A g.comes.length c, .slice B g.goes.length d] 25)))
  have HU := Lib.hid (hu.ext ((Ext.refl w).alloc (.cells #[.slice A g.comes.length c, .slice B g.goes.length d] 25)))
  have HP := Lib.hid (pow_ext htab ((Ext.refl w).alloc (.cells #[.slice A g.comes.length c, .slice B g.goes.length d] 25)))
  clear hv hu htab
  by_cases ht0 : t < 0
  · have HF := Lib.hid (show logPutL t g = [] from by unfold logPutL timeB; rw [inB_low ht0, Bool.and_false]; rfl)
    go_enter Tryz.func153, Tryz.ntmps153
    go_wp2
    go_ret
    exact ⟨by rw [HF.out]; rfl, (Ext.refl _).alloc _⟩
  by_cases ht1 : 100000 < t
  · have HF := Lib.hid (show logPutL t g = [] from by unfold logPutL timeB; rw [inB_high ht1, Bool.and_false]; rfl)
    go_enter Tryz.func153, Tryz.ntmps153
    go_wp2
    go_ret
    exact ⟨by rw [HF.out]; rfl, (Ext.refl _).alloc _⟩
  have h0 : 0 ≤ t := by omega
  have h1 : t ≤ 100000 := by omega
  have g0 : decide (t < 0) = false := decide_eq_false ht0
  have g1 : decide (100000 < t) = false := decide_eq_false ht1
  have hw := bool_ways (changeOk_any g _ _ _ HV.out HU.out)
  cases hk : changeOkB g
  · have HF := Lib.hid (show logPutL t g = [] from by unfold logPutL; rw [hk]; rfl)
    have HW := Lib.hid (hw.2 hk)
    clear hw hk
    go_enter Tryz.func153, Tryz.ntmps153
    go_wp2_with (go_at_call 36; refine HW.out.mono ?_; rintro e w1 ⟨rfl, hx1⟩)
    go_ret
    exact ⟨by rw [HF.out]; rfl, ((Ext.refl _).alloc _).trans' hx1⟩
  have HF := Lib.hid (show logPutL t g = logLine t (changeL g) from by unfold logPutL timeB; rw [hk, inB_yes h0 h1]; rfl)
  have HW := Lib.hid (hw.1 hk)
  have HS := Lib.hid (okChange_w hk)
  have HCP := Lib.hid (show changePutL g = changeL g from by unfold changePutL; rw [hk]; rfl)
  clear hw hk
  obtain ⟨q, hq⟩ : ∃ q, q = strOf (changeL g) := ⟨_, rfl⟩
  have hqs : q.size ≤ 10485760 := by rw [hq, strOf_size]; have := changeL_len g; have := HS.out; omega
  obtain ⟨dd, hd⟩ : ∃ d, d = strOf (Lib.decDigits t.toNat) := ⟨_, rfl⟩
  have hds : dd.size ≤ 10 := by rw [hd, strOf_size]; exact dec_len _ (by omega)
  obtain ⟨h, hh⟩ : ∃ h, h = dd ++ ⟨#[58]⟩ ++ q := ⟨_, rfl⟩
  have hhe : h = strOf (logHead t (changeL g)) := by rw [hh, hd, logHead_str, hq]; rfl
  have hhs : h.size ≤ 100000020 := by
    rw [hhe, strOf_size]
    have := logHead_len t (changeL g) h0 h1
    have := changeL_len g
    have := HS.out
    omega
  obtain ⟨n, hn⟩ : ∃ n, n = sumI h.data.toList := ⟨_, rfl⟩
  have hb : 0 ≤ n ∧ n ≤ 1000002 := hn ▸ sumI_bd _
  obtain ⟨hb1, hb2⟩ := hb
  obtain ⟨f, hf⟩ : ∃ f, f = strOf (Lib.decDigits n.toNat) := ⟨_, rfl⟩
  have hfs : f.size ≤ 10 := by rw [hf, strOf_size]; exact dec_len _ (by omega)
  have HFF := Lib.hid (show h ++ f ++ ⟨#[10]⟩ = strOf (logLine t (changeL g)) from by rw [hf, hn, hhe]; exact logLine_str t _)
  have HD := Lib.hid (fun W (hx : Ext (w.alloc (.cells #[.slice A g.comes.length c, .slice B g.goes.length d] 25)) W) => show Calls Tryz.prog 191 #[.int .i64 t] W fun e w' => e = .returned (.string dd) ∧ Ext W w' from hd ▸ decimal_any t W h0 (by omega) (pow_ext HP.out hx))
  have HQ := Lib.hid (fun W (hx : Ext (w.alloc (.cells #[.slice A g.comes.length c, .slice B g.goes.length d] 25)) W) => show Calls Tryz.prog 8 #[.agg #[.slice A g.comes.length c, .slice B g.goes.length d]] W fun e w' => e = .returned (.string q) ∧ Ext W w' from by
    have := changePut_any g _ _ W (HV.out.ext hx) (HU.out.ext hx)
    rw [HCP.out, ← hq] at this
    exact this)
  have HS1 := Lib.hid (fun W => show Calls Tryz.prog 192 #[.string h] W fun e w' => e = .returned (.int .i64 n) ∧ W = w' from hn ▸ (implSum_any h W (maxOf (by omega))).mono fun _ _ ⟨a, b⟩ => ⟨a, b.symm⟩)
  have HE := Lib.hid (fun W (hx : Ext (w.alloc (.cells #[.slice A g.comes.length c, .slice B g.goes.length d] 25)) W) => show Calls Tryz.prog 191 #[.int .i64 n] W fun e w' => e = .returned (.string f) ∧ Ext W w' from hf ▸ decimal_any n W hb1 (by omega) (pow_ext HP.out hx))
  have HH := Lib.hid hh
  clear hd hh hhe hn hf hq
  go_enter Tryz.func153, Tryz.ntmps153
  go_wp2_with (go_at_call 36; refine HW.out.mono ?_; rintro e w1 ⟨rfl, hx1⟩; have HX1 := Lib.hid hx1; have hb1' := HB.out.ext hx1; have q0 := hb1'.cell 0; have q1 := hb1'.cell 1; have hl1 := hb1'.lt; clear hx1 hb1')
  refine calm_region (by kernel_rfl) (by kernel_rfl) ?_
  repeat (go_big_quiet_step (first | (go_at_call 191; exact calm_call (HD.out _ (HX1.out.trans' (Later.ext _)))) | (go_at_call 8; exact calm_call (HQ.out _ (HX1.out.trans' (Later.ext _))))))
  refine wpQuiet_nil ?_
  rintro w2 ⟨⟨_, hx2⟩, rfl⟩
  rw [← HH.out]
  have HX2 := Lib.hid (HX1.out.trans' hx2)
  go_wp2_with (first
    | (go_at_call 192; refine (HS1.out _).mono ?_; rintro e w3 ⟨rfl, rfl⟩)
    | (go_at_call 191; refine (HE.out _ HX2.out).mono ?_; rintro e w3 ⟨rfl, hx3⟩))
  go_ret
  exact ⟨by rw [HF.out, ← HFF.out]; rfl, ((Ext.refl _).alloc _).trans' (HX2.out.trans' hx3)⟩

end Go.Proofs.YthndnkafckapnaaGreatDoor
