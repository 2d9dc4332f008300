/- For every text FnExactLogGet returns true: the walk. -/
import Derived.Test.YthndnkafckapnaaGreatDoorLogH
import Derived.Test.YthndnkafckapnaaGreatDoorMarkC
import Derived.Test.YthndnkafckapnaaGreatDoorGetLaw
namespace Go.Proofs.YthndnkafckapnaaGreatDoor
open Go.RowKit

theorem signed_few (c : UInt8) : ∀ l : List GA, l.length ≤ (signedL c l).length
  | [] => Nat.zero_le _
  | a :: l => by
    have h := signed_few c l
    have e : signedL c (a :: l) = ([c] ++ atomL a ++ [32]) ++ signedL c l := by simp [signedL]
    rw [e, List.length_append, List.length_append, List.length_append]
    simp only [List.length_cons, List.length_nil]
    omega
theorem rec_cost {t : Nat} {x : List UInt8} {g : GC} (h : recOf t x = some g) : costC g ≤ 7 * (x.length + 1) := by
  obtain ⟨h1, h2⟩ := recOf_is h
  obtain ⟨h3, h4⟩ := changeOk_ok h1
  have h5 := costAs_le h3
  have h6 := costAs_le h4
  have h7 := signed_few 43 g.comes
  have h8 := signed_few 45 g.goes
  have h9 := congrArg List.length h2
  rw [logLine_tail] at h9
  unfold recTail changeL at h9
  simp only [List.length_append, List.length_cons, List.length_nil] at h9
  show costAs g.comes + costAs g.goes ≤ _
  omega
theorem log_cost : ∀ (ws : List (List UInt8)) (t : Nat), costL costC (logRead t ws).1 ≤ 7 * (logRead t ws).2 ∧ (logRead t ws).2 ≤ wsum ws
  | [], t => ⟨Nat.le_refl _, Nat.zero_le _⟩
  | [w], t => ⟨Nat.le_refl _, Nat.zero_le _⟩
  | w :: v :: ws, t => by
    cases h : recOf t w with
    | none => rw [logRead_none h]; exact ⟨Nat.le_refl _, Nat.zero_le _⟩
    | some g =>
      obtain ⟨h1, h2⟩ := log_cost (v :: ws) (t + 1)
      rw [logRead_some (by simp) h]
      have h3 := rec_cost h
      have h4 : costL costC (g :: (logRead (t + 1) (v :: ws)).1) = costC g + costL costC (logRead (t + 1) (v :: ws)).1 := by simp [costL]
      have h5 : wsum (w :: v :: ws) = w.length + 1 + wsum (v :: ws) := by simp [wsum]
      refine ⟨?_, ?_⟩
      · show costL costC (g :: _) ≤ 7 * (w.length + 1 + _)
        omega
      · show w.length + 1 + _ ≤ _
        omega
theorem get_cost (l : List UInt8) : costL costC (logGetL l).1 ≤ 2800014 ∧ (logGetL l).2 ≤ 400001 := by
  unfold logGetL
  split
  · exact ⟨Nat.zero_le _, Nat.zero_le _⟩
  · obtain ⟨h1, h2⟩ := log_cost (splitL 10 l) 0
    rw [wsum_split] at h2
    omega

set_option maxRecDepth 100000 in
set_option maxHeartbeats 2000000 in
theorem exactLogGet_any (s : ByteArray) (T : TypeId) (y : Value) (w : World) (hs : s.size ≤ maxLen) (hm : MaxIs w) (he : EofIs w T y) (htab : Lib.TabIs Tryz.prog w "internal/strconv.uint64pow10" .u64 Lib.pow10Tab) :
    Calls Tryz.prog 6 #[.string s] w fun e w' => e = .returned (.bool true) ∧ Ext w w' := by
  unfold maxLen at hs
  by_cases hbig : 1048576 < s.size
  · clear hm he htab
    go_enter Tryz.func6, Tryz.ntmps6
    go_wp2
    go_ret
    exact ⟨rfl, Ext.refl _⟩
  have hs4 : s.size ≤ 4194304 := by omega
  obtain ⟨hc1, hc2⟩ := get_cost s.data.toList
  obtain ⟨gs, hgs⟩ : ∃ gs, gs = (logGetL s.data.toList).1 := ⟨_, rfl⟩
  obtain ⟨n, hn⟩ : ∃ n, n = (logGetL s.data.toList).2 := ⟨_, rfl⟩
  obtain ⟨K, hK⟩ : ∃ K, K = 1 + costL costC gs := ⟨_, rfl⟩
  rw [← hgs] at hc1
  rw [← hn] at hc2
  have hK1 : 1 ≤ K := by omega
  have hK2 : K ≤ 100000000 := by omega
  have HS := Lib.hid (fun W => show Calls Tryz.prog 29 #[.string s] W fun e w' => GotLog gs n e w' ∧ Ext W w' from by
    have h := specLogGet_any s W hs4
    rw [← hgs, ← hn] at h
    exact h)
  have HI := Lib.hid (fun W (hW : Ext w W) => show Calls Tryz.prog 30 #[.string s] W fun e w' => GotLogO W.heap.size gs n e w' ∧ Ext W w' from by
    have h := logGet_any s T y W hs4 (hm.ext hW) (he.ext hW) (pow_ext htab hW)
    rw [← hgs, ← hn] at h
    exact h)
  have HMK := Lib.hid (fun (v : Value) (W : World) (S : Nat → Prop) (hv : ChangesO S W v gs) => show Calls Tryz.prog 32 #[v, .int .i64 1] W fun e w' => e = .returned (.int .i64 K) ∧ ChangesO S w' v (mList mChange costC 1 gs) ∧ Inside S W w' from
    (markChangeS_any v gs 1 W hv (Nat.le_refl _) (by omega)).mono fun e w' ⟨⟨q, hq, he⟩, h⟩ => ⟨by rw [he, hq, hK], h⟩)
  have HHD := Lib.hid (fun (v : Value) (W : World) (S : Nat → Prop) (hv : ChangesR S W v (mList mChange costC 1 gs)) => show Calls Tryz.prog 33 #[v, .int .i64 1] W fun e w' => e = .returned (.int .i64 K) ∧ Ext W w' from
    (heldChangeS_any v gs 1 W hv (Nat.le_refl _) (by omega)).mono fun e w' ⟨⟨q, hq, he⟩, h⟩ => ⟨by rw [he, hq, hK], h⟩)
  have HEQ := Lib.hid (fun (v u : Value) (W : World) (h1 : ChangesR Any W v gs) (h2 : ChangesR Any W u gs) => eqChangeS_same v u gs W h1 h2)
  have tok : True := trivial
  have tok2 : True := trivial
  have tok3 : True := trivial
  clear hm he htab hgs hn hK hs4 hc1
  go_enter Tryz.func6, Tryz.ntmps6
  go_wp2_with (first
    | (go_at_call 29; refine (HS.out _).mono ?_; rintro e w1 ⟨⟨v1, rfl, hv1⟩, hx1⟩
       have HV1 := Lib.hid (ChangesR.impL (S' := fun b => b < w1.heap.size) hv1 (fun b _ hlt => hlt) (.refl _ _) (Nat.le_refl _))
       have HX1 := Lib.hid hx1
       clear hx1 hv1)
    | (go_at_call 30; have _t := tok; refine (HI.out _ HX1.out).mono ?_; clear tok _t; rintro e w2 ⟨⟨v2, S2, rfl, hv2, hS2⟩, hx2⟩
       have HV2 := Lib.hid (SliceO.low hv2)
       have HS2 := Lib.hid (fun b (hb : S2 b ∧ b < w2.heap.size) => hS2 b hb.1)
       have HY2 := Lib.hid hx2
       have HX2 := Lib.hid (HX1.out.trans' hx2)
       clear hx2 hv2 hS2)
    | (go_at_call 31; have _t := tok2; refine (HEQ.out _ _ _ (ChangesR.sub (ChangesO.read HV2.out) (fun _ _ => trivial)) (ChangesR.sub (HV1.out.ext HY2.out) (fun _ _ => trivial))).mono ?_; clear tok2 _t; rintro e w3 ⟨rfl, hx3⟩
       have HY3 := Lib.hid hx3
       have HX3 := Lib.hid (HX2.out.trans' hx3)
       clear hx3)
    | (go_at_call 32; refine (HMK.out _ _ _ (SliceO.ext HV2.out HY3.out)).mono ?_; rintro e w4 ⟨rfl, hv4, hi4⟩
       have HV4 := Lib.hid hv4
       have HX4 := Lib.hid (hi4.toExt HX3.out (fun i hi => by have := HX1.out.size; have := HS2.out i hi; omega))
       have HAG := Lib.hid (show Agree (fun b => b < w1.heap.size) w3 w4 from fun i hi hlt => hi4.block i hlt (fun h => absurd (HS2.out i h) (by have hi' : i < w1.heap.size := hi; omega)))
       have HZ4 := Lib.hid hi4.size
       clear hv4 hi4)
    | (go_at_call 33; have _t := tok3; refine (HHD.out _ _ _ (ChangesO.read HV4.out)).mono ?_; clear tok3 _t; rintro e w5 ⟨rfl, hx5⟩
       have HY5 := Lib.hid hx5
       have HX5 := Lib.hid (HX4.out.trans' hx5)
       clear hx5)
    | (go_at_call 30; refine (HI.out _ HX5.out).mono ?_; rintro e w6 ⟨⟨v6, S6, rfl, hv6, hS6⟩, hx6⟩
       have HV6 := Lib.hid hv6
       have HY6 := Lib.hid (HY5.out.trans' hx6)
       have HX6 := Lib.hid (HX5.out.trans' hx6)
       clear hx6 hv6 hS6)
    | (go_at_call 31; refine (HEQ.out _ _ _ (ChangesR.sub (ChangesO.read HV6.out) (fun _ _ => trivial)) (ChangesR.sub (((HV1.out.ext (HY2.out.trans' HY3.out)).impL (fun _ h _ => h) HAG.out HZ4.out).ext HY6.out) (fun _ _ => trivial))).mono ?_; rintro e w7 ⟨rfl, hx7⟩
       have HY7 := Lib.hid (HY6.out.trans' hx7)
       have HX7 := Lib.hid (HX6.out.trans' hx7)
       clear hx7)
    | (go_at_call 33; refine (HHD.out _ _ _ (ChangesO.read (SliceO.ext HV4.out HY7.out))).mono ?_; rintro e w8 ⟨rfl, hx8⟩
       have HX8 := Lib.hid (HX7.out.trans' hx8)
       clear hx8))
  go_ret
  exact ⟨rfl, HX8.out⟩

end Go.Proofs.YthndnkafckapnaaGreatDoor
