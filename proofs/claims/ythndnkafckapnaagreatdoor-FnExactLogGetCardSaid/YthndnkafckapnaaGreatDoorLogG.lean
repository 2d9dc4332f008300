/- The walks of the program's records: what it yields, one by one. -/
import Derived.Test.YthndnkafckapnaaGreatDoorRecord
import Derived.Test.YthndnkafckapnaaGreatDoorReader
import Derived.Test.YthndnkafckapnaaGreatDoorSteps
import Derived.Test.YthndnkafckapnaaGreatDoorKinds
import Derived.Shelf.Abstract
import Derived.Shelf.RegionOpen
import Derived.OwnWalkIn
import Derived.TacticsInMore
import Derived.LoopNIn
import Derived.LoopIn
namespace Go.Proofs.YthndnkafckapnaaGreatDoor
open Go.RowKit Go.Shelf

attribute [local go_sem] Oper.semAt_some

/-- A record as the log hands it out. -/
structure LE where
  g : GC
  A : Option Addr
  an : Nat
  ac : Nat
  B : Option Addr
  bn : Nat
  bc : Nat
  n : Nat
def encLE (e : LE) : Array Value := #[.agg #[.slice e.A e.an e.ac, .slice e.B e.bn e.bc], .int .i64 e.n]

noncomputable def logRest (t : Nat) (l : List UInt8) : List GC × Nat := logRead t (splitL 10 l)
theorem rest_none {t : Nat} {l : List UInt8} (h : (10 : UInt8) ∉ l) : logRest t l = ([], 0) := by unfold logRest; rw [splitL_none h]; rfl
theorem rest_stop {t : Nat} {x r : List UInt8} (hx : (10 : UInt8) ∉ x) (h : recOf t x = none) : logRest t (x ++ 10 :: r) = ([], 0) := by unfold logRest; rw [splitL_app hx, logRead_none h]
theorem rest_go {t : Nat} {x r : List UInt8} {g : GC} (hx : (10 : UInt8) ∉ x) (h : recOf t x = some g) : logRest t (x ++ 10 :: r) = (g :: (logRest (t + 1) r).1, x.length + 1 + (logRest (t + 1) r).2) := by
  unfold logRest; rw [splitL_app hx, logRead_some (splitL_ne _ _) h]

/-- A record that is handed out lies in memory of its own. -/
def RecE (A B : World) (e : LE) : Prop := ∃ (S T : Nat → Prop), AtomsO S B (.slice e.A e.an e.ac) e.g.comes ∧ AtomsO T B (.slice e.B e.bn e.bc) e.g.goes ∧ (∀ b, S b → A.heap.size ≤ b ∧ b < B.heap.size) ∧ (∀ b, T b → A.heap.size ≤ b ∧ b < B.heap.size) ∧ (∀ b, S b → ¬ T b) ∧ e.n ≤ 400000

set_option maxHeartbeats 400000 in
theorem records_any (rb : Nat) (w : World) :
    Calls Tryz.prog 72 #[.pointer (some ⟨rb, 0, none⟩)] w fun e w' =>
      e = .returned (.func (.func 115) #[] #[.pointer (some ⟨w.heap.size, 0, none⟩)]) ∧ w' = w.alloc (.cells #[.pointer (some ⟨rb, 0, none⟩)] 108) := by
  go_enter Tryz.func72, Tryz.ntmps72
  go_wp2
  go_ret
  exact ⟨rfl, rfl⟩

theorem line_none (s : ByteArray) (p : Nat) (q : Int) (b : Nat) (t T : TypeId) (y : Value) (w : World) (hs : s.size ≤ 400000) (hp : p ≤ s.size) (hb : Blk w b t #[.string s, .int .i64 p, .int .i64 q]) (he : EofIs w T y) (hne : b ≠ 2) (h10 : (10 : UInt8) ∉ s.data.toList.drop p) :
    Calls Tryz.prog 116 #[.pointer (some ⟨b, 0, none⟩)] w fun e w' => e = .returned (.tuple #[.string ⟨#[]⟩, .bool false]) ∧ Inside (fun i => i = b) w w' :=
  (line_any s p q b t T y w hs hp hb he hne).mono fun e w' ⟨h1, h2⟩ => ⟨by
    rcases h1 with ⟨x, r, h3, _⟩ | ⟨_, h3⟩
    · exact absurd (h3 ▸ (by simp : (10 : UInt8) ∈ x ++ 10 :: r)) h10
    · exact h3, h2⟩
theorem line_some (s : ByteArray) (p : Nat) (q : Int) (b : Nat) (t T : TypeId) (y : Value) (w : World) (hs : s.size ≤ 400000) (hp : p ≤ s.size) (hb : Blk w b t #[.string s, .int .i64 p, .int .i64 q]) (he : EofIs w T y) (hne : b ≠ 2) (x r : List UInt8) (hx : s.data.toList.drop p = x ++ 10 :: r) (h10 : (10 : UInt8) ∉ x) :
    Calls Tryz.prog 116 #[.pointer (some ⟨b, 0, none⟩)] w fun e w' => e = .returned (.tuple #[.string (strOf (x ++ [10])), .bool true]) ∧ Blk w' b t #[.string s, .int .i64 (p + (x.length + 1) : Nat), .int .i64 (-1)] ∧ Inside (fun i => i = b) w w' :=
  (line_any s p q b t T y w hs hp hb he hne).mono fun e w' ⟨h1, h2⟩ => by
    rcases h1 with ⟨x', r', h3, h4, h5, h6⟩ | ⟨h3, _⟩
    · have e1 : splitL 10 (x' ++ 10 :: r') = splitL 10 (x ++ 10 :: r) := by rw [← h3, ← hx]
      rw [splitL_app h4, splitL_app h10] at e1
      injection e1 with e1 _
      subst e1
      exact ⟨h5, h6, h2⟩
    · exact absurd (hx ▸ (by simp : (10 : UInt8) ∈ x ++ 10 :: r)) h3
theorem cut_line (l : List UInt8) : (10 : UInt8) ∉ l ∨ ∃ x r, l = x ++ 10 :: r ∧ (10 : UInt8) ∉ x := by
  induction l with
  | nil => exact .inl (by simp)
  | cons c l ih =>
    by_cases hc : c = 10
    · exact .inr ⟨[], l, by rw [hc]; rfl, by simp⟩
    · rcases ih with h | ⟨x, r, rfl, h⟩
      · exact .inl (by simp; exact ⟨fun e => hc e.symm, h⟩)
      · exact .inr ⟨c :: x, r, rfl, by simp; exact ⟨fun e => hc e.symm, h⟩⟩

set_option maxRecDepth 100000 in
set_option maxHeartbeats 4000000 in
theorem records1_steps (n : Nat) (hn : 1 ≤ n) (s : ByteArray) (rb pb : Nat) (t T : TypeId) (y : Value) (q0 : Int) (w0 w : World)
    (hs : s.size ≤ 400000) (hb : Blk w rb t #[.string s, .int .i64 (0 : Nat), .int .i64 q0]) (hpb : w.cell? ⟨pb, 0, none⟩ = some (.pointer (some ⟨rb, 0, none⟩))) (hne : pb ≠ rb) (hr0 : w0.heap.size ≤ rb) (hp0 : w0.heap.size ≤ pb) (hx0 : Ext w0 w)
    (he : EofIs w0 T y) (hm : MaxIs w0) (htab : Lib.TabIs Tryz.prog w0 "internal/strconv.uint64pow10" .u64 Lib.pow10Tab) :
    SeqSteps Fence.wide n Tryz.prog 115 #[.pointer (some ⟨pb, 0, none⟩)] encLE (Inside (fun i => i = rb)) RecE (Inside (fun i => ¬ (i < w0.heap.size ∨ i = rb ∨ i = pb)))
      (fun xs => xs.map (·.g) = (logRest 0 s.data.toList).1 ∧ (xs.map (·.n)).sum = (logRest 0 s.data.toList).2) 100001 w := by
  intro l J W hW hJ hY h0
  have HY := Lib.hid hY
  have HJ := Lib.hid hJ
  have hbW := Lib.hid (Blk.ext hb hW)
  have hpW := Lib.hid ((Ext.cells hW).1 pb 0 (cell_lt hpb) |>.trans hpb)
  have hxW : Ext w0 W := hx0.trans' hW
  have heof : rb ≠ 2 := fun e => by have := cell_lt he; omega
  have HE := Lib.hid he
  have HM := Lib.hid hm
  have HT := Lib.hid htab
  clear hY hJ hb hpb hW hx0 he hm htab
  refine callsIn_of_wp Tryz.func115 rfl trivial ?_ rfl
  simp only [Tryz.ntmps115, List.size_toArray, List.length_cons, List.length_nil, Nat.reduceAdd, Nat.reduceSub, Array.replicate_succ, Array.replicate_zero, List.push_toArray, List.append_toArray, List.nil_append, List.cons_append]
  gi_wp2
  gi_loopw [3] (fun i wr => ∃ (k p : Nat) (q : Int) (xs : List LE), i = .int .i64 k ∧ 4 * k ≤ p ∧ p ≤ s.size ∧ Hid (xs.length = k) ∧ Hid (logRest 0 s.data.toList = (xs.map (·.g) ++ (logRest k (s.data.toList.drop p)).1, (xs.map (·.n)).sum + (logRest k (s.data.toList.drop p)).2)) ∧ J xs wr ∧ Hid (Blk wr rb t #[.string s, .int .i64 p, .int .i64 q]) ∧ Hid (wr.cell? ⟨pb, 0, none⟩ = some (.pointer (some ⟨rb, 0, none⟩))) ∧ Ext w0 wr) (fun i _ => 100001 - (intOf i).toNat)
  case atStart => exact ⟨0, 0, q0, [], rfl, by omega, by omega, Lib.hid rfl, Lib.hid (by simp), h0, hbW, hpW, hxW⟩
  case round =>
    obtain ⟨k, p, q, xs, rfl, hkp, hps, hxk, hrest, hJs, hb, hp, hx⟩ := hrel
    have c0 := hp.out
    have hplt := cell_lt c0
    have hk0 : (0 : Int) ≤ (k : Int) := by omega
    have hk1 : (k : Int) ≤ 100000 := by omega
    rcases cut_line (s.data.toList.drop p) with h10 | ⟨x, r, hxr, h10⟩
    · have HL := Lib.hid (line_none s p q rb t T y wr hs hps hb.out (HE.out.ext hx) heof h10)
      have HF := Lib.hid (show logRest 0 s.data.toList = (xs.map (·.g), (xs.map (·.n)).sum) from by rw [hrest.out, rest_none h10, List.append_nil, Nat.add_zero])
      clear h10
      gi_wp2_with (refine ⟨trivial, ?_⟩; gi_at_call 116; refine (callsIn_wide.2 HL.out).mono ?_; rintro e w1 ⟨rfl, hi1⟩; have HI1 := Lib.hid hi1; clear hi1)
      refine bodyPost_ret (results_none rfl _ _ _) rfl ?_
      exact ⟨⟨_, rfl⟩, xs, by rw [HF.out]; exact ⟨rfl, rfl⟩, HJ.out _ _ _ hJs HI1.out⟩
    · have HL := Lib.hid (line_some s p q rb t T y wr hs hps hb.out (HE.out.ext hx) heof x r hxr h10)
      obtain ⟨ls, hls⟩ : ∃ ls, ls = strOf (x ++ [10]) := ⟨_, rfl⟩
      rw [← hls] at HL
      have hlsz : ls.size = x.length + 1 := by rw [hls, strOf_size]; simp
      have hlen : x.length + 1 + p ≤ s.size := by
        have h1 := congrArg List.length hxr
        have h2 : s.data.toList.length = s.size := by simp
        rw [List.length_drop, List.length_append, List.length_cons] at h1
        omega
      have hdrop : s.data.toList.drop (p + (x.length + 1)) = r := by
        rw [← List.drop_drop, hxr, ← List.drop_drop, List.drop_left' rfl]; rfl
      have HLS := Lib.hid hls
      have HR := Lib.hid (fun W (hW : Ext w0 W) => recordGet_any k x ls W hls (by omega) (by omega) (HM.out.ext hW) (pow_ext HT.out hW))
      have HS := Lib.hid hlsz
      have hls4 : ls.size ≤ 400000 := by omega
      cases hrc : recOf k x with
      | none =>
        have HF := Lib.hid (show logRest 0 s.data.toList = (xs.map (·.g), (xs.map (·.n)).sum) from by rw [hrest.out, hxr, rest_stop h10 hrc, List.append_nil, Nat.add_zero])
        have HR2 := Lib.hid (fun W (hW : Ext w0 W) => show Calls Tryz.prog 117 #[.int .i64 k, .string ls] W fun e w' => e = .returned (.tuple #[.agg #[.slice none 0 0, .slice none 0 0], .bool false]) ∧ Ext W w' from (HR.out W hW).mono fun e w' ⟨h1, h2⟩ => ⟨by rw [hrc] at h1; exact h1, h2⟩)
        clear h10 hxr hls hlsz hdrop hrc HR
        gi_wp2_with (first
          | (refine ⟨trivial, ?_⟩; gi_at_call 116; refine (callsIn_wide.2 HL.out).mono ?_; rintro e w1 ⟨rfl, _, hi1⟩; have HI1 := Lib.hid hi1; have HX1 := Lib.hid (hi1.toExt hx (fun i hi => by omega)); clear hi1)
          | (refine ⟨trivial, ?_⟩; gi_at_call 117; refine (callsIn_wide.2 (HR2.out _ HX1.out)).mono ?_; rintro e w2 ⟨rfl, hx2⟩; have HX2 := Lib.hid hx2; clear hx2))
        refine ⟨(fun _ h => by cases h), ?_⟩
        gi_wp2
        refine bodyPost_ret (results_none rfl _ _ _) rfl ?_
        refine ⟨⟨_, rfl⟩, xs, by rw [HF.out]; exact ⟨rfl, rfl⟩, HJ.out _ _ _ hJs (HI1.out.trans' (Inside.of_ext ?_))⟩
        exact HX2.out.alloc _
      | some g =>
        have hl3 := recOf_len hrc
        have HF := Lib.hid (show logRest 0 s.data.toList = ((xs.map (·.g) ++ [g]) ++ (logRest (k + 1) r).1, ((xs.map (·.n)).sum + ls.size) + (logRest (k + 1) r).2) from by rw [hrest.out, hxr, rest_go h10 hrc, HS.out, Prod.mk.injEq]; exact ⟨by simp, by show _ + (x.length + 1 + _) = _; omega⟩)
        have HR2 := Lib.hid (fun W (hW : Ext w0 W) => show Calls Tryz.prog 117 #[.int .i64 k, .string ls] W fun e w' => GotSomeC W.heap.size g g.comes.length g.goes.length e w' ∧ Ext W w' from (HR.out W hW).mono fun e w' ⟨h1, h2⟩ => ⟨by rw [hrc] at h1; exact GotChange.some h1, h2⟩)
        obtain ⟨n1, hn1⟩ : ∃ n1, n1 = g.comes.length := ⟨_, rfl⟩
        obtain ⟨m1, hm1⟩ : ∃ m1, m1 = g.goes.length := ⟨_, rfl⟩
        rw [← hn1, ← hm1] at HR2
        have HD := Lib.hid hdrop
        clear h10 hxr hls hlsz hdrop hrc HR hn1 hm1
        gi_wp2_with (first
          | (refine ⟨trivial, ?_⟩; gi_at_call 116; refine (callsIn_wide.2 HL.out).mono ?_; rintro e w1 ⟨rfl, hb1, hi1⟩; have HB1 := Lib.hid hb1; have HI1 := Lib.hid hi1; have HX1 := Lib.hid (hi1.toExt hx (fun i hi => by omega)); have hz1 := hi1.size; clear hi1 hb1)
          | (refine ⟨trivial, ?_⟩; gi_at_call 117; refine (callsIn_wide.2 (HR2.out _ HX1.out)).mono ?_; rintro e w2 ⟨⟨A3, B3, c3, d3, S3, T3, rfl, ⟨k1, k2, k3, k4⟩, hv3, hu3, hS3, hT3, hD3⟩, hx2⟩
             have HX2 := Lib.hid hx2
             have HC := Lib.hid (Blk.new w2 25 #[.slice A3 n1 c3, .slice B3 m1 d3])
             have p0 := HC.out.cell 0
             have p1 := HC.out.cell 1
             have hz2 := hx2.size
             obtain ⟨fn, tmps, assign, body, hy, hR⟩ := HY.out xs (⟨g, A3, n1, c3, B3, m1, d3, ls.size⟩ : LE) wr (w2.alloc (.cells #[.slice A3 n1 c3, .slice B3 m1 d3] 25)) hJs (HI1.out.trans' (Inside.of_ext (hx2.alloc _)))
               ⟨fun b => S3 b ∧ b < w2.heap.size, fun b => T3 b ∧ b < w2.heap.size, (SliceO.low hv3).ext ((Ext.refl _).alloc _), (SliceO.low hu3).ext ((Ext.refl _).alloc _), fun b hb => ⟨Nat.le_trans hz1 (hS3 b hb.1), by simp only [World.size_alloc]; have := hb.2; omega⟩, fun b hb => ⟨Nat.le_trans hz1 (hT3 b hb.1), by simp only [World.size_alloc]; have := hb.2; omega⟩, fun b hb hc => hD3 b hb.1 hc.1, hls4⟩ (by have := hxk.out; omega)
             dsimp only [encLE] at hy
             have HR3 := Lib.hid hR
             clear hR hx2 hv3 hu3 hS3 hT3 hD3))
        refine HR3.out.mono ?_
        rintro e W3 ⟨rfl, hJ3, hk3⟩
        have HK3 := Lib.hid hk3
        clear hk3
        gi_wp2
        go_roundw
        case rel =>
          have hlt1 := HB1.out.lt
          have hb3 : Blk W3 rb t #[.string s, .int .i64 (p + (x.length + 1) : Nat), .int .i64 (-1)] := HK3.out.blk ((HB1.out.ext HX2.out).alloc _) (fun h => h (.inr (.inl rfl)))
          have hpw : wr.heap[pb]? = wr.heap[pb]? := rfl
          have hp1 := HI1.out.block pb hplt (fun e => hne e)
          have hp2 := HX2.out.block pb (by omega)
          have hp3 := HK3.out.block pb (by simp only [World.size_alloc]; omega) (fun h => h (.inr (.inr rfl)))
          have hp4 : W3.heap[pb]? = wr.heap[pb]? := by
            rw [hp3, ← hp1, ← hp2]
            exact Below.heap_alloc _ _ pb (by omega)
          refine ⟨k + 1, p + (x.length + 1), -1, xs ++ [⟨g, A3, n1, c3, B3, m1, d3, ls.size⟩], by go_num, by omega, by omega, ?_, ?_, hJ3, Lib.hid hb3, Lib.hid ((World.cell?_of_block (w := wr) (a := ⟨pb, 0, none⟩) hp4).trans hp.out), HK3.out.toExt ((HX1.out.trans' HX2.out).alloc _) (fun i hi => Nat.le_of_not_lt (fun h => hi (.inl h)))⟩
          · exact Lib.hid (by rw [List.length_append, hxk.out]; rfl)
          · refine Lib.hid ?_
            rw [HF.out, HD.out]
            simp
        case measure => simp [intOf]; omega

end Go.Proofs.YthndnkafckapnaaGreatDoor
