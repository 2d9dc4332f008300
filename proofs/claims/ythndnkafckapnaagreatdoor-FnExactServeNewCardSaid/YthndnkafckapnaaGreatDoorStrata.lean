/- The walks of the program's headPlaces and strataOf. -/
import Derived.Test.YthndnkafckapnaaGreatDoorArgs
import Derived.Test.YthndnkafckapnaaGreatDoorRlU
namespace Go.Proofs.YthndnkafckapnaaGreatDoor
set_option linter.unusedSimpArgs false
set_option linter.unusedVariables false
open Go.RowKit

theorem heads_take {l : List GR} {k : Nat} {r : GR} (h : l[k]? = some r) : heads (l.take (k + 1)) = if (idxB (heads (l.take k)) r.head.n).isSome then heads (l.take k) else heads (l.take k) ++ [r.head.n] := by
  obtain ⟨hk, rfl⟩ := List.getElem?_eq_some_iff.1 h
  rw [List.take_succ_eq_append_getElem hk, heads_snoc]

set_option maxRecDepth 100000 in
set_option maxHeartbeats 2000000 in
theorem headPlaces_any (v : Value) (l : List GR) (w : World) {S : Nat → Prop} (hv : RulesR S w v l) (hl : l.length ≤ 8) :
    Calls Tryz.prog 184 #[v] w fun e w' => (e = .returned (.map (some w.heap.size)) ∧ MapN w' w.heap.size (heads l).length (idxB (heads l))) ∧ Ext w w' := by
  obtain ⟨A, c, rfl, hc1, hc2⟩ := SliceR.form hv
  have HV := Lib.hid (show RulesR (fun b => b < w.heap.size) w (.slice A l.length c) l from ListK.sub (k := kRule) (ListK.low (k := kRule) hv) (fun b hb => hb.2))
  have hmm := @run_makeMap Tryz.prog
  clear hv
  go_enter Tryz.func184, Tryz.ntmps184
  go_wp2
  clear hmm
  go_loopw [11] (fun i wr => ∃ k : Nat, k ≤ l.length ∧ i = .int .i64 k ∧ Hid (MapN wr w.heap.size (heads (l.take k)).length (idxB (heads (l.take k)))) ∧ Ext w wr) (fun i _ => l.length - (intOf i).toNat)
  case atStart => exact ⟨0, Nat.zero_le _, rfl, (MapN.made w).same (fun _ => rfl), (Ext.refl _).alloc _⟩
  case round =>
    obtain ⟨k, hk, rfl, hm, hx⟩ := hrel
    have hk0 : (0 : Int) ≤ (k : Int) := by omega
    by_cases hlt : k < l.length
    · have hk1 : (k : Int) < (l.length : Int) := by omega
      obtain ⟨b, off, r, v1, u1, rfl, hb, hrk, hrs, ht, hu, p0, p1, p2⟩ := RulesR.at_ HV.out hlt
      obtain ⟨C, e, rfl, he1, he2⟩ := SliceR.form ht
      obtain ⟨D, f, rfl, hf1, hf2⟩ := SliceR.form hu
      have r0 := (hx.cells.1 b (off + k * 3) hb).trans p0
      have r1 := (hx.cells.1 b (off + k * 3 + 1) hb).trans p1
      have r2 := (hx.cells.1 b (off + k * 3 + 2) hb).trans p2
      have hle := heads_len (l.take k)
      have hlk : (l.take k).length ≤ k := List.length_take_le _ _
      have hnx := heads_take hrk
      clear p0 p1 p2 hrk ht hu
      have hlm := hm.out.lt
      cases hf : idxB (heads (l.take k)) r.head.n with
      | none =>
        rw [hf] at hnx
        obtain ⟨n, hn⟩ : ∃ n, n = (heads (l.take k)).length := ⟨_, rfl⟩
        have HN := Lib.hid (show n + 1 = (heads (l.take (k + 1))).length from by rw [hnx, hn]; simp)
        have HFN := Lib.hid (show ∀ x, (if x = r.head.n then some n else idxB (heads (l.take k)) x) = idxB (heads (l.take (k + 1))) x from fun x => by
          rw [hnx, hn]
          simp only [Option.isSome_none, Bool.false_eq_true, if_false]
          rw [idxB_snoc]
          by_cases e : x = r.head.n
          · rw [if_pos e, e, hf, if_pos rfl]
          · rw [if_neg e, if_neg (fun h => e h.symm)]
            cases idxB (heads (l.take k)) x <;> rfl)
        have HF := Lib.hid hf
        rw [← hn] at hm hle
        clear hf hnx hn
        go_wp2_with (first
          | (at_lookup; refine wpList_mapN_none _ rfl _ _ rfl w.heap.size n (idxB (heads (l.take k))) rfl (hm.out.alloc _) r.head.n rfl hrs HF.out ?_)
          | (at_len; refine wpList_mapN_len _ rfl _ rfl w.heap.size n (idxB (heads (l.take k))) rfl (hm.out.alloc _) ?_)
          | (at_mapUpdate; refine wpList_mapN_put _ rfl _ _ _ rfl w.heap.size n (idxB (heads (l.take k))) rfl (hm.out.alloc _) (by omega) r.head.n rfl hrs n rfl (by omega) ?_; intro w1 hm1 hg1; have HM1 := Lib.hid hm1; have HG1 := Lib.hid hg1; clear hm1 hg1))
        go_roundw
        case rel =>
          have hm1 := HM1.out
          rw [HF.out] at hm1
          refine ⟨k + 1, by omega, by go_num, Lib.hid (by rw [← HN.out]; exact hm1.same HFN.out), Below.trans (hx.alloc _) (grown_below HG1.out (fun g hg => ?_) (by go_size))⟩
          injection hg with hg
          omega
        case measure => simp [intOf]; omega
      | some m =>
        rw [hf] at hnx
        have HE := Lib.hid (show heads (l.take k) = heads (l.take (k + 1)) from by rw [hnx]; simp)
        have HF := Lib.hid hf
        clear hf hnx
        go_wp2_with (at_lookup; refine wpList_mapN_some _ rfl _ _ rfl w.heap.size _ (idxB (heads (l.take k))) rfl (hm.out.alloc _) r.head.n rfl hrs m HF.out ?_)
        go_roundw
        case rel => exact ⟨k + 1, by omega, by go_num, Lib.hid (by rw [← HE.out]; exact hm.out.alloc _), hx.alloc _⟩
        case measure => simp [intOf]; omega
    · have hke : k = l.length := by omega
      subst hke
      rw [List.take_length] at hm
      go_wp2
      go_ret
      exact ⟨⟨rfl, hm.out⟩, hx⟩

section
open Go.RowKit

def sumAt (w : World) (g : Nat) : Nat := match w.heap[g]? with
  | some (.cells cs _ _) => (cs.toList.map fun v => (intOf v).toNat).sum
  | _ => 0
theorem ints_nat : ∀ o : List Nat, o.map ((fun v => (intOf v).toNat) ∘ fun x => Value.int .i64 ((x : Nat) : Int)) = o
  | [] => rfl
  | x :: o => by rw [List.map_cons, ints_nat o]; rfl
theorem sumAt_ints {w : World} {g : Nat} {o : List Nat} (h : Blk w g 3 (ints o)) : sumAt w g = o.sum := by
  unfold sumAt
  unfold Blk at h
  rw [h]
  unfold ints
  simp only [List.map_map]
  rw [ints_nat]
def strataL (l : List GR) (o : List Nat) : List Nat := l.map fun r => at0 o ((idxB (heads l) r.head.n).getD 0)
/-- The levels under way: in block g. -/
structure AtO (w : World) (g : Nat) (l : List GR) (wr : World) (o : List Nat) : Prop where
  blk : Blk wr g 3 (ints o)
  low : Low l o
  map : MapN wr w.heap.size (heads l).length (idxB (heads l))
  ext : Ext w wr
theorem AtO.alloc {w wr : World} {g : Nat} {l : List GR} {o : List Nat} (h : AtO w g l wr o) (b : Obj) : AtO w g l (wr.alloc b) o := ⟨h.blk.alloc _, h.low, h.map.alloc _, h.ext.alloc _⟩
theorem AtO.set {w wr : World} {g : Nat} {l : List GR} {o : List Nat} (h : AtO w g l wr o) (hg : w.heap.size < g) (i v : Nat) (hl : Low l (o.set i v)) : AtO w g l (wr.setCell ⟨g, i, none⟩ (.int .i64 ((v : Nat) : Int))) (o.set i v) :=
  ⟨h.blk.intSet i v, hl, h.map.setCell (show w.heap.size ≠ g by omega) _, h.ext.setNew (show w.heap.size ≤ g by omega) _⟩
theorem AtO.far {w wr : World} {g : Nat} {l : List GR} {o : List Nat} (h : AtO w g l wr o) {p : Addr} (hp : g ≠ p.block) (hq : w.heap.size < p.block) (u : Value) : AtO w g l (wr.setCell p u) o :=
  ⟨h.blk.far hp u, h.low, h.map.setCell (Nat.ne_of_lt hq) u, h.ext.setNew (Nat.le_of_lt hq) u⟩
def StrataSaid (w w' : World) (l : List GR) (e : Ending) : Prop :=
  (∃ o, Low l o ∧ (∀ r ∈ l, ∀ p ∈ r.body, metB l o r p) ∧ ∃ g, e = .returned (.tuple #[.slice (some ⟨g, 0, none⟩) l.length l.length, .nilIface]) ∧ w.heap.size < g ∧ Blk w' g 3 (ints (strataL l o)))
    ∨ (cycleB l = true ∧ ∃ g, e = .returned (.tuple #[.slice none 0 0, .iface 194 (.pointer (some ⟨g, 0, none⟩))]))
theorem metB_none {l : List GR} {o : List Nat} {r : GR} {p : GP} (h : idxB (heads l) p.atom.n = none) : metB l o r p := fun j own h1 _ => by rw [h] at h1; cases h1
theorem metB_some {l : List GR} {o : List Nat} {r : GR} {p : GP} {j own : Nat} (h : idxB (heads l) p.atom.n = some j) (k : idxB (heads l) r.head.n = some own) (hle : at0 o j + one p.no ≤ at0 o own) : metB l o r p := fun j' own' h1 h2 => by
  have e1 := Option.some.inj (h.symm.trans h1)
  have e2 := Option.some.inj (k.symm.trans h2)
  rw [← e1, ← e2]; exact hle
def fillL (xs : List Nat) (k : Nat) : List Nat := xs.take k ++ List.replicate (xs.length - k) 0
theorem fillL_zero (xs : List Nat) : List.replicate xs.length 0 = fillL xs 0 := by simp [fillL]
theorem fillL_all (xs : List Nat) : fillL xs xs.length = xs := by simp [fillL]
theorem fillL_set {xs : List Nat} {k v : Nat} (h : xs[k]? = some v) : (fillL xs k).set k v = fillL xs (k + 1) := by
  obtain ⟨hk, rfl⟩ := List.getElem?_eq_some_iff.1 h
  unfold fillL
  have h1 : (xs.take k).length = k := by rw [List.length_take]; omega
  rw [List.set_append, if_neg (by omega), h1, Nat.sub_self, List.take_succ_eq_append_getElem hk, List.append_assoc, show xs.length - k = (xs.length - (k + 1)) + 1 from by omega, List.replicate_succ, List.set_cons_zero]
  rfl
theorem fillL_len {xs : List Nat} {k : Nat} (h : k ≤ xs.length) : (fillL xs k).length = xs.length := by
  unfold fillL
  rw [List.length_append, List.length_take, List.length_replicate]; omega
def movedOf (m : Value) : Bool := match m with
  | .bool b => b
  | _ => false

set_option maxRecDepth 100000 in
set_option maxHeartbeats 8000000 in
theorem strataOf_any (v : Value) (l : List GR) (w : World) {S : Nat → Prop} (hv : RulesR S w v l) (hl : l.length ≤ 8) :
    Calls Tryz.prog 145 #[v] w fun e w' => StrataSaid w w' l e ∧ Ext w w' := by
  have HP := Lib.hid (headPlaces_any v l w hv hl)
  obtain ⟨A, c, rfl, hc1, hc2⟩ := SliceR.form hv
  have HV := Lib.hid (show RulesR (fun b => b < w.heap.size) w (.slice A l.length c) l from ListK.sub (k := kRule) (ListK.low (k := kRule) hv) (fun b hb => hb.2))
  obtain ⟨n, hn⟩ : ∃ n, n = (heads l).length := ⟨_, rfl⟩
  have hn8 : n ≤ 8 := by rw [hn]; exact Nat.le_trans (heads_len l) hl
  have hmk := makeInts n (by omega)
  have HMK2 := Lib.hid (makeInts l.length (by omega))
  have HN := Lib.hid hn
  rw [← hn] at HP
  clear hv hn
  go_enter Tryz.func145, Tryz.ntmps145
  go_wp2_with (first
    | (go_at_call 184; refine HP.out.mono ?_; rintro e w1 ⟨⟨rfl, hm1⟩, hx1⟩; have hz1 := hm1.lt; have HM1 := Lib.hid hm1; have HX1 := Lib.hid hx1; clear hm1 hx1)
    | (at_len; refine wpList_mapN_len _ rfl _ rfl w.heap.size n (idxB (heads l)) rfl HM1.out ?_))
  clear hmk
  go_loopw [6] (fun m wr => ∃ (o : List Nat) (b : Bool), m = .bool b ∧ Hid (AtO w w1.heap.size l wr o) ∧ Hid (b = false → ∀ r ∈ l, ∀ p ∈ r.body, metB l o r p)) (fun m wr => if movedOf m then 100 - sumAt wr w1.heap.size else 0)
  case atStart =>
    refine ⟨List.replicate n 0, true, rfl, Lib.hid ⟨Blk.new _ _ _, ?_, ?_, HX1.out.alloc _⟩, Lib.hid (fun h => by cases h)⟩
    · rw [HN.out]; exact Low.start l
    · rw [← HN.out]; exact HM1.out.alloc _
  case round =>
    obtain ⟨o0, b0, rfl, hat, hmet⟩ := hrel
    have HS0 := Lib.hid (sumAt_ints hat.out.blk)
    have HL0 := Lib.hid hat.out.low.sum_le
    cases b0 with
    | true =>
      go_wp2
      go_loopw [6, 26] (fun m i wr => ∃ (k : Nat) (o : List Nat) (b : Bool), k ≤ l.length ∧ i = .int .i64 k ∧ m = .bool b ∧ Hid (AtO w w1.heap.size l wr o) ∧ Hid (Pass l o0 o b k 0)) (fun _ i _ => l.length - (intOf i).toNat)
      case atStart => exact ⟨0, o0, false, Nat.zero_le _, rfl, rfl, hat, Pass.start l o0⟩
      case round =>
        obtain ⟨k, o, b, hk, rfl, rfl, hat, hps⟩ := hrel
        have hk0 : (0 : Int) ≤ (k : Int) := by omega
        by_cases hlt : k < l.length
        · have hk1 : (k : Int) < (l.length : Int) := by omega
          obtain ⟨b, off, r, v1, u1, rfl, hb, hrk, hrs, ht, hu, p0, p1, p2⟩ := RulesR.at_ HV.out hlt
          obtain ⟨C, e, rfl, he1, he2⟩ := SliceR.form ht
          obtain ⟨D, f, rfl, hf1, hf2⟩ := SliceR.form hu
          have r0 := (hat.out.ext.cells.1 b (off + k * 3) hb).trans p0
          have r1 := (hat.out.ext.cells.1 b (off + k * 3 + 1) hb).trans p1
          have r2 := (hat.out.ext.cells.1 b (off + k * 3 + 2) hb).trans p2
          clear p0 p1 p2
          obtain ⟨own, hown⟩ := idxB_mem (heads_mem.2 ⟨r, List.mem_of_getElem? hrk, rfl⟩)
          have hon := idxB_lt hown
          have HRK := Lib.hid hrk
          have hlw := hat.out.blk.lt
          have HOWN := Lib.hid hown
          have HU := Lib.hid hu
          have HT := Lib.hid ht
          have hon2 : own < n := by rw [HN.out]; exact hon
          have HMA := Lib.hid (show MapN wr w.heap.size n (idxB (heads l)) from by rw [HN.out]; exact hat.out.map)
          clear hrk hown hu ht hon
          go_wp2_with (at_lookup; refine wpList_mapN_at _ rfl _ _ rfl w.heap.size n (idxB (heads l)) rfl (HMA.out.alloc _) r.head.n rfl hrs own HOWN.out ?_)
          go_loopw [6, 38] (fun m i wq => ∃ (q : Nat) (o : List Nat) (b : Bool), q ≤ r.body.length ∧ i = .int .i64 q ∧ m = .bool b ∧ Hid (AtO w w1.heap.size l wq o) ∧ Hid (Pass l o0 o b k q) ∧ Hid (Blk wq wr.heap.size 95 #[.string r.head.n, .slice C r.head.args.length e, .slice D r.body.length f])) (fun _ i _ => r.body.length - (intOf i).toNat)
          case atStart => exact ⟨0, o, _, Nat.zero_le _, rfl, rfl, Lib.hid (hat.out.alloc _), hps.out, Blk.new _ _ _⟩
          case round =>
            obtain ⟨q, o, b, hq, rfl, rfl, hat, hpass, hrb⟩ := hrel
            have hq0 : (0 : Int) ≤ (q : Int) := by omega
            by_cases hqt : q < r.body.length
            · have hq1 : (q : Int) < (r.body.length : Int) := by omega
              obtain ⟨b2, off2, p, v2, rfl, hb2, hpk, hps2, htp, z0, z1, z2⟩ := PartsR.at_ HU.out hqt
              obtain ⟨E2, g2, rfl, _, _⟩ := SliceR.form htp
              have s0 := (hat.out.ext.cells.1 b2 (off2 + q * 3) hb2).trans z0
              have s1 := (hat.out.ext.cells.1 b2 (off2 + q * 3 + 1) hb2).trans z1
              have s2 := (hat.out.ext.cells.1 b2 (off2 + q * 3 + 2) hb2).trans z2
              have HPK := Lib.hid hpk
              have HQA := Lib.hid (hat.out.alloc (.cells #[.bool p.no, .string p.atom.n, .slice E2 p.atom.args.length g2] 144))
              have HQB := Lib.hid (hrb.out.alloc (.cells #[.bool p.no, .string p.atom.n, .slice E2 p.atom.args.length g2] 144))
              have HQM := Lib.hid (show MapN _ w.heap.size n (idxB (heads l)) from by rw [HN.out]; exact HQA.out.map)
              have hol : o.length = n := by rw [HN.out]; exact hat.out.low.1
              have HOL := Lib.hid (show own < o.length by omega)
              clear z0 z1 z2 hpk htp
              cases hfj : idxB (heads l) p.atom.n with
              | none =>
                have HM := Lib.hid (metB_none (o := o) (r := r) hfj)
                have HFJ := Lib.hid hfj
                clear hfj
                go_wp2_with (at_lookup; refine wpList_mapN_none _ rfl _ _ rfl w.heap.size n (idxB (heads l)) rfl HQM.out p.atom.n rfl hps2 HFJ.out ?_)
                go_roundw
                case rel => exact ⟨q + 1, o, b, by omega, by go_num, rfl, HQA.out, hpass.out.part HRK.out HPK.out HM.out, HQB.out⟩
                case measure => simp [intOf]; omega
              | some j2 =>
                have hj2 : j2 < n := by rw [HN.out]; exact idxB_lt hfj
                have HFJ := Lib.hid hfj
                obtain ⟨x, hx2⟩ : ∃ x, x = at0 o j2 := ⟨_, rfl⟩
                obtain ⟨y, hy2⟩ : ∃ y, y = at0 o own := ⟨_, rfl⟩
                have cj := HQA.out.blk.int (i := j2) (by omega)
                have co := HQA.out.blk.int (i := own) (by omega)
                have fo := HQA.out.blk.frozen own
                rw [← hx2] at cj
                rw [← hy2] at co
                have hxb : x < 8 := by have := hat.out.low.2.1 j2 (by omega); omega
                have hyb : y < 8 := by have := hat.out.low.2.1 own (by omega); omega
                have HX2 := Lib.hid hx2
                have HY2 := Lib.hid hy2
                have hlg := HQA.out.blk.lt
                clear hx2 hy2 hfj
                cases hno : p.no
                · rw [hno] at s0 HQA HQB HQM cj co fo hlg
                  have hq0 : (0 : Int) ≤ (x : Int) := by omega
                  by_cases hge : x ≤ y
                  · have hg1 : decide ((y : Int) ≥ (x : Int)) = true := decide_eq_true (by omega)
                    have HM := Lib.hid (metB_some (p := p) HFJ.out HOWN.out (show at0 o j2 + one p.no ≤ at0 o own from by rw [hno, ← HX2.out, ← HY2.out]; exact hge))
                    clear hno
                    go_wp2_with (at_lookup; refine wpList_mapN_some _ rfl _ _ rfl w.heap.size n (idxB (heads l)) rfl HQM.out p.atom.n rfl hps2 j2 HFJ.out ?_)
                    go_roundw
                    case rel => exact ⟨q + 1, o, b, by omega, by go_num, rfl, HQA.out, hpass.out.part HRK.out HPK.out HM.out, HQB.out⟩
                    case measure => simp [intOf]; omega
                  · have hg1 : decide ((y : Int) ≥ (x : Int)) = false := decide_eq_false (by omega)
                    by_cases hbig : n ≤ x
                    · have hg2 : decide ((x : Int) ≥ (n : Int)) = true := decide_eq_true (by omega)
                      have HCY := Lib.hid (hat.out.low.cycle (p := p) (r := r) (j := j2) (List.mem_of_getElem? HRK.out) (List.mem_of_getElem? HPK.out) HFJ.out (by rw [hno, ← HX2.out, ← HN.out]; exact hbig))
                      clear hno
                      go_wp2_with (first
                        | (at_lookup; refine wpList_mapN_some _ rfl _ _ rfl w.heap.size n (idxB (heads l)) rfl HQM.out p.atom.n rfl hps2 j2 HFJ.out ?_)
                        | (at_len; refine wpList_mapN_len _ rfl _ rfl w.heap.size n (idxB (heads l)) rfl HQM.out ?_))
                      have rc0 := HQB.out.cell 0
                      go_region
                      go_wp2
                      go_ret2
                      exact ⟨.inr ⟨HCY.out, _, rfl⟩, ((hat.out.ext.alloc _).alloc _).drew⟩
                    · have hg2 : decide ((x : Int) ≥ (n : Int)) = false := decide_eq_false (by omega)
                      have HLOW := Lib.hid (hat.out.low.set (p := p) (r := r) (j := j2) (own := own) (List.mem_of_getElem? HRK.out) (List.mem_of_getElem? HPK.out) HFJ.out HOWN.out (by rw [hno, ← HX2.out, ← HN.out]; exact Nat.lt_of_not_le hbig))
                      have HMV := Lib.hid (hpass.out.moved (own := own) (v := at0 o j2 + one p.no) HOL.out (by rw [hno, ← HX2.out, ← HY2.out]; exact Nat.lt_of_not_le hge))
                      rw [hno, ← HX2.out] at HLOW HMV
                      clear hno
                      go_wp2_with (first
                        | (at_lookup; refine wpList_mapN_some _ rfl _ _ rfl w.heap.size n (idxB (heads l)) rfl HQM.out p.atom.n rfl hps2 j2 HFJ.out ?_)
                        | (at_len; refine wpList_mapN_len _ rfl _ rfl w.heap.size n (idxB (heads l)) rfl HQM.out ?_))
                      go_roundw
                      case rel => exact ⟨q + 1, o.set own (x + 0), true, by omega, by go_num, rfl, Lib.hid (by simpa using HQA.out.set hz1 own (x + 0) HLOW.out), HMV.out, Lib.hid (HQB.out.far (p := ⟨w1.heap.size, own, none⟩) (by show _ ≠ w1.heap.size; omega) _)⟩
                      case measure => simp [intOf]; omega
                · rw [hno] at s0 HQA HQB HQM cj co fo hlg
                  have hq0 : (0 : Int) ≤ (x : Int) := by omega
                  by_cases hge : x + 1 ≤ y
                  · have hg1 : decide ((y : Int) ≥ (x : Int) + 1) = true := decide_eq_true (by omega)
                    have HM := Lib.hid (metB_some (p := p) HFJ.out HOWN.out (show at0 o j2 + one p.no ≤ at0 o own from by rw [hno, ← HX2.out, ← HY2.out]; exact hge))
                    clear hno
                    go_wp2_with (at_lookup; refine wpList_mapN_some _ rfl _ _ rfl w.heap.size n (idxB (heads l)) rfl HQM.out p.atom.n rfl hps2 j2 HFJ.out ?_)
                    go_roundw
                    case rel => exact ⟨q + 1, o, b, by omega, by go_num, rfl, HQA.out, hpass.out.part HRK.out HPK.out HM.out, HQB.out⟩
                    case measure => simp [intOf]; omega
                  · have hg1 : decide ((y : Int) ≥ (x : Int) + 1) = false := decide_eq_false (by omega)
                    by_cases hbig : n ≤ x + 1
                    · have hg2 : decide ((x : Int) + 1 ≥ (n : Int)) = true := decide_eq_true (by omega)
                      have HCY := Lib.hid (hat.out.low.cycle (p := p) (r := r) (j := j2) (List.mem_of_getElem? HRK.out) (List.mem_of_getElem? HPK.out) HFJ.out (by rw [hno, ← HX2.out, ← HN.out]; exact hbig))
                      clear hno
                      go_wp2_with (first
                        | (at_lookup; refine wpList_mapN_some _ rfl _ _ rfl w.heap.size n (idxB (heads l)) rfl HQM.out p.atom.n rfl hps2 j2 HFJ.out ?_)
                        | (at_len; refine wpList_mapN_len _ rfl _ rfl w.heap.size n (idxB (heads l)) rfl HQM.out ?_))
                      have rc0 := HQB.out.cell 0
                      go_region
                      go_wp2
                      go_ret2
                      exact ⟨.inr ⟨HCY.out, _, rfl⟩, ((hat.out.ext.alloc _).alloc _).drew⟩
                    · have hg2 : decide ((x : Int) + 1 ≥ (n : Int)) = false := decide_eq_false (by omega)
                      have HLOW := Lib.hid (hat.out.low.set (p := p) (r := r) (j := j2) (own := own) (List.mem_of_getElem? HRK.out) (List.mem_of_getElem? HPK.out) HFJ.out HOWN.out (by rw [hno, ← HX2.out, ← HN.out]; exact Nat.lt_of_not_le hbig))
                      have HMV := Lib.hid (hpass.out.moved (own := own) (v := at0 o j2 + one p.no) HOL.out (by rw [hno, ← HX2.out, ← HY2.out]; exact Nat.lt_of_not_le hge))
                      rw [hno, ← HX2.out] at HLOW HMV
                      clear hno
                      go_wp2_with (first
                        | (at_lookup; refine wpList_mapN_some _ rfl _ _ rfl w.heap.size n (idxB (heads l)) rfl HQM.out p.atom.n rfl hps2 j2 HFJ.out ?_)
                        | (at_len; refine wpList_mapN_len _ rfl _ rfl w.heap.size n (idxB (heads l)) rfl HQM.out ?_))
                      go_roundw
                      case rel => exact ⟨q + 1, o.set own (x + 1), true, by omega, by go_num, rfl, Lib.hid (by simpa using HQA.out.set hz1 own (x + 1) HLOW.out), HMV.out, Lib.hid (HQB.out.far (p := ⟨w1.heap.size, own, none⟩) (by show _ ≠ w1.heap.size; omega) _)⟩
                      case measure => simp [intOf]; omega
            · have hje : r.body.length ≤ q := by omega
              go_wp2
              go_roundw
              case rel => exact ⟨k + 1, o, b, by omega, by go_num, rfl, hat, hpass.out.rule HRK.out hje⟩
              case measure => simp [intOf]; omega
        · have hkl : l.length ≤ k := by omega
          have HS1 := Lib.hid (sumAt_ints hat.out.blk)
          go_wp2
          go_roundw
          case rel =>
            refine ⟨o, b, rfl, hat, Lib.hid (fun hb => ?_)⟩
            subst hb
            exact (hps.out.done hkl).2
          case measure =>
            have h1 := HS0.out
            have h2 := HL0.out
            have h3 := HS1.out
            rw [← HN.out] at h2
            have h6 : n * n ≤ 8 * 8 := Nat.mul_le_mul hn8 hn8
            have h4 : o.sum ≤ 64 := Nat.le_trans hat.out.low.sum_le (by rw [← HN.out]; exact Nat.mul_le_mul hn8 hn8)
            cases b with
            | true =>
              have h5 := hps.out.1 rfl
              simp only [movedOf, if_true]
              omega
            | false =>
              simp [movedOf]
              omega
    | false =>
      have HM := Lib.hid (hmet.out rfl)
      have hmk2 := HMK2.out
      have HSN := Lib.hid (show (strataL l o0).length = l.length from List.length_map _)
      have hlw := hat.out.blk.lt
      go_wp2
      clear hmk2
      go_loopw [87] (fun i wq => ∃ k : Nat, k ≤ l.length ∧ i = .int .i64 k ∧ Hid (AtO w w1.heap.size l wq o0) ∧ Hid (Blk wq wr.heap.size 3 (ints (fillL (strataL l o0) k)))) (fun i _ => l.length - (intOf i).toNat)
      case atStart =>
        refine ⟨0, Nat.zero_le _, rfl, Lib.hid (hat.out.alloc _), ?_⟩
        rw [← fillL_zero, HSN.out]
        exact Blk.new _ _ _
      case round =>
        obtain ⟨k, hk, rfl, hat2, hst⟩ := hrel
        have hk0 : (0 : Int) ≤ (k : Int) := by omega
        by_cases hlt : k < l.length
        · have hk1 : (k : Int) < (l.length : Int) := by omega
          obtain ⟨b, off, r, v1, u1, rfl, hb, hrk, hrs, ht, hu, p0, p1, p2⟩ := RulesR.at_ HV.out hlt
          obtain ⟨C, e, rfl, he1, he2⟩ := SliceR.form ht
          obtain ⟨D, f, rfl, hf1, hf2⟩ := SliceR.form hu
          have r0 := (hat2.out.ext.cells.1 b (off + k * 3) hb).trans p0
          have r1 := (hat2.out.ext.cells.1 b (off + k * 3 + 1) hb).trans p1
          have r2 := (hat2.out.ext.cells.1 b (off + k * 3 + 2) hb).trans p2
          clear p0 p1 p2 ht hu
          obtain ⟨own, hown⟩ := idxB_mem (heads_mem.2 ⟨r, List.mem_of_getElem? hrk, rfl⟩)
          have hon := idxB_lt hown
          have hon2 : own < n := by rw [HN.out]; exact hon
          have HOWN := Lib.hid hown
          have HSK := Lib.hid (show (strataL l o0)[k]? = some (at0 o0 own) from by unfold strataL; rw [List.getElem?_map, hrk]; simp [hown])
          have HQA := Lib.hid (hat2.out.alloc (.cells #[.string r.head.n, .slice C r.head.args.length e, .slice D r.body.length f] 95))
          have HQS := Lib.hid (hst.out.alloc (.cells #[.string r.head.n, .slice C r.head.args.length e, .slice D r.body.length f] 95))
          have HQM := Lib.hid (show MapN _ w.heap.size n (idxB (heads l)) from by rw [HN.out]; exact HQA.out.map)
          have hol : o0.length = n := by rw [HN.out]; exact hat2.out.low.1
          have hfl := fillL_len (xs := strataL l o0) (k := k) (by rw [HSN.out]; exact hk)
          rw [HSN.out] at hfl
          obtain ⟨x, hx2⟩ : ∃ x, x = at0 o0 own := ⟨_, rfl⟩
          have co := HQA.out.blk.int (i := own) (by omega)
          rw [← hx2] at co HSK
          have cs := HQS.out.int (i := k) (by omega)
          have fs := HQS.out.frozen k
          have hls := HQS.out.lt
          clear hrk hown hon hx2 hfl
          go_wp2_with (at_lookup; refine wpList_mapN_at _ rfl _ _ rfl w.heap.size n (idxB (heads l)) rfl HQM.out r.head.n rfl hrs own HOWN.out ?_)
          go_roundw
          case rel => exact ⟨k + 1, by omega, by go_num, Lib.hid (HQA.out.far (p := ⟨_, k, none⟩) (Nat.ne_of_lt hlw) (Nat.lt_trans hz1 hlw) _), Lib.hid (by rw [← fillL_set HSK.out]; exact HQS.out.intSet k x)⟩
          case measure => simp [intOf]; omega
        · have hke : k = l.length := by omega
          subst hke
          have HF := Lib.hid (show Blk wr _ 3 (ints (strataL l o0)) from by have h := hst.out; rw [← HSN.out, fillL_all] at h; exact h)
          go_wp2
          go_ret2
          exact ⟨.inl ⟨o0, hat2.out.low, HM.out, _, rfl, by show w.heap.size < _; omega, HF.out⟩, hat2.out.ext⟩
end

end Go.Proofs.YthndnkafckapnaaGreatDoor
