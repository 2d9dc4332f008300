/- The walks of the program's headPlaces and strataOf. -/
import Derived.Test.YthndnkafckapnaaGreatDoorArgs
import Derived.Test.YthndnkafckapnaaGreatDoorRlU
namespace Go.Proofs.YthndnkafckapnaaGreatDoor
open Go.RowKit

theorem heads_take {l : List GR} {k : Nat} {r : GR} (h : l[k]? = some r) : heads (l.take (k + 1)) = if (idxB (heads (l.take k)) r.head.n).isSome then heads (l.take k) else heads (l.take k) ++ [r.head.n] := by
  obtain ⟨hk, rfl⟩ := List.getElem?_eq_some_iff.1 h
  rw [List.take_succ_eq_append_getElem hk, heads_snoc]

set_option maxRecDepth 100000 in
set_option maxHeartbeats 2000000 in
theorem headPlaces_any (v : Value) (l : List GR) (w : World) {S : Nat → Prop} (hv : RulesR S w v l) (hl : l.length ≤ 8) :
    Calls Tryz.prog 184 #[v] w fun e w' => (e = .returned (.map (some w.heap.size)) ∧ MapN w' w.heap.size (heads l).length (idxB (heads l))) ∧ Ext w w' := by
  obtain ⟨A, c, rfl, hc1, hc2⟩ := SliceR.form hv
  have HV := Lib.hid (show RulesR (fun b => b < w.heap.size) w (.slice A l.length c) l from ListK.sub (k := kRule) (ListK.low (k := kRule) hv) (fun b hb => hb.2))
  have hmm := @run_makeMap Tryz.prog
  clear hv
  go_enter Tryz.func184, Tryz.ntmps184
  go_wp2
  clear hmm
  go_loopw [11] (fun i wr => ∃ k : Nat, k ≤ l.length ∧ i = .int .i64 k ∧ Hid (MapN wr w.heap.size (heads (l.take k)).length (idxB (heads (l.take k)))) ∧ Ext w wr) (fun i _ => l.length - (intOf i).toNat)
  case atStart => exact ⟨0, Nat.zero_le _, rfl, (MapN.made w).same (fun _ => rfl), (Ext.refl _).alloc _⟩
  case round =>
    obtain ⟨k, hk, rfl, hm, hx⟩ := hrel
    have hk0 : (0 : Int) ≤ (k : Int) := by omega
    by_cases hlt : k < l.length
    · have hk1 : (k : Int) < (l.length : Int) := by omega
      obtain ⟨b, off, r, v1, u1, rfl, hb, hrk, hrs, ht, hu, p0, p1, p2⟩ := RulesR.at_ HV.out hlt
      obtain ⟨C, e, rfl, he1, he2⟩ := SliceR.form ht
      obtain ⟨D, f, rfl, hf1, hf2⟩ := SliceR.form hu
      have r0 := (hx.cells.1 b (off + k * 3) hb).trans p0
      have r1 := (hx.cells.1 b (off + k * 3 + 1) hb).trans p1
      have r2 := (hx.cells.1 b (off + k * 3 + 2) hb).trans p2
      have hle := heads_len (l.take k)
      have hlk : (l.take k).length ≤ k := List.length_take_le _ _
      have hnx := heads_take hrk
      clear p0 p1 p2 hrk ht hu
      have hlm := hm.out.lt
      cases hf : idxB (heads (l.take k)) r.head.n with
      | none =>
        rw [hf] at hnx
        obtain ⟨n, hn⟩ : ∃ n, n = (heads (l.take k)).length := ⟨_, rfl⟩
        have HN := Lib.hid (show n + 1 = (heads (l.take (k + 1))).length from by rw [hnx, hn]; simp)
        have HFN := Lib.hid (show ∀ x, (if x = r.head.n then some n else idxB (heads (l.take k)) x) = idxB (heads (l.take (k + 1))) x from fun x => by
          rw [hnx, hn]
          simp only [Option.isSome_none, Bool.false_eq_true, if_false]
          rw [idxB_snoc]
          by_cases e : x = r.head.n
          · rw [if_pos e, e, hf, if_pos rfl]
          · rw [if_neg e, if_neg (fun h => e h.symm)]
            cases idxB (heads (l.take k)) x <;> rfl)
        have HF := Lib.hid hf
        rw [← hn] at hm hle
        clear hf hnx hn
        go_wp2_with (first
          | (at_lookup; refine wpList_mapN_none _ rfl _ _ rfl w.heap.size n (idxB (heads (l.take k))) rfl (hm.out.alloc _) r.head.n rfl hrs HF.out ?_)
          | (at_len; refine wpList_mapN_len _ rfl _ rfl w.heap.size n (idxB (heads (l.take k))) rfl (hm.out.alloc _) ?_)
          | (at_mapUpdate; refine wpList_mapN_put _ rfl _ _ _ rfl w.heap.size n (idxB (heads (l.take k))) rfl (hm.out.alloc _) (by omega) r.head.n rfl hrs n rfl (by omega) ?_; intro w1 hm1 hg1; have HM1 := Lib.hid hm1; have HG1 := Lib.hid hg1; clear hm1 hg1))
        go_roundw
        case rel =>
          have hm1 := HM1.out
          rw [HF.out] at hm1
          refine ⟨k + 1, by omega, by go_num, Lib.hid (by rw [← HN.out]; exact hm1.same HFN.out), Below.trans (hx.alloc _) (grown_below HG1.out (fun g hg => ?_) (by go_size))⟩
          injection hg with hg
          omega
        case measure => simp [intOf]; omega
      | some m =>
        rw [hf] at hnx
        have HE := Lib.hid (show heads (l.take k) = heads (l.take (k + 1)) from by rw [hnx]; simp)
        have HF := Lib.hid hf
        clear hf hnx
        go_wp2_with (at_lookup; refine wpList_mapN_some _ rfl _ _ rfl w.heap.size _ (idxB (heads (l.take k))) rfl (hm.out.alloc _) r.head.n rfl hrs m HF.out ?_)
        go_roundw
        case rel => exact ⟨k + 1, by omega, by go_num, Lib.hid (by rw [← HE.out]; exact hm.out.alloc _), hx.alloc _⟩
        case measure => simp [intOf]; omega
    · have hke : k = l.length := by omega
      subst hke
      rw [List.take_length] at hm
      go_wp2
      go_ret
      exact ⟨⟨rfl, hm.out⟩, hx⟩

end Go.Proofs.YthndnkafckapnaaGreatDoor
