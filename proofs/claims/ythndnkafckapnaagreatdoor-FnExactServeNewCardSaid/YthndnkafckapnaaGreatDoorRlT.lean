/- The walks of the reference's rules: l2Atoms, l2Args. -/
import Derived.Test.YthndnkafckapnaaGreatDoorRlS
import Derived.BigQuiet
import Derived.Deep.QuietTactic
namespace Go.Proofs.YthndnkafckapnaaGreatDoor
open Go.RowKit

theorem atomsOf_take {l : List GR} {k : Nat} {x : GR} (h : l[k]? = some x) : atomsOf (l.take (k + 1)) = atomsOf (l.take k) ++ ([x.head] ++ x.body.map (·.atom)) := by
  obtain ⟨hk, rfl⟩ := List.getElem?_eq_some_iff.1 h
  unfold atomsOf
  rw [List.take_succ_eq_append_getElem hk, List.map_append, List.flatten_append]
  simp [ruleAtoms]
theorem atomsOf_few : ∀ {l : List GR}, (∀ r ∈ l, r.body.length ≤ 4) → (atomsOf l).length ≤ 5 * l.length
  | [], _ => Nat.le_refl _
  | r :: l, h => by
    have h1 := atomsOf_few (l := l) (fun x hx => h x (List.mem_cons_of_mem _ hx))
    have h2 := h r (by simp)
    have e : atomsOf (r :: l) = ruleAtoms r ++ atomsOf l := by simp [atomsOf]
    rw [e, List.length_append]
    unfold ruleAtoms
    simp only [List.length_cons, List.length_map]
    omega

set_option maxRecDepth 100000 in
set_option maxHeartbeats 4000000 in
theorem l2Atoms_any (v : Value) (l : List GR) (w : World) {S : Nat → Prop} (hv : RulesR S w v l) (hl : l.length ≤ 8) (hb : ∀ r ∈ l, r.body.length ≤ 4) :
    Calls Tryz.prog 136 #[v] w fun e w' => (∃ v', e = .returned v' ∧ AtomsR Any w' v' (atomsOf l)) ∧ Ext w w' := by
  obtain ⟨A, c, rfl, hc1, hc2⟩ := SliceR.form hv
  obtain ⟨i0, hi0, hz0, hz1, hz2⟩ := info_parts atom_info
  have HV := Lib.hid (show RulesR (fun b => b < w.heap.size) w (.slice A l.length c) l from ListK.sub (k := kRule) (ListK.low (k := kRule) hv) (fun b hb => hb.2))
  have HBD := Lib.hid hb
  clear hv hb
  go_enter Tryz.func136, Tryz.ntmps136
  go_wp2
  go_loopw [3, 4] (fun o i wr => ∃ k : Nat, k ≤ l.length ∧ i = .int .i64 k ∧ Hid (OwnK kAtom w.heap.size 67 (fun b => b < w.heap.size) wr o (atomsOf (l.take k))) ∧ Ext w wr) (fun _ i _ => l.length - (intOf i).toNat)
  case atStart => exact ⟨0, Nat.zero_le _, rfl, OwnK.empty rfl (Nat.le_refl _), (Ext.refl _).alloc _⟩
  case round =>
    obtain ⟨k, hk, rfl, ho, hx⟩ := hrel
    have hk0 : (0 : Int) ≤ (k : Int) := by omega
    have hsz := hx.size
    have hfew : (atomsOf (l.take k)).length ≤ 40 := by
      have h := atomsOf_few (l := l.take k) (fun r hr => HBD.out r (List.mem_of_mem_take hr))
      rw [List.length_take] at h; omega
    obtain ⟨B, n0, d, rfl, hn0, hd1, hd2⟩ := ho.out.form2
    by_cases hlt : k < l.length
    · obtain ⟨b, off, x, v1, u1, rfl, hb, hxk, hxs, ht, hu, p0, p1, p2⟩ := RulesR.at_ HV.out hlt
      obtain ⟨C, e, rfl, he1, he2⟩ := SliceR.form ht
      obtain ⟨D, f, rfl, hf1, hf2⟩ := SliceR.form hu
      have r0 := (hx.cells.1 b (off + k * 3) hb).trans p0
      have r1 := (hx.cells.1 b (off + k * 3 + 1) hb).trans p1
      have r2 := (hx.cells.1 b (off + k * 3 + 2) hb).trans p2
      have P2 := Lib.hid p2
      clear p0 p1 p2
      have hb4 := HBD.out x (List.mem_of_getElem? hxk)
      have HT := Lib.hid ht
      have HU := Lib.hid hu
      have HST := Lib.hid (atomsOf_take hxk)
      have hk1 : (k : Int) < (l.length : Int) := by omega
      clear hxk ht hu
      go_wp2_with (first
        | (at_builtin; refine wpList_appK (k := kAtom) (S := fun b => b < w.heap.size) (T := fun b => b < w.heap.size) (base := w.heap.size) (xs := atomsOf (l.take k)) (ys := [x.head]) rfl (.tmp 13) (.tmp 19) 23 (by rfl) i0 _ 40 Tryz.underlying23 hi0 hz0 hz1 hz2 (by rfl) (by rfl) (ho.out.ext ((Ext.refl _).alloc _)) _ 1 1 (by rfl) (ElemsK.one (k := kAtom) (x := x.head) (Blk.new wr 67 #[.string x.head.n, .slice C x.head.args.length e]) ⟨_, rfl, hxs, HT.out.ext (hx.alloc _)⟩) (fun b hb _ => hb) (fun g hg hT => absurd (ho.out.at_ g hg).1 (Nat.not_le.2 hT)) (maxOf (by omega)) (by omega) (by go_size) ?_
           intro v2 w2 hap
           obtain ⟨B2, n2, d2, rfl, hn2, hd21, hd22⟩ := hap.own.form2
           have HO2 := Lib.hid hap.own
           have HX2 := Lib.hid (show Ext w w2 from hap.toExt (hx.alloc _) (Nat.le_refl _))
           clear hap))
      go_loopw [3, 5] (fun o i wr => ∃ j : Nat, j ≤ x.body.length ∧ i = .int .i64 j ∧ Hid (OwnK kAtom w.heap.size 67 (fun b => b < w.heap.size) wr o ((atomsOf (l.take k) ++ [x.head]) ++ (x.body.take j).map (·.atom))) ∧ Ext w wr) (fun _ i _ => x.body.length - (intOf i).toNat)
      case atStart => exact ⟨0, Nat.zero_le _, rfl, Lib.hid (by simpa using HO2.out), HX2.out⟩
      case round =>
        obtain ⟨j, hj, rfl, ho, hx⟩ := hrel
        have hj0 : (0 : Int) ≤ (j : Int) := by omega
        have hsz := hx.size
        have hlen : ((atomsOf (l.take k) ++ [x.head]) ++ (x.body.take j).map (·.atom)).length ≤ 45 := by
          simp only [List.length_append, List.length_map, List.length_take, List.length_cons, List.length_nil]; omega
        obtain ⟨B, n0, d, rfl, hn0, hd1, hd2⟩ := ho.out.form2
        have r2' := (hx.cells.1 b (off + k * 3 + 2) hb).trans P2.out
        by_cases hjt : j < x.body.length
        · obtain ⟨b', off', y, v3, rfl, hb', hyk, hys, hty, q0, q1, q2⟩ := PartsR.at_ HU.out hjt
          obtain ⟨E, g, rfl, hg1, hg2⟩ := SliceR.form hty
          have s0 := (hx.cells.1 b' (off' + j * 3) hb').trans q0
          have s1 := (hx.cells.1 b' (off' + j * 3 + 1) hb').trans q1
          have s2 := (hx.cells.1 b' (off' + j * 3 + 2) hb').trans q2
          have HTY := Lib.hid hty
          have HST2 := Lib.hid (show (x.body.take (j + 1)).map (·.atom) = (x.body.take j).map (·.atom) ++ [y.atom] from by
            obtain ⟨hj', rfl⟩ := List.getElem?_eq_some_iff.1 hyk
            rw [List.take_succ_eq_append_getElem hj', List.map_append]; rfl)
          clear hyk hty q0 q1 q2
          go_wp2_with (first
            | (at_builtin; refine wpList_appK (k := kAtom) (S := fun b => b < w.heap.size) (T := fun b => b < w.heap.size) (base := w.heap.size) (xs := (atomsOf (l.take k) ++ [x.head]) ++ (x.body.take j).map (·.atom)) (ys := [y.atom]) rfl (.tmp 31) (.tmp 41) 23 (by rfl) i0 _ 40 Tryz.underlying23 hi0 hz0 hz1 hz2 (by rfl) (by rfl) (ho.out.ext ((Ext.refl _).alloc _)) _ 1 1 (by rfl) (ElemsK.one (k := kAtom) (x := y.atom) (Blk.new _ 67 #[.string y.atom.n, .slice E y.atom.args.length g]) ⟨_, rfl, hys, HTY.out.ext (hx.alloc _)⟩) (fun b hb _ => hb) (fun g hg hT => absurd (ho.out.at_ g hg).1 (Nat.not_le.2 hT)) (maxOf (by omega)) (by omega) (by go_size) ?_
               intro v4 w4 hap
               obtain ⟨B4, n4, d4, rfl, hn4, hd41, hd42⟩ := hap.own.form2
               have HO4 := Lib.hid hap.own
               have HX4 := Lib.hid (show Ext w w4 from hap.toExt (hx.alloc _) (Nat.le_refl _))
               clear hap))
          go_roundw
          case rel => exact ⟨j + 1, by omega, by go_num, Lib.hid (by rw [HST2.out, ← List.append_assoc]; exact HO4.out), HX4.out⟩
          case measure => simp [intOf]; omega
        · have HE := Lib.hid (show (atomsOf (l.take k) ++ [x.head]) ++ (x.body.take j).map (·.atom) = atomsOf (l.take (k + 1)) from by
            rw [HST.out, List.take_of_length_le (show x.body.length ≤ j by omega), List.append_assoc])
          go_wp2
          go_roundw
          case rel => exact ⟨k + 1, by omega, by go_num, Lib.hid (by rw [← HE.out]; exact ho.out), hx⟩
          case measure => simp [intOf]; omega
    · have HP := Lib.hid (show atomsOf (l.take k) = atomsOf l from by rw [List.take_of_length_le (by omega)])
      go_wp2
      go_ret
      exact ⟨⟨_, rfl, by rw [← HP.out]; exact ho.out.list (fun _ _ => trivial) (fun _ _ => trivial)⟩, hx⟩

set_option maxRecDepth 100000 in
set_option maxHeartbeats 4000000 in
theorem l2Args_any (v : Value) (l : List GR) (w : World) {S : Nat → Prop} (hv : RulesR S w v l) (hl : l.length ≤ 8) (hb : ∀ r ∈ l, r.body.length ≤ 4) :
    Calls Tryz.prog 98 #[v] w fun e w' => e = .returned (.bool (argsB (atomsOf l))) ∧ Ext w w' := by
  have hc := l2Atoms_any v l w hv hl hb
  obtain ⟨A, c, rfl, hc1, hc2⟩ := SliceR.form hv
  have HC := Lib.hid hc
  obtain ⟨as1, has⟩ : ∃ as1, as1 = atomsOf l := ⟨_, rfl⟩
  have hfew : as1.length ≤ 40 := by have := atomsOf_few hb; rw [has]; omega
  rw [← has] at HC ⊢
  clear hv hc hb has
  go_enter Tryz.func98, Tryz.ntmps98
  go_wp2_with (go_at_call 136; refine HC.out.mono ?_; rintro e w1 ⟨⟨v1, rfl, hv1⟩, hx1⟩; obtain ⟨B, d, rfl, hd1, hd2⟩ := SliceR.form hv1; have HV := Lib.hid hv1; have HX := Lib.hid hx1; clear hv1 hx1)
  go_loopw [4, 5] (fun i _ wr => ∃ k : Nat, k ≤ as1.length ∧ i = .int .i64 k ∧ Hid (∀ (i j : Nat) (a b : GA), i < k → as1[i]? = some a → as1[j]? = some b → j < i → a.n = b.n → a.args.length = b.args.length) ∧ Ext w1 wr) (fun i _ _ => as1.length - (intOf i).toNat)
  case atStart => exact ⟨0, Nat.zero_le _, rfl, Lib.hid (fun i j a b h => absurd h (Nat.not_lt_zero _)), Ext.refl _⟩
  case round =>
    obtain ⟨k, hk, rfl, hp, hx⟩ := hrel
    have hk0 : (0 : Int) ≤ (k : Int) := by omega
    by_cases hlt : k < as1.length
    · obtain ⟨b, off, x, u, rfl, hb, hxk, hxs, ht, p0, p1⟩ := AtomsR.at_ HV.out hlt
      obtain ⟨C, e, rfl, he1, he2⟩ := SliceR.form ht
      have HXK := Lib.hid hxk
      have hk1 : (k : Int) < (as1.length : Int) := by omega
      have P0 := Lib.hid p0
      have P1 := Lib.hid p1
      clear hxk ht p0 p1
      go_wp2
      try simp only [show decide ((k : Int) < (as1.length : Int)) = true from decide_eq_true hk1]
      go_loopw [5] (fun j wr => ∃ q : Nat, q ≤ k ∧ j = .int .i64 q ∧ Hid (∀ (j : Nat) (b : GA), j < q → as1[j]? = some b → x.n = b.n → x.args.length = b.args.length) ∧ Ext w1 wr) (fun j _ => k - (intOf j).toNat)
      case atStart => exact ⟨0, Nat.zero_le _, rfl, Lib.hid (fun j b h => absurd h (Nat.not_lt_zero _)), hx⟩
      case round =>
        obtain ⟨q, hq, rfl, hpq, hx⟩ := hrel
        have hq0 : (0 : Int) ≤ (q : Int) := by omega
        by_cases hqt : q < k
        · obtain ⟨b', off', y, u', hA', hb', hyk, hys, hty, q0, q1⟩ := AtomsR.at_ HV.out (k := q) (show q < as1.length by omega)
          injection hA' with hA'
          injection hA' with e1 e2
          subst e1; subst e2
          obtain ⟨E, g, rfl, hg1, hg2⟩ := SliceR.form hty
          have hq1 : (q : Int) < (as1.length : Int) := by omega
          have r0 := (hx.cells.1 b (off + k * 2) hb).trans P0.out
          have r1 := (hx.cells.1 b (off + k * 2 + 1) hb).trans P1.out
          have s0 := (hx.cells.1 b (off + q * 2) hb').trans q0
          have s1 := (hx.cells.1 b (off + q * 2 + 1) hb').trans q1
          have HYK := Lib.hid hyk
          clear hyk hty q0 q1
          have hsame : ∀ (hg : x.n = y.n → x.args.length = y.args.length), ∀ (j : Nat) (b : GA), j < q + 1 → as1[j]? = some b → x.n = b.n → x.args.length = b.args.length := fun hg j b hj hb e => by
            rcases Nat.lt_or_ge j q with h | h
            · exact hpq.out j b h hb e
            · rw [show j = q from by omega, HYK.out] at hb; injection hb with hb; subst hb; exact hg e
          by_cases hn : x.n = y.n
          · have hn1 : (x.n.toList == y.n.toList) = true := by rw [hn]; exact beq_self_eq_true _
            by_cases hlen : x.args.length = y.args.length
            · have hl1 : ((x.args.length : Int) == (y.args.length : Int)) = true := by rw [hlen]; exact beq_self_eq_true _
              have HS := Lib.hid (hsame (fun _ => hlen))
              clear hsame hn hlen
              go_wp2_with fail
              go_quiet (fail)
              go_wp2
              go_roundw
              case rel => exact ⟨q + 1, by omega, by go_num, HS, hx.drewN _⟩
              case measure => simp [intOf]; omega
            · have hl1 : ((x.args.length : Int) == (y.args.length : Int)) = false := by rw [beq_eq_false_iff_ne]; omega
              have HF := Lib.hid (show argsB as1 = false from by
                cases h : argsB as1
                · rfl
                · exact absurd ((argsB_pairs as1).1 h k q x y HXK.out HYK.out hqt hn) hlen)
              clear hsame hn hlen
              go_wp2_with fail
              go_quiet (fail)
              go_wp2
              go_ret
              exact ⟨by rw [HF.out]; rfl, HX.out.trans' (hx.drewN _)⟩
          · have hn1 : (x.n.toList == y.n.toList) = false := str_ne' hn
            have HS := Lib.hid (hsame (fun h => absurd h hn))
            clear hsame hn
            go_wp2_with fail
            go_quiet (fail)
            go_wp2
            go_roundw
            case rel => exact ⟨q + 1, by omega, by go_num, HS, hx.drewN _⟩
            case measure => simp [intOf]; omega
        · have HS := Lib.hid (show ∀ (i j : Nat) (a b : GA), i < k + 1 → as1[i]? = some a → as1[j]? = some b → j < i → a.n = b.n → a.args.length = b.args.length from fun i j a b hi ha hb hji e => by
            rcases Nat.lt_or_ge i k with h | h
            · exact hp.out i j a b h ha hb hji e
            · have hik : i = k := by omega
              subst hik
              rw [HXK.out] at ha; injection ha with ha; subst ha
              exact hpq.out j b (by omega) hb e)
          go_wp2
          go_roundw
          case rel => exact ⟨k + 1, by omega, by go_num, HS, hx⟩
          case measure => simp [intOf]; omega
    · have HF := Lib.hid (show argsB as1 = true from (argsB_pairs as1).2 (fun i j a b ha hb hji e => hp.out i j a b (by have := (List.getElem?_eq_some_iff.1 ha).1; omega) ha hb hji e))
      go_wp2
      go_ret
      exact ⟨by rw [HF.out]; rfl, HX.out.trans' hx⟩

end Go.Proofs.YthndnkafckapnaaGreatDoor
