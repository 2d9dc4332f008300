/- The walks of the program's copies: copyAtom, copyBody, copyRules: new memory that is owned whole. -/
import Derived.Test.YthndnkafckapnaaGreatDoorToO
import Derived.Laws.CopyOwn
import Derived.Deep.RegionHeld3
import Derived.Test.YthndnkafckapnaaGreatDoorSpecF
namespace Go.Proofs.YthndnkafckapnaaGreatDoor
set_option linter.unusedSimpArgs false
set_option linter.unusedVariables false
open Go.RowKit

theorem run_copy_whole {P : Program} (w : World) (dT sT ty elem : TypeId) (k g n c : Nat) (a : Addr) (sCap : Nat) (cur : Array Value) (t : TypeId) (cs : List Value)
    (hu : P.underlying dT = some (.slice elem)) (hs : (P.info? elem).map (·.size) = some k)
    (hg : w.heap[g]? = some (.cells cur t (0, 0))) (hn : cs.length = n * k)
    (hsrc : ∀ j v, cs[j]? = some v → w.cell? (a.add j) = some v) (hfit : cur.size = cs.length) (h1 : ∀ v ∈ cs, v.oneCell' = true) :
    (Builtin.copy_ #[dT, sT] ty #[.slice (some ⟨g, 0, none⟩) n c, .slice (some a) n sCap]).run P w = .ok (goInt n) (w.setRow g cs.toArray) := by
  have hl := run_loadCells_list (P := P) w a cs hsrc
  have hst := run_storeCells_at P g 0 t cs 0 cur w hg (by omega) h1
  have hd : cur.toList.drop (0 + 0 + cs.length) = [] := List.drop_eq_nil_of_le (by simp [hfit])
  rw [hd] at hst
  simp only [Nat.add_zero, List.take_zero, List.nil_append, List.append_nil] at hst
  cases hq : P.info? elem with
  | none => simp [hq] at hs
  | some i =>
    have hi : i.size = k := by simpa [hq] using hs
    simp [Builtin.copy_, run_underlying hu, Builtin.lenOf, Builtin.firstCells, sizeOf, typeInfo, hq, hi, ← hn, hl, hst]

theorem wpList_copy_whole {P : Program} {w : World} {ops : Array Oper} {rest : List Oper} {o : Oper} {a : Act} {Q : Exit → Act → World → Prop} (hgd : o.guard = none) (d s : Operand) (dT sT : TypeId)
    (ho : o.op = .call { callee := .builtin .copy, args := #[d, s], argTypes := #[dT, sT] }) (elem : TypeId) (k : Nat) (hu : P.underlying dT = some (.slice elem)) (hsz : (P.info? elem).map (·.size) = some k)
    (g n c : Nat) (ad : Addr) (sCap : Nat) (hd : a.eval d = .slice (some ⟨g, 0, none⟩) n c) (hs : a.eval s = .slice (some ad) n sCap)
    (cur : Array Value) (t : TypeId) (hg : Blk w g t cur) (cs : List Value) (hn : cs.length = n * k)
    (hsrc : ∀ j v, cs[j]? = some v → w.cell? (ad.add j) = some v) (hfit : cur.size = cs.length) (h1 : ∀ v ∈ cs, v.oneCell' = true)
    (h : ∀ w', Blk w' g t cs.toArray → Below g w w' → wpList P ops Q rest (a.put o.dst (goInt n)) w') : wpList P ops Q (o :: rest) a w := by
  refine wpList_plain hgd fun K hK => ?_
  have hrun := run_copy_whole (P := P) w dT sT o.type elem k g n c ad sCap cur t cs hu hsz hg hn hsrc hfit h1
  unfold Oper.wp
  simp [execOp, ho, resolve, invoke, builtin, hd, hs, hrun, Result.andThen]
  exact hK _ _ (h _ (setRow_heap w g _ _ t _ hg) (below_setRow (Below.refl _ _) (Nat.le_refl _) _))

def cellsT (xs : List GT) : List Value := xs.flatMap fun t => [.bool t.v, .string t.n]
theorem cellsT_len (xs : List GT) : (cellsT xs).length = xs.length * 2 := by
  unfold cellsT
  induction xs with
  | nil => rfl
  | cons x xs ih => rw [List.flatMap_cons, List.length_append, ih]; simp; omega
theorem cellsT_at : ∀ (xs : List GT) (i : Nat) (x : GT), xs[i]? = some x → (cellsT xs)[i * 2]? = some (.bool x.v) ∧ (cellsT xs)[i * 2 + 1]? = some (.string x.n)
  | [], _, _, h => by simp at h
  | y :: ys, 0, x, h => by simp at h; subst h; simp [cellsT]
  | y :: ys, i + 1, x, h => by
    have ih := cellsT_at ys i x (by simpa using h)
    have e : cellsT (y :: ys) = .bool y.v :: .string y.n :: cellsT ys := by simp [cellsT]
    rw [e, show (i + 1) * 2 = (i * 2 + 1) + 1 from by omega]
    simpa using ih
theorem cellsT_one {xs : List GT} : ∀ v ∈ cellsT xs, v.oneCell' = true := by
  intro v hv
  unfold cellsT at hv
  rw [List.mem_flatMap] at hv
  obtain ⟨x, _, hx⟩ := hv
  simp at hx
  rcases hx with rfl | rfl <;> rfl
theorem cellsT_src {S : Nat → Prop} {w : World} {b off n c : Nat} {xs : List GT} (h : TermsR S w (.slice (some ⟨b, off, none⟩) n c) xs) (j : Nat) (v : Value) (hj : (cellsT xs)[j]? = some v) : w.cell? ((⟨b, off, none⟩ : Addr).add j) = some v := by
  have hn : n = xs.length := by obtain ⟨_, _, hv, _⟩ := h; injection hv
  have hlt : j < xs.length * 2 := by rw [← cellsT_len]; exact (List.getElem?_eq_some_iff.1 hj).1
  obtain ⟨b', off', x, hA, _, hx, _, c0, c1⟩ := TermsR.at_ h (k := j / 2) (by omega)
  injection hA with hA
  injection hA with hb ho
  subst hb; subst ho
  have h2 := cellsT_at _ _ _ hx
  rw [addr_add]
  rcases Nat.mod_two_eq_zero_or_one j with hm | hm
  · have e : j / 2 * 2 = j := by omega
    rw [e] at h2 c0
    rw [h2.1] at hj; injection hj with hj; subst hj
    exact c0
  · have e : j / 2 * 2 + 1 = j := by omega
    rw [Nat.add_assoc, e] at c1
    rw [e] at h2
    rw [h2.2] at hj; injection hj with hj; subst hj
    exact c1
theorem cellsT_filled {S : Nat → Prop} {w0 w : World} {v : Value} {xs : List GT} (h : TermsR S w0 v xs) : Filled 2 TermE w (cellsT xs).toArray xs xs.length := by
  intro i x hi hx
  obtain ⟨A, c, rfl, _⟩ := SliceR.form h
  obtain ⟨b, off, y, _, _, hy, hs, _⟩ := TermsR.at_ h hi
  rw [hx] at hy; injection hy with hy; subst hy
  have h2 := cellsT_at _ _ _ hx
  refine ⟨[.bool x.v, .string x.n], rfl, fun j u hu => ?_, rfl, hs⟩
  match j, hu with
  | 0, hu => simp at hu; subst hu; simpa using h2.1
  | 1, hu => simp at hu; subst hu; simpa using h2.2

theorem term_size : (Tryz.prog.info? 125).map (·.size) = some 2 := by kernel_rfl

set_option maxRecDepth 100000 in
set_option maxHeartbeats 2000000 in
theorem copyAtom_own (a : GA) (v : Value) (w : World) {S : Nat → Prop} (hv : TermsR S w v a.args) (hn : a.args.length ≤ 1048576) :
    Calls Tryz.prog 105 #[.agg #[.string a.n, v]] w fun e w' => (∃ u, e = .returned (.agg #[.string a.n, u]) ∧ TermsO (From w.heap.size) w' u a.args) ∧ Ext w w' := by
  obtain ⟨A, c, rfl, hc1, hc2⟩ := SliceR.form hv
  obtain ⟨i0, hi0, hz0, hz1, hz2⟩ := info_parts term_info
  obtain ⟨cs0, hcs0, hmk⟩ := made 65 125 i0 _ Tryz.underlying65 hi0 hz0 a.args.length (by rw [hz2]; omega) (by omega)
  rw [hz1] at hcs0
  have HC := Lib.hid hcs0
  have HV := Lib.hid (hv.ext (((Ext.refl w).alloc (.cells #[.string a.n, .slice A a.args.length c] 67)).alloc (.cells #[.string ⟨#[]⟩, .slice none 0 0] 67)))
  have HB := Lib.hid (Blk.new w 67 #[.string a.n, .slice A a.args.length c])
  have HB2 := Lib.hid (Blk.new (w.alloc (.cells #[.string a.n, .slice A a.args.length c] 67)) 67 #[.string ⟨#[]⟩, .slice none 0 0])
  simp only [World.size_alloc] at HB2
  by_cases h0 : a.args.length = 0
  · have hnil : a.args = [] := List.eq_nil_of_length_eq_zero h0
    clear hcs0 hi0 hz0 hz1 hz2 hv hmk
    rw [h0] at HB HV HB2
    rw [h0] at hc1
    rw [h0]
    go_enter Tryz.func105, Tryz.ntmps105
    go_wp2
    refine bodyPost_ret (v := .agg #[.string a.n, .slice none 0 0]) (by simp [results, Tryz.results105, go_sem]) rfl ⟨⟨_, rfl, ?_⟩, ?_⟩
    · rw [hnil]; exact SliceO.nil 0 (Nat.zero_le _) none
    · exact ((Ext.refl _).alloc _).alloc _
  · obtain ⟨b, off, x0, rfl, _⟩ := TermsR.at_ hv (k := 0) (by omega)
    have hpos : 0 < a.args.length := by omega
    clear hcs0 hi0 hz0 hz1 hz2 hv
    obtain ⟨w1, hrun, hb1, hx1⟩ : ∃ w1, (Builtin.copy_ #[65, 65] 3 #[.slice (some ⟨w.heap.size + 1 + 1, 0, none⟩) a.args.length a.args.length, .slice (some ⟨b, off, none⟩) a.args.length c]).run Tryz.prog
        (((w.alloc (.cells #[.string a.n, .slice (some ⟨b, off, none⟩) a.args.length c] 67)).alloc (.cells #[.string ⟨#[]⟩, .slice none 0 0] 67)).alloc (.cells cs0 125)) = .ok (.int .i64 a.args.length) w1 ∧
        Blk w1 (w.heap.size + 1 + 1) 125 (cellsT a.args).toArray ∧ Below (w.heap.size + 1 + 1) (((w.alloc (.cells #[.string a.n, .slice (some ⟨b, off, none⟩) a.args.length c] 67)).alloc (.cells #[.string ⟨#[]⟩, .slice none 0 0] 67)).alloc (.cells cs0 125)) w1 :=
      ⟨_, run_copy_whole _ 65 65 3 125 2 (w.heap.size + 1 + 1) a.args.length a.args.length ⟨b, off, none⟩ c cs0 125 (cellsT a.args) Tryz.underlying65 term_size (Blk.at_new (by simp)) (cellsT_len _) (cellsT_src (HV.out.ext ((Ext.refl _).alloc _))) (by rw [HC.out, cellsT_len]) cellsT_one,
        setRow_heap _ _ _ _ _ _ (Blk.at_new (by simp)), below_setRow (Below.refl _ _) (Nat.le_refl _) _⟩
    have hB1 := ((HB.out.alloc _).alloc _).below hx1 (by omega)
    have hB2 := (HB2.out.alloc _).below hx1 (by omega)
    have q0 := hB1.cell 0
    have q1 := hB1.cell 1
    have p0 := hB2.cell 0
    have p1 := hB2.cell 1
    have f0 := hB2.frozen 0
    have f1 := hB2.frozen 1
    have hl2 := hb1.lt
    have HX1 := Lib.hid hx1
    have HB1 := Lib.hid hb1
    clear hB1 hB2 hx1 hb1
    go_enter Tryz.func105, Tryz.ntmps105
    go_wp2
    refine bodyPost_ret (v := .agg #[.string a.n, .slice (some ⟨w.heap.size + 1 + 1, 0, none⟩) a.args.length a.args.length]) (by simp [results, Tryz.results105, go_sem, p0, p1]) rfl ⟨⟨_, rfl, ?_⟩, ?_⟩
    · have h1 := Filled.terms (S := From (w.heap.size + 1 + 1)) (cellsT_filled (w := w1) HV.out) HB1.out rfl (Nat.le_refl _) (maxOf (by omega)) (Nat.le_refl _)
      refine TermsO.imp h1 ?_ ?_ ?_
      · exact fun b hb _ => fromLe (by omega) b hb
      · exact ((Agree.refl _ _).set (by go_size) _).set (by go_size) _
      · go_size
    · exact Ext.setNew (a := w) (Ext.setNew ((((Ext.refl w).alloc _).alloc _).alloc _ |>.trans (HX1.out.mono (by omega))) (by simp) _) (by simp) _

set_option maxRecDepth 100000 in
set_option maxHeartbeats 4000000 in
theorem copyBody_own (v : Value) (xs : List GP) (w : World) {S : Nat → Prop} (hv : PartsR S w v xs) (hw : xs.length ≤ 1048576) (hp : ∀ x ∈ xs, x.atom.args.length ≤ 1048576) :
    Calls Tryz.prog 106 #[v] w fun e w' => (∃ u, e = .returned u ∧ PartsO (From w.heap.size) w' u xs) ∧ Ext w w' := by
  obtain ⟨A, c, rfl, hc1, hc2⟩ := SliceR.form hv
  obtain ⟨i0, hi0, hz0, hz1, hz2⟩ := info_parts part_info
  obtain ⟨cs0, hcs0, hmk⟩ := made 93 144 i0 _ Tryz.underlying93 hi0 hz0 xs.length (by rw [hz2]; omega) (by omega)
  rw [hz1] at hcs0
  have HC := Lib.hid hcs0
  have HV := Lib.hid hv
  have HN := Lib.hid hw
  have HP := Lib.hid hp
  by_cases h0 : xs.length = 0
  · have hnil : xs = [] := List.eq_nil_of_length_eq_zero h0
    have h1 : ((xs.length : Int) == 0) = true := by rw [h0]; rfl
    clear hcs0 hi0 hz0 hz1 hz2 hv hmk hw hp
    go_enter Tryz.func106, Tryz.ntmps106
    go_wp2
    go_ret
    exact ⟨⟨_, rfl, by rw [hnil]; exact SliceO.nil 0 (Nat.zero_le _) none⟩, Ext.refl _⟩
  · have h1 : ((xs.length : Int) == 0) = false := by rw [beq_eq_false_iff_ne]; omega
    clear hcs0 hi0 hz0 hz1 hz2 hv hw hp
    go_enter Tryz.func106, Tryz.ntmps106
    go_wp2
    go_loopw [14] (fun i wr => ∃ (k : Nat) (cs : Array Value), k ≤ xs.length ∧ i = .int .i64 k ∧ cs.size = xs.length * 3 ∧ Blk wr w.heap.size 144 cs ∧ FilledO kPartO w.heap.size (From (w.heap.size + 1)) wr cs xs k ∧ Ext w wr) (fun i _ => xs.length - (intOf i).toNat)
    case atStart => exact ⟨0, cs0, Nat.zero_le _, rfl, HC.out, Blk.new _ _ _, FilledO.zero, (Ext.refl _).alloc _⟩
    case round =>
      obtain ⟨k, cs, hk, rfl, hcs, hb, hf, hx⟩ := hrel
      by_cases hlt : k < xs.length
      · obtain ⟨b, off, x, v1, rfl, hb0, hxk, hxs, ht, hc0, hc1, hc2⟩ := PartsR.at_ (HV.out.ext hx) hlt
        obtain ⟨A1, c1, rfl, hq1, hq2⟩ := SliceR.form ht
        have HW := Lib.hid (HP.out x (List.mem_of_getElem? hxk))
        have HK := Lib.hid hxk
        have HS := Lib.hid hcs
        have HF := Lib.hid hf
        have HB := Lib.hid hb
        have HB5 := Lib.hid (Blk.new wr 144 #[.bool x.no, .string x.atom.n, .slice A1 x.atom.args.length c1])
        have HT := Lib.hid (ht.ext ((Ext.refl wr).alloc (.cells #[.bool x.no, .string x.atom.n, .slice A1 x.atom.args.length c1] 144)))
        have hg := hb.lt
        have hk0 : (0 : Int) ≤ (k : Int) := by omega
        have hk1 : (k : Int) < (xs.length : Int) := by omega
        clear hxk hcs hf hb hmk ht
        go_wp2_with fail
        go_region_with (go_at_call 105; refine (copyAtom_own x.atom _ _ HT.out.drew_ HW.out).mono ?_; rintro e w1 ⟨⟨u, rfl, hu⟩, hx1⟩; obtain ⟨B, d, rfl, hd1, hd2⟩ := SliceO.form hu; have HU := Lib.hid hu; have HX := Lib.hid ((((Ext.refl wr).alloc (.cells #[.bool x.no, .string x.atom.n, .slice A1 x.atom.args.length c1] 144)).drew).trans' hx1); have hb5 := (HB5.out.drew).ext hx1; have r0 := hb5.cell 0; have hl5 := hb5.lt; obtain ⟨⟨u0, hr0⟩, hf0⟩ := (HB.out.ext HX.out).ready (i := k * 3) (by have := HS.out; omega); obtain ⟨⟨u1', hr1⟩, hf1⟩ := (HB.out.ext HX.out).ready (i := k * 3 + 1) (by have := HS.out; omega); obtain ⟨⟨u2, hr2⟩, hf2⟩ := (HB.out.ext HX.out).ready (i := k * 3 + 2) (by have := HS.out; omega); clear hu hb5)
        all_goals go_wp2
        all_goals go_roundw
        all_goals first
          | (simp [intOf]; omega; done)
          | (have hb1 := HB.out.ext HX.out
             have ha : Agree (From (w.heap.size + 1)) w1 (((w1.setCell ⟨w.heap.size, k * 3, none⟩ (.bool x.no)).setCell ⟨w.heap.size, k * 3 + 1, none⟩ (.string x.atom.n)).setCell ⟨w.heap.size, k * 3 + 2, none⟩ (.slice B x.atom.args.length d)) := (((Agree.refl _ _).set (by simp) _).set (by simp) _).set (by simp) _
             have hsz : w1.heap.size ≤ (((w1.setCell ⟨w.heap.size, k * 3, none⟩ (.bool x.no)).setCell ⟨w.heap.size, k * 3 + 1, none⟩ (.string x.atom.n)).setCell ⟨w.heap.size, k * 3 + 2, none⟩ (.slice B x.atom.args.length d)).heap.size := by go_size
             refine ⟨k + 1, _, by omega, by go_num, ?_, (((hb1.set_ _ _).set_ _ _).set_ _ _), HF.out.step (fun m hm hlt => (heap_set hm).trans ((heap_set hm).trans ((heap_set hm).trans (HX.out.block m hlt)))) (Nat.le_trans HX.out.size hsz) hg (fun m hm => by show w.heap.size + 1 ≤ m; omega) HK.out (l := [.bool x.no, .string x.atom.n, .slice B x.atom.args.length d]) ⟨_, rfl, hxs, TermsO.imp HU.out (fun b hb _ => by have : (wr.alloc (.cells #[.bool x.no, .string x.atom.n, .slice A1 x.atom.args.length c1] 144)).heap.size ≤ b := hb; rw [World.size_alloc] at this; show wr.heap.size ≤ b; omega) (fun b hb hlt => ha b (by have : (wr.alloc (.cells #[.bool x.no, .string x.atom.n, .slice A1 x.atom.args.length c1] 144)).heap.size ≤ b := hb; rw [World.size_alloc] at this; show w.heap.size + 1 ≤ b; omega) hlt) hsz⟩ (set3_at (by have := HS.out; omega)) (fun o ho => set3_low o ho), (Below.setCell (Below.setCell (Below.setCell (hx.trans' HX.out) (Nat.le_refl _) _) (Nat.le_refl _) _) (Nat.le_refl _) _)⟩
             simp [HS.out])
      · have hkk : k = xs.length := by omega
        go_wp2
        go_ret
        refine ⟨⟨_, rfl, ?_⟩, hx⟩
        exact FilledO.slice (c := xs.length) (hkk ▸ hf) hb rfl (Nat.le_refl _) (by unfold maxLen; have := HN.out; omega) (Nat.le_refl _) (fromLe (by omega))

set_option maxRecDepth 100000 in
set_option maxHeartbeats 4000000 in
theorem copyRules_own (v : Value) (xs : List GR) (w : World) {S : Nat → Prop} (hv : RulesR S w v xs) (hw : xs.length ≤ 1048576) (hp : ∀ x ∈ xs, x.head.args.length ≤ 1048576 ∧ x.body.length ≤ 1048576 ∧ ∀ p ∈ x.body, p.atom.args.length ≤ 1048576) :
    Calls Tryz.prog 55 #[v] w fun e w' => (∃ u, e = .returned u ∧ RulesO (From w.heap.size) w' u xs) ∧ Ext w w' := by
  obtain ⟨A, c, rfl, hc1, hc2⟩ := SliceR.form hv
  obtain ⟨i0, hi0, hz0, hz1, hz2⟩ := info_parts rule_info
  obtain ⟨cs0, hcs0, hmk⟩ := made 36 95 i0 _ Tryz.underlying36 hi0 hz0 xs.length (by rw [hz2]; omega) (by omega)
  rw [hz1] at hcs0
  have HC := Lib.hid hcs0
  have HV := Lib.hid hv
  have HN := Lib.hid hw
  have HP := Lib.hid hp
  by_cases h0 : xs.length = 0
  · have hnil : xs = [] := List.eq_nil_of_length_eq_zero h0
    have h1 : ((xs.length : Int) == 0) = true := by rw [h0]; rfl
    clear hcs0 hi0 hz0 hz1 hz2 hv hmk hw hp
    go_enter Tryz.func55, Tryz.ntmps55
    go_wp2
    go_ret
    exact ⟨⟨_, rfl, by rw [hnil]; exact SliceO.nil 0 (Nat.zero_le _) none⟩, Ext.refl _⟩
  · have h1 : ((xs.length : Int) == 0) = false := by rw [beq_eq_false_iff_ne]; omega
    clear hcs0 hi0 hz0 hz1 hz2 hv hw hp
    go_enter Tryz.func55, Tryz.ntmps55
    go_wp2
    go_loopw [14] (fun i wr => ∃ (k : Nat) (cs : Array Value), k ≤ xs.length ∧ i = .int .i64 k ∧ cs.size = xs.length * 3 ∧ Blk wr w.heap.size 95 cs ∧ FilledO kRuleO w.heap.size (From (w.heap.size + 1)) wr cs xs k ∧ Ext w wr) (fun i _ => xs.length - (intOf i).toNat)
    case atStart => exact ⟨0, cs0, Nat.zero_le _, rfl, HC.out, Blk.new _ _ _, FilledO.zero, (Ext.refl _).alloc _⟩
    case round =>
      obtain ⟨k, cs, hk, rfl, hcs, hb, hf, hx⟩ := hrel
      by_cases hlt : k < xs.length
      · obtain ⟨b, off, x, v1, y1, rfl, hb0, hxk, hxs, ht, hp, hc0, hc1, hc2⟩ := RulesR.at_ (HV.out.ext hx) hlt
        obtain ⟨A1, c1, rfl, hq1, hq2⟩ := SliceR.form ht
        obtain ⟨B1, d1, rfl, hq3, hq4⟩ := SliceR.form hp
        have HW := Lib.hid (HP.out x (List.mem_of_getElem? hxk))
        have HK := Lib.hid hxk
        have HS := Lib.hid hcs
        have HF := Lib.hid hf
        have HB := Lib.hid hb
        have HB5 := Lib.hid (Blk.new wr 95 #[.string x.head.n, .slice A1 x.head.args.length c1, .slice B1 x.body.length d1])
        have HT := Lib.hid (ht.ext ((Ext.refl wr).alloc (.cells #[.string x.head.n, .slice A1 x.head.args.length c1, .slice B1 x.body.length d1] 95)))
        have HQ := Lib.hid (hp.ext ((Ext.refl wr).alloc (.cells #[.string x.head.n, .slice A1 x.head.args.length c1, .slice B1 x.body.length d1] 95)))
        have hg := hb.lt
        have hk0 : (0 : Int) ≤ (k : Int) := by omega
        have hk1 : (k : Int) < (xs.length : Int) := by omega
        clear hxk hcs hf hb hmk ht hp
        go_wp2_with fail
        go_region_with (first
          | (go_at_call 105; refine (copyAtom_own x.head _ _ HT.out.drew_ HW.out.1).mono ?_; rintro e w1 ⟨⟨u, rfl, hu⟩, hx1⟩; obtain ⟨B, d, rfl, hd1, hd2⟩ := SliceO.form hu; have HU := Lib.hid (TermsO.imp (S' := From wr.heap.size) hu (fun b hb _ => fromLe (by rw [show (wr.alloc (.cells #[.string x.head.n, .slice A1 x.head.args.length c1, .slice B1 x.body.length d1] 95)).drew.heap.size = wr.heap.size + 1 from World.size_alloc _ _]; omega) b hb) (.refl _ _) (Nat.le_refl _)); have HX := Lib.hid ((((Ext.refl wr).alloc (.cells #[.string x.head.n, .slice A1 x.head.args.length c1, .slice B1 x.body.length d1] 95)).drew).trans' hx1); have HX1 := Lib.hid hx1; have hb5 := (HB5.out.drew).ext hx1; have r2 := hb5.cell 2; have hl5 := hb5.lt; clear hu hb5 hx1)
          | (go_at_call 106; refine (copyBody_own _ x.body _ (HQ.out.drew_.ext HX1.out) HW.out.2.1 HW.out.2.2).mono ?_; rintro e w2 ⟨⟨u2, rfl, hu2⟩, hx2⟩; obtain ⟨B2, d2, rfl, hd3, hd4⟩ := SliceO.form hu2; have HU2 := Lib.hid hu2; have HX2 := Lib.hid hx2; obtain ⟨⟨u0, hr0⟩, hf0⟩ := (HB.out.ext (HX.out.trans' hx2)).ready (i := k * 3) (by have := HS.out; omega); obtain ⟨⟨u1', hr1⟩, hf1⟩ := (HB.out.ext (HX.out.trans' hx2)).ready (i := k * 3 + 1) (by have := HS.out; omega); obtain ⟨⟨u2', hr2⟩, hf2⟩ := (HB.out.ext (HX.out.trans' hx2)).ready (i := k * 3 + 2) (by have := HS.out; omega); clear hu2 hx2))
        all_goals go_wp2
        all_goals go_roundw
        all_goals first
          | (simp [intOf]; omega; done)
          | (have hb1 := HB.out.ext (HX.out.trans' HX2.out)
             have ha : Agree (From (w.heap.size + 1)) w2 (((w2.setCell ⟨w.heap.size, k * 3, none⟩ (.string x.head.n)).setCell ⟨w.heap.size, k * 3 + 1, none⟩ (.slice B x.head.args.length d)).setCell ⟨w.heap.size, k * 3 + 2, none⟩ (.slice B2 x.body.length d2)) := (((Agree.refl _ _).set (by simp) _).set (by simp) _).set (by simp) _
             have hsz : w2.heap.size ≤ (((w2.setCell ⟨w.heap.size, k * 3, none⟩ (.string x.head.n)).setCell ⟨w.heap.size, k * 3 + 1, none⟩ (.slice B x.head.args.length d)).setCell ⟨w.heap.size, k * 3 + 2, none⟩ (.slice B2 x.body.length d2)).heap.size := by go_size
             refine ⟨k + 1, _, by omega, by go_num, ?_, (((hb1.set_ _ _).set_ _ _).set_ _ _), HF.out.step (fun m hm hlt => (heap_set hm).trans ((heap_set hm).trans ((heap_set hm).trans ((HX.out.trans' HX2.out).block m hlt)))) (Nat.le_trans (HX.out.trans' HX2.out).size hsz) hg (fun m hm => by show w.heap.size + 1 ≤ m; omega) HK.out (l := [.string x.head.n, .slice B x.head.args.length d, .slice B2 x.body.length d2])
               (RuleEO.made (a := wr.heap.size) hxs HU.out (.refl _ _) (Nat.le_refl _) HX2.out HU2.out (fun b hb hlt => ha b (Nat.le_trans hg hb) hlt) hsz HX.out.size (Nat.le_refl _)) (set3_at (by have := HS.out; omega)) (fun o ho => set3_low o ho), (Below.setCell (Below.setCell (Below.setCell (hx.trans' (HX.out.trans' HX2.out)) (Nat.le_refl _) _) (Nat.le_refl _) _) (Nat.le_refl _) _)⟩
             simp [HS.out])
      · have hkk : k = xs.length := by omega
        go_wp2
        go_ret
        refine ⟨⟨_, rfl, ?_⟩, hx⟩
        exact FilledO.slice (c := xs.length) (hkk ▸ hf) hb rfl (Nat.le_refl _) (by unfold maxLen; have := HN.out; omega) (Nat.le_refl _) (fromLe (by omega))

section
open Go.RowKit

set_option maxRecDepth 100000 in
set_option maxHeartbeats 8000000 in
theorem l7Rules_any (v : Value) (l : List GR) (w : World) {S : Nat → Prop} (hv : RulesR S w v l) (hn : l.length ≤ 4194304) (hp : ∀ r ∈ l, r.head.args.length ≤ 4194304 ∧ r.body.length ≤ 4194304 ∧ ∀ p ∈ r.body, p.atom.args.length ≤ 4194304) :
    Calls Tryz.prog 52 #[v] w fun e w' => (∃ u, e = .returned u ∧ RulesR (From w.heap.size) w' u l) ∧ Ext w w' := by
  obtain ⟨A, c, rfl, hc1, hc2⟩ := SliceR.form hv
  obtain ⟨i0, hi0, hzz0, hzz1, hzz2⟩ := info_parts part_info
  obtain ⟨j0, hj0, hy0, hy1, hy2⟩ := info_parts rule_info
  have HV := Lib.hid hv
  have HP := Lib.hid hp
  clear hv hp
  go_enter Tryz.func52, Tryz.ntmps52
  go_wp2
  go_loopw [3, 4] (fun v i wr => ∃ k : Nat, k ≤ l.length ∧ i = .int .i64 k ∧ Hid (OwnK kRule w.heap.size 95 (From w.heap.size) wr v (l.take k)) ∧ Ext w wr) (fun _ i _ => l.length - (intOf i).toNat)
  case atStart => exact ⟨0, Nat.zero_le _, rfl, OwnK.empty rfl (Nat.le_refl _), (Ext.refl _).alloc _⟩
  case round =>
    obtain ⟨k, hk, rfl, ho, hx⟩ := hrel
    obtain ⟨A0, n0, c0, rfl, hn0, ha0, hb0⟩ := ho.out.form2
    have hsz := hx.size
    have hk0 : (0 : Int) ≤ (k : Int) := by omega
    by_cases hlt : k < l.length
    · obtain ⟨b, off, x, v1, u1, rfl, hb, hxk, hxs, ht, hu, p0, p1, p2⟩ := RulesR.at_ (HV.out.ext hx) hlt
      obtain ⟨A1, c1, rfl, ha1, hb1⟩ := SliceR.form ht
      obtain ⟨B1, d1, rfl, hd1, hd2⟩ := SliceR.form hu
      have HX := Lib.hid (HP.out x (List.mem_of_getElem? hxk))
      have HK := Lib.hid (show l.take (k + 1) = l.take k ++ [x] from by
        obtain ⟨hi, rfl⟩ := List.getElem?_eq_some_iff.1 hxk
        exact List.take_succ_eq_append_getElem hi)
      have HT := Lib.hid ht
      have HU := Lib.hid hu
      have hk1 : (k : Int) < (l.length : Int) := by omega
      have hbn : b < w.heap.size := by
        obtain ⟨b', _, _, _, _, hA, hb', _⟩ := RulesR.at_ HV.out hlt
        injection hA with hA; injection hA with hA _
        rw [hA]; exact hb'
      clear hxk ht hu
      go_wp2_with (go_at_call 101; refine (l3Atom_any x.head _ _ HT.out HX.out.1).mono ?_; rintro e w1 ⟨⟨v2, rfl, ht2⟩, hx1⟩; obtain ⟨A2, c2, rfl, ha2, hb2⟩ := SliceR.form ht2; have HT2 := Lib.hid ht2; have HX1 := Lib.hid hx1; have p2' := (hx1.cells.1 b (off + k * 3 + 2) hb).trans p2; have hz1 := hx1.size; clear ht2 hx1)
      obtain ⟨N0, hN0⟩ : ∃ N0, N0 = wr.heap.size := ⟨_, rfl⟩
      have HT2N := Lib.hid (show TermsR (From N0) w1 (.slice A2 x.head.args.length c2) x.head.args from by rw [hN0]; exact HT2.out)
      have hN1 : w.heap.size ≤ N0 := by omega
      have hN2 : N0 ≤ w1.heap.size := by omega
      have HN3 := Lib.hid (show ∀ g, (Value.slice A0 n0 c0).ownBlock = some g → g < N0 from fun g hg => by rw [hN0]; exact (ho.out.at_ g hg).2)
      clear hN0
      have HB5 := Lib.hid (Blk.new w1 95 #[.string x.head.n, .slice A2 x.head.args.length c2, .slice none 0 0])
      go_loopw [6] (fun j wq => ∃ (q : Nat) (y : Value), q ≤ x.body.length ∧ j = .int .i64 q ∧ Hid (Blk wq w1.heap.size 95 #[.string x.head.n, .slice A2 x.head.args.length c2, y]) ∧ Hid (OwnK kPart (w1.heap.size + 1) 144 (From (w1.heap.size + 1)) wq y (x.body.take q)) ∧ Ext w1 wq ∧ w1.heap.size + 1 ≤ wq.heap.size) (fun j _ => x.body.length - (intOf j).toNat)
      case atStart => exact ⟨0, _, Nat.zero_le _, rfl, HB5, OwnK.nil, (Ext.refl _).alloc _, by simp⟩
      case round =>
        obtain ⟨q, y, hq, rfl, hbq, hoq, hxq, hzq⟩ := hrel
        obtain ⟨A3, n3, c3, rfl, hn3, ha3, hb3⟩ := hoq.out.form2
        have hq0 : (0 : Int) ≤ (q : Int) := by omega
        have r2 := hbq.out.cell 2
        have f2 := hbq.out.frozen 2
        have s2 := (hxq.cells.1 b (off + k * 3 + 2) (by omega)).trans p2'
        have s0 := hbq.out.cell 0
        have s1 := hbq.out.cell 1
        by_cases hlq : q < x.body.length
        · obtain ⟨bb, ob, z, v3, rfl, hbb, hzq', hzs, htz, t0, t1, t2⟩ := PartsR.at_ (HU.out.ext (HX1.out.trans' hxq)) hlq
          obtain ⟨A4, c4, rfl, ha4, hb4⟩ := SliceR.form htz
          have hq1 : (q : Int) < (x.body.length : Int) := by omega
          have HZ := Lib.hid (show z.atom.args.length ≤ 4194304 from HX.out.2.2 z (List.mem_of_getElem? hzq'))
          have HKQ := Lib.hid (show x.body.take (q + 1) = x.body.take q ++ [z] from by
            obtain ⟨hi, rfl⟩ := List.getElem?_eq_some_iff.1 hzq'
            exact List.take_succ_eq_append_getElem hi)
          have HTZ := Lib.hid htz
          have hlen3 : (x.body.take q).length ≤ 4194304 := by rw [List.length_take]; have := HX.out.2.1; omega
          clear hzq' htz
          go_wp2_with (fail)
          have hsB : b < wr.heap.size := by omega
          have hne1 : w1.heap.size ≠ b := by omega
          have hbbn : bb < w1.heap.size := by
            obtain ⟨b', _, _, _, hA, hb', _⟩ := PartsR.at_ HU.out hlq
            injection hA with hA; injection hA with hA _
            rw [hA]; omega
          have hne2 : w1.heap.size ≠ bb := by omega
          have g0 : wr.drew.cell? ⟨b, off + k * 3 + 2, none⟩ = some (.slice (some ⟨bb, ob, none⟩) x.body.length d1) := s2
          refine wp_region_noPanic ?_
          refine wp_region_held_drew (S := (fun w' => w'.cell? ⟨b, off + k * 3 + 2, none⟩ = some (.slice (some ⟨bb, ob, none⟩) x.body.length d1) ∧ w'.cell? ⟨bb, ob + q * 3, none⟩ = some (.bool z.no) ∧ w'.cell? ⟨bb, ob + q * 3 + 1, none⟩ = some (.string z.atom.n) ∧ w'.cell? ⟨bb, ob + q * 3 + 2, none⟩ = some (.slice A4 z.atom.args.length c4))) (by kernel_rfl) ?_ (fun hHeld => ?_)
          · (try dsimp only); (first | exact ⟨s2, t0, t1, t2⟩ | exact HS4.out | exact HSA.out | exact HS5.out | exact HS6.out)
          refine wpAnyH_take (i := 0) (oi := _) (v := ?_) rfl (by kernel_rfl) (by kernel_rfl) (by kernel_rfl) (fun _ _ _ h => h) (Or.inl ⟨by rfl, ?_⟩) (by assumption) ?_
          rotate_left
          · (intro w hSw; (try dsimp only at hSw); go_simp) <;> with_reducible rfl
          try simp only [Act.put, List.setIfInBounds_toArray, List.set_cons_zero, List.set_cons_succ]
          refine wpAnyH_take (i := 2) (oi := _) (v := ?_) rfl (by kernel_rfl) (by kernel_rfl) (by kernel_rfl) (fun _ _ _ h => h) (Or.inl ⟨by rfl, ?_⟩) (by assumption) ?_
          rotate_left
          · (intro w hSw; (try dsimp only at hSw); go_simp) <;> with_reducible rfl
          try simp only [Act.put, List.setIfInBounds_toArray, List.set_cons_zero, List.set_cons_succ]
          refine wpAnyH_take (i := 3) (oi := _) (v := ?_) rfl (by kernel_rfl) (by kernel_rfl) (by kernel_rfl) (fun _ _ _ h => h) (Or.inl ⟨by rfl, ?_⟩) (by assumption) ?_
          rotate_left
          · (intro w hSw; (try dsimp only at hSw); go_simp) <;> with_reducible rfl
          try simp only [Act.put, List.setIfInBounds_toArray, List.set_cons_zero, List.set_cons_succ]
          refine wpAnyH_take (i := 4) (oi := _) (v := ?_) rfl (by kernel_rfl) (by kernel_rfl) (by kernel_rfl) (fun _ _ _ h => h) (Or.inl ⟨by rfl, ?_⟩) (by assumption) ?_
          rotate_left
          · (intro w hSw; (try dsimp only at hSw); go_simp) <;> with_reducible rfl
          try simp only [Act.put, List.setIfInBounds_toArray, List.set_cons_zero, List.set_cons_succ]
          refine wpAnyH_take (i := 5) (oi := _) (v := ?_) rfl (by kernel_rfl) (by kernel_rfl) (by kernel_rfl) (fun _ _ _ h => h) (Or.inl ⟨by rfl, ?_⟩) (by assumption) ?_
          rotate_left
          · (intro w hSw; (try dsimp only at hSw); go_simp) <;> with_reducible rfl
          try simp only [Act.put, List.setIfInBounds_toArray, List.set_cons_zero, List.set_cons_succ]
          refine wpAnyH_take (i := 6) (oi := _) (v := ?_) rfl (by kernel_rfl) (by kernel_rfl) (by kernel_rfl) (fun _ _ _ h => h) (Or.inl ⟨by rfl, ?_⟩) (by assumption) ?_
          rotate_left
          · (intro w hSw; (try dsimp only at hSw); go_simp) <;> with_reducible rfl
          try simp only [Act.put, List.setIfInBounds_toArray, List.set_cons_zero, List.set_cons_succ]
          refine wpAnyH_take (i := 7) (oi := _) (v := ?_) rfl (by kernel_rfl) (by kernel_rfl) (by kernel_rfl) (fun _ _ _ h => h) (Or.inl ⟨by rfl, ?_⟩) (by assumption) ?_
          rotate_left
          · (intro w hSw; (try dsimp only at hSw); go_simp) <;> with_reducible rfl
          try simp only [Act.put, List.setIfInBounds_toArray, List.set_cons_zero, List.set_cons_succ]
          refine wpAnyH_take (i := 8) (oi := _) (v := ?_) rfl (by kernel_rfl) (by kernel_rfl) (by kernel_rfl) (fun _ _ _ h => h) (Or.inl ⟨by rfl, ?_⟩) (by assumption) ?_
          rotate_left
          · (intro w hSw; (try dsimp only at hSw); go_simp) <;> with_reducible rfl
          try simp only [Act.put, List.setIfInBounds_toArray, List.set_cons_zero, List.set_cons_succ]
          refine wpAnyH_take (i := 9) (oi := _) (v := ?_) rfl (by kernel_rfl) (by kernel_rfl) (by kernel_rfl) (fun _ _ _ h => h) (Or.inl ⟨by rfl, ?_⟩) (by assumption) ?_
          rotate_left
          · (intro w hSw; (try dsimp only at hSw); go_simp) <;> with_reducible rfl
          try simp only [Act.put, List.setIfInBounds_toArray, List.set_cons_zero, List.set_cons_succ]
          refine wpAnyH_take (i := 10) (oi := _) (v := ?_) rfl (by kernel_rfl) (by kernel_rfl) (by kernel_rfl) (fun _ _ _ h => h) (Or.inl ⟨by rfl, ?_⟩) (by assumption) ?_
          rotate_left
          · (intro w hSw; (try dsimp only at hSw); go_simp) <;> with_reducible rfl
          try simp only [Act.put, List.setIfInBounds_toArray, List.set_cons_zero, List.set_cons_succ]
          refine wpAnyH_take (i := 11) (oi := _) (v := ?_) rfl (by kernel_rfl) (by kernel_rfl) (by kernel_rfl) (fun _ _ _ h => h) (Or.inl ⟨by rfl, ?_⟩) (by assumption) ?_
          rotate_left
          · (intro w hSw; (try dsimp only at hSw); go_simp) <;> with_reducible rfl
          try simp only [Act.put, List.setIfInBounds_toArray, List.set_cons_zero, List.set_cons_succ]
          refine wpAnyH_take (i := 12) (oi := _) (v := ?_) rfl (by kernel_rfl) (by kernel_rfl) (by kernel_rfl) (fun _ _ _ h => h) (Or.inl ⟨by rfl, ?_⟩) (by assumption) ?_
          rotate_left
          · (intro w hSw; (try dsimp only at hSw); go_simp) <;> with_reducible rfl
          try simp only [Act.put, List.setIfInBounds_toArray, List.set_cons_zero, List.set_cons_succ]
          refine wpAnyH_take (i := 13) (oi := _) (v := ?_) rfl (by kernel_rfl) (by kernel_rfl) (by kernel_rfl) (fun _ _ _ h => h) (Or.inl ⟨by rfl, ?_⟩) (by assumption) ?_
          rotate_left
          · (intro w hSw; (try dsimp only at hSw); go_simp) <;> with_reducible rfl
          try simp only [Act.put, List.setIfInBounds_toArray, List.set_cons_zero, List.set_cons_succ]
          refine wpAnyH_take (i := 14) (oi := _) (v := ?_) rfl (by kernel_rfl) (by kernel_rfl) (by kernel_rfl) (fun _ _ _ h => h) (Or.inl ⟨by rfl, ?_⟩) (by assumption) ?_
          rotate_left
          · (intro w hSw; (try dsimp only at hSw); go_simp) <;> with_reducible rfl
          try simp only [Act.put, List.setIfInBounds_toArray, List.set_cons_zero, List.set_cons_succ]
          refine wpAnyH_take (i := 15) (oi := _) (v := ?_) rfl (by kernel_rfl) (by kernel_rfl) (by kernel_rfl) (fun _ _ _ h => h) (Or.inl ⟨by rfl, ?_⟩) (by assumption) ?_
          rotate_left
          · (intro w hSw; (try dsimp only at hSw); go_simp) <;> with_reducible rfl
          try simp only [Act.put, List.setIfInBounds_toArray, List.set_cons_zero, List.set_cons_succ]
          refine wpAnyH_take (i := 16) (oi := _) (v := ?_) rfl (by kernel_rfl) (by kernel_rfl) (by kernel_rfl) (fun _ _ _ h => h) (Or.inl ⟨by rfl, ?_⟩) (by assumption) ?_
          rotate_left
          · (intro w hSw; (try dsimp only at hSw); go_simp) <;> with_reducible rfl
          try simp only [Act.put, List.setIfInBounds_toArray, List.set_cons_zero, List.set_cons_succ]
          refine wpAnyH_take (i := 17) (oi := _) (v := ?_) rfl (by kernel_rfl) (by kernel_rfl) (by kernel_rfl) (fun _ _ _ h => h) (Or.inl ⟨by rfl, ?_⟩) (by assumption) ?_
          rotate_left
          · (intro w hSw; (try dsimp only at hSw); go_simp) <;> with_reducible rfl
          try simp only [Act.put, List.setIfInBounds_toArray, List.set_cons_zero, List.set_cons_succ]
          refine wpAnyH_take (i := 18) (oi := _) (v := ?_) rfl (by kernel_rfl) (by kernel_rfl) (by kernel_rfl) (fun _ _ _ h => h) (Or.inl ⟨by rfl, ?_⟩) (by assumption) ?_
          rotate_left
          · (intro w hSw; (try dsimp only at hSw); go_simp) <;> with_reducible rfl
          try simp only [Act.put, List.setIfInBounds_toArray, List.set_cons_zero, List.set_cons_succ]
          refine wpAnyH_take (i := 19) (oi := _) (v := ?_) rfl (by kernel_rfl) (by kernel_rfl) (by kernel_rfl) (fun _ _ _ h => h) (Or.inl ⟨by rfl, ?_⟩) (by assumption) ?_
          rotate_left
          · (intro w hSw; (try dsimp only at hSw); go_simp) <;> with_reducible rfl
          try simp only [Act.put, List.setIfInBounds_toArray, List.set_cons_zero, List.set_cons_succ]
          refine wpAnyH_ready (rs := [1, 20]) (by kernel_rfl) (by simp) ?_
          refine AllReadyH.cons (o := _) rfl (fun K hK => ?_) ?_
          · go_simp
            refine hK.out _ _ ?_ (fun hNew => ?_)
            · (try dsimp only); (first | exact ⟨s2, t0, t1, t2⟩ | exact HS4.out | exact HSA.out | exact HS5.out | exact HS6.out)
            clear hK K hHeld
            have hHeld := hNew
            clear hNew
            try simp only [Act.put, List.setIfInBounds_toArray, List.set_cons_zero, List.set_cons_succ]
            refine wpAnyH_ready (rs := [20]) (by kernel_rfl) (by simp) ?_
            refine AllReadyH.cons (o := _) rfl (fun K hK => ?_) ?_
            · go_simp
              go_at_call 101; refine (l3Atom_any z.atom _ _ HTZ.out.drew_ HZ.out).mono ?_; rintro e w4 ⟨⟨v4, rfl, ht4⟩, hx4⟩
              obtain ⟨A5, c5, rfl, ha5, hb5⟩ := SliceR.form ht4
              have HX4 := Lib.hid (show Ext wr w4 from (Ext.refl wr).drew.trans' hx4)
              have HT4 := Lib.hid (show TermsR (From wr.heap.size) w4 (.slice A5 z.atom.args.length c5) z.atom.args from ht4)
              have r2' := (hbq.out.ext HX4.out).cell 2
              have s2' := (HX4.out.cells.1 b (off + k * 3 + 2) hsB).trans s2
              have t0' := (HX4.out.cells.1 bb (ob + q * 3) hbb).trans t0
              have t1' := (HX4.out.cells.1 bb (ob + q * 3 + 1) hbb).trans t1
              have t2' := (HX4.out.cells.1 bb (ob + q * 3 + 2) hbb).trans t2
              have r2'' := ((hbq.out.ext HX4.out).alloc (.cells #[.bool z.no, .string z.atom.n, .slice A5 z.atom.args.length c5] 144)).cell 2
              have hz4 := HX4.out.size
              have HS4 := Lib.hid (And.intro s2' (And.intro t0' (And.intro t1' t2')))
              have hal := (Ext.refl w4).alloc (.cells #[.bool z.no, .string z.atom.n, .slice A5 z.atom.args.length c5] 144)
              have HSA := Lib.hid (And.intro ((hal.cells.1 b (off + k * 3 + 2) (by omega)).trans s2') (And.intro ((hal.cells.1 bb (ob + q * 3) (by omega)).trans t0') (And.intro ((hal.cells.1 bb (ob + q * 3 + 1) (by omega)).trans t1') ((hal.cells.1 bb (ob + q * 3 + 2) (by omega)).trans t2'))))
              clear ht4 hx4 hal
              refine hK.out _ _ ?_ (fun hNew => ?_)
              · (try dsimp only); (first | exact ⟨s2, t0, t1, t2⟩ | exact HS4.out | exact HSA.out | exact HS5.out | exact HS6.out)
              clear hK K hHeld
              have hHeld := hNew
              clear hNew
              try simp only [Act.put, List.setIfInBounds_toArray, List.set_cons_zero, List.set_cons_succ]
              refine wpAnyH_take (i := 21) (oi := _) (v := ?_) rfl (by kernel_rfl) (by kernel_rfl) (by kernel_rfl) (fun _ _ _ h => h) (Or.inl ⟨by rfl, ?_⟩) (by assumption) ?_
              rotate_left
              · (intro w hSw; (try dsimp only at hSw); go_simp) <;> with_reducible rfl
              try simp only [Act.put, List.setIfInBounds_toArray, List.set_cons_zero, List.set_cons_succ]
              refine wpAnyH_ready (rs := [22]) (by kernel_rfl) (by simp) ?_
              refine AllReadyH.cons (o := _) rfl (fun K hK => ?_) ?_
              · go_simp
                refine hK.out _ _ ?_ (fun hNew => ?_)
                · (try dsimp only); (first | exact ⟨s2, t0, t1, t2⟩ | exact HS4.out | exact HSA.out | exact HS5.out | exact HS6.out)
                clear hK K hHeld
                have hHeld := hNew
                clear hNew
                try simp only [Act.put, List.setIfInBounds_toArray, List.set_cons_zero, List.set_cons_succ]
                refine wpAnyH_ready (rs := [23]) (by kernel_rfl) (by simp) ?_
                refine AllReadyH.cons (o := _) rfl (fun K hK => ?_) ?_
                · refine step_appK (o := ⟨some 54, _, _, _, _, _⟩) (k := kPart) (S := From (w1.heap.size + 1)) (T := From wr.heap.size) (base := w1.heap.size + 1) (xs := x.body.take q) (ys := [z]) (by rfl) (.tmp 32) (.tmp 53) 93 (by rfl) i0 _ 48 Tryz.underlying93 hi0 hzz0 hzz1 hzz2 (by rfl) (by rfl)
                    (hoq.out.ext (HX4.out.alloc _)) _ 1 1 (by rfl) (ElemsK.one (k := kPart) (x := z) (Blk.at_new rfl) ⟨_, rfl, hzs, HT4.out.ext ((Ext.refl _).alloc _)⟩) (fun b hb _ => Nat.le_trans hzq hb) (fun g hg hT => absurd (hoq.out.at_ g hg).2 (Nat.not_lt.2 hT)) (maxOf (by omega)) (by omega) (by go_size) ?_
                  intro v5 w5 hap
                  obtain ⟨A6, n6, c6, rfl, hn6, ha6, hb6⟩ := hap.own.form2
                  have HAP := Lib.hid hap
                  have hb5' := ((hbq.out.ext HX4.out).alloc (.cells #[.bool z.no, .string z.atom.n, .slice A5 z.atom.args.length c5] 144)).below hap.below (by omega)
                  have p3 := hb5'.cell 2
                  have f3 := hb5'.frozen 2
                  have HB5' := Lib.hid hb5'
                  have HS5 := Lib.hid (And.intro ((hap.below.cell (p := ⟨b, off + k * 3 + 2, none⟩) (by show b < _; omega)).trans HSA.out.1) (And.intro ((hap.below.cell (p := ⟨bb, ob + q * 3, none⟩) (by show bb < _; omega)).trans HSA.out.2.1) (And.intro ((hap.below.cell (p := ⟨bb, ob + q * 3 + 1, none⟩) (by show bb < _; omega)).trans HSA.out.2.2.1) ((hap.below.cell (p := ⟨bb, ob + q * 3 + 2, none⟩) (by show bb < _; omega)).trans HSA.out.2.2.2))))
                  have HS6 := Lib.hid (And.intro ((World.cell?_setCell_far w5 ⟨w1.heap.size, 2, none⟩ ⟨b, off + k * 3 + 2, none⟩ (.slice A6 n6 c6) hne1).trans HS5.out.1) (And.intro ((World.cell?_setCell_far w5 ⟨w1.heap.size, 2, none⟩ ⟨bb, ob + q * 3, none⟩ (.slice A6 n6 c6) hne2).trans HS5.out.2.1) (And.intro ((World.cell?_setCell_far w5 ⟨w1.heap.size, 2, none⟩ ⟨bb, ob + q * 3 + 1, none⟩ (.slice A6 n6 c6) hne2).trans HS5.out.2.2.1) ((World.cell?_setCell_far w5 ⟨w1.heap.size, 2, none⟩ ⟨bb, ob + q * 3 + 2, none⟩ (.slice A6 n6 c6) hne2).trans HS5.out.2.2.2))))
                  clear hap hb5'
                  refine hK.out _ _ ?_ (fun hNew => ?_)
                  · (try dsimp only); (first | exact ⟨s2, t0, t1, t2⟩ | exact HS4.out | exact HSA.out | exact HS5.out | exact HS6.out)
                  clear hK K hHeld
                  have hHeld := hNew
                  clear hNew
                  try simp only [Act.put, List.setIfInBounds_toArray, List.set_cons_zero, List.set_cons_succ]
                  refine wpAnyH_take (i := 24) (oi := _) (v := ?_) rfl (by kernel_rfl) (by kernel_rfl) (by kernel_rfl) (fun _ _ _ h => h) (Or.inl ⟨by rfl, ?_⟩) (by assumption) ?_
                  rotate_left
                  · (intro w hSw; (try dsimp only at hSw); go_simp) <;> with_reducible rfl
                  try simp only [Act.put, List.setIfInBounds_toArray, List.set_cons_zero, List.set_cons_succ]
                  refine wpAnyH_ready (rs := [25]) (by kernel_rfl) (by simp) ?_
                  refine AllReadyH.cons (o := _) rfl (fun K hK => ?_) ?_
                  · go_simp
                    refine hK.out _ _ ?_ (fun hNew => ?_)
                    · (try dsimp only); (first | exact ⟨s2, t0, t1, t2⟩ | exact HS4.out | exact HSA.out | exact HS5.out | exact HS6.out)
                    clear hK K hHeld
                    have hHeld := hNew
                    clear hNew
                    try simp only [Act.put, List.setIfInBounds_toArray, List.set_cons_zero, List.set_cons_succ]
                    refine wpAnyH_done (by kernel_rfl) ?_ _
                    refine NoPanic.normal ?_
                    go_wp2
                    go_roundw
                    case rel =>
                      refine ⟨q + 1, _, by omega, by go_num, Lib.hid (by simpa using HB5'.out.set_ 2 (.slice A6 n6 c6)), Lib.hid (by rw [HKQ.out]; exact HAP.out.own.set (p := ⟨w1.heap.size, 2, none⟩) (Nat.lt_succ_self _) (Nat.not_succ_le_self _) _), Ext.setNew (a := w1) (HAP.out.toExt ((hxq.trans' HX4.out).alloc _) (Nat.le_succ _)) (Nat.le_refl _) _, by have := HAP.out.below.size; rw [World.size_alloc] at this; go_size⟩
                    case measure => simp [intOf]; omega
                  exact AllReadyH.nil
                exact AllReadyH.nil
              exact AllReadyH.nil
            exact AllReadyH.nil
          refine AllReadyH.cons (o := _) rfl (fun K hK => ?_) ?_
          · go_simp
            go_at_call 101; refine (l3Atom_any z.atom _ _ HTZ.out.drew_ HZ.out).mono ?_; rintro e w4 ⟨⟨v4, rfl, ht4⟩, hx4⟩
            obtain ⟨A5, c5, rfl, ha5, hb5⟩ := SliceR.form ht4
            have HX4 := Lib.hid (show Ext wr w4 from (Ext.refl wr).drew.trans' hx4)
            have HT4 := Lib.hid (show TermsR (From wr.heap.size) w4 (.slice A5 z.atom.args.length c5) z.atom.args from ht4)
            have r2' := (hbq.out.ext HX4.out).cell 2
            have s2' := (HX4.out.cells.1 b (off + k * 3 + 2) hsB).trans s2
            have t0' := (HX4.out.cells.1 bb (ob + q * 3) hbb).trans t0
            have t1' := (HX4.out.cells.1 bb (ob + q * 3 + 1) hbb).trans t1
            have t2' := (HX4.out.cells.1 bb (ob + q * 3 + 2) hbb).trans t2
            have r2'' := ((hbq.out.ext HX4.out).alloc (.cells #[.bool z.no, .string z.atom.n, .slice A5 z.atom.args.length c5] 144)).cell 2
            have hz4 := HX4.out.size
            have HS4 := Lib.hid (And.intro s2' (And.intro t0' (And.intro t1' t2')))
            have hal := (Ext.refl w4).alloc (.cells #[.bool z.no, .string z.atom.n, .slice A5 z.atom.args.length c5] 144)
            have HSA := Lib.hid (And.intro ((hal.cells.1 b (off + k * 3 + 2) (by omega)).trans s2') (And.intro ((hal.cells.1 bb (ob + q * 3) (by omega)).trans t0') (And.intro ((hal.cells.1 bb (ob + q * 3 + 1) (by omega)).trans t1') ((hal.cells.1 bb (ob + q * 3 + 2) (by omega)).trans t2'))))
            clear ht4 hx4 hal
            refine hK.out _ _ ?_ (fun hNew => ?_)
            · (try dsimp only); (first | exact ⟨s2, t0, t1, t2⟩ | exact HS4.out | exact HSA.out | exact HS5.out | exact HS6.out)
            clear hK K hHeld
            have hHeld := hNew
            clear hNew
            try simp only [Act.put, List.setIfInBounds_toArray, List.set_cons_zero, List.set_cons_succ]
            refine wpAnyH_take (i := 21) (oi := _) (v := ?_) rfl (by kernel_rfl) (by kernel_rfl) (by kernel_rfl) (fun _ _ _ h => h) (Or.inl ⟨by rfl, ?_⟩) (by assumption) ?_
            rotate_left
            · (intro w hSw; (try dsimp only at hSw); go_simp) <;> with_reducible rfl
            try simp only [Act.put, List.setIfInBounds_toArray, List.set_cons_zero, List.set_cons_succ]
            refine wpAnyH_ready (rs := [1, 22]) (by kernel_rfl) (by simp) ?_
            refine AllReadyH.cons (o := _) rfl (fun K hK => ?_) ?_
            · go_simp
              refine hK.out _ _ ?_ (fun hNew => ?_)
              · (try dsimp only); (first | exact ⟨s2, t0, t1, t2⟩ | exact HS4.out | exact HSA.out | exact HS5.out | exact HS6.out)
              clear hK K hHeld
              have hHeld := hNew
              clear hNew
              try simp only [Act.put, List.setIfInBounds_toArray, List.set_cons_zero, List.set_cons_succ]
              refine wpAnyH_ready (rs := [22]) (by kernel_rfl) (by simp) ?_
              refine AllReadyH.cons (o := _) rfl (fun K hK => ?_) ?_
              · go_simp
                refine hK.out _ _ ?_ (fun hNew => ?_)
                · (try dsimp only); (first | exact ⟨s2, t0, t1, t2⟩ | exact HS4.out | exact HSA.out | exact HS5.out | exact HS6.out)
                clear hK K hHeld
                have hHeld := hNew
                clear hNew
                try simp only [Act.put, List.setIfInBounds_toArray, List.set_cons_zero, List.set_cons_succ]
                refine wpAnyH_ready (rs := [23]) (by kernel_rfl) (by simp) ?_
                refine AllReadyH.cons (o := _) rfl (fun K hK => ?_) ?_
                · refine step_appK (o := ⟨some 54, _, _, _, _, _⟩) (k := kPart) (S := From (w1.heap.size + 1)) (T := From wr.heap.size) (base := w1.heap.size + 1) (xs := x.body.take q) (ys := [z]) (by rfl) (.tmp 32) (.tmp 53) 93 (by rfl) i0 _ 48 Tryz.underlying93 hi0 hzz0 hzz1 hzz2 (by rfl) (by rfl)
                    (hoq.out.ext (HX4.out.alloc _)) _ 1 1 (by rfl) (ElemsK.one (k := kPart) (x := z) (Blk.at_new rfl) ⟨_, rfl, hzs, HT4.out.ext ((Ext.refl _).alloc _)⟩) (fun b hb _ => Nat.le_trans hzq hb) (fun g hg hT => absurd (hoq.out.at_ g hg).2 (Nat.not_lt.2 hT)) (maxOf (by omega)) (by omega) (by go_size) ?_
                  intro v5 w5 hap
                  obtain ⟨A6, n6, c6, rfl, hn6, ha6, hb6⟩ := hap.own.form2
                  have HAP := Lib.hid hap
                  have hb5' := ((hbq.out.ext HX4.out).alloc (.cells #[.bool z.no, .string z.atom.n, .slice A5 z.atom.args.length c5] 144)).below hap.below (by omega)
                  have p3 := hb5'.cell 2
                  have f3 := hb5'.frozen 2
                  have HB5' := Lib.hid hb5'
                  have HS5 := Lib.hid (And.intro ((hap.below.cell (p := ⟨b, off + k * 3 + 2, none⟩) (by show b < _; omega)).trans HSA.out.1) (And.intro ((hap.below.cell (p := ⟨bb, ob + q * 3, none⟩) (by show bb < _; omega)).trans HSA.out.2.1) (And.intro ((hap.below.cell (p := ⟨bb, ob + q * 3 + 1, none⟩) (by show bb < _; omega)).trans HSA.out.2.2.1) ((hap.below.cell (p := ⟨bb, ob + q * 3 + 2, none⟩) (by show bb < _; omega)).trans HSA.out.2.2.2))))
                  have HS6 := Lib.hid (And.intro ((World.cell?_setCell_far w5 ⟨w1.heap.size, 2, none⟩ ⟨b, off + k * 3 + 2, none⟩ (.slice A6 n6 c6) hne1).trans HS5.out.1) (And.intro ((World.cell?_setCell_far w5 ⟨w1.heap.size, 2, none⟩ ⟨bb, ob + q * 3, none⟩ (.slice A6 n6 c6) hne2).trans HS5.out.2.1) (And.intro ((World.cell?_setCell_far w5 ⟨w1.heap.size, 2, none⟩ ⟨bb, ob + q * 3 + 1, none⟩ (.slice A6 n6 c6) hne2).trans HS5.out.2.2.1) ((World.cell?_setCell_far w5 ⟨w1.heap.size, 2, none⟩ ⟨bb, ob + q * 3 + 2, none⟩ (.slice A6 n6 c6) hne2).trans HS5.out.2.2.2))))
                  clear hap hb5'
                  refine hK.out _ _ ?_ (fun hNew => ?_)
                  · (try dsimp only); (first | exact ⟨s2, t0, t1, t2⟩ | exact HS4.out | exact HSA.out | exact HS5.out | exact HS6.out)
                  clear hK K hHeld
                  have hHeld := hNew
                  clear hNew
                  try simp only [Act.put, List.setIfInBounds_toArray, List.set_cons_zero, List.set_cons_succ]
                  refine wpAnyH_take (i := 24) (oi := _) (v := ?_) rfl (by kernel_rfl) (by kernel_rfl) (by kernel_rfl) (fun _ _ _ h => h) (Or.inl ⟨by rfl, ?_⟩) (by assumption) ?_
                  rotate_left
                  · (intro w hSw; (try dsimp only at hSw); go_simp) <;> with_reducible rfl
                  try simp only [Act.put, List.setIfInBounds_toArray, List.set_cons_zero, List.set_cons_succ]
                  refine wpAnyH_ready (rs := [25]) (by kernel_rfl) (by simp) ?_
                  refine AllReadyH.cons (o := _) rfl (fun K hK => ?_) ?_
                  · go_simp
                    refine hK.out _ _ ?_ (fun hNew => ?_)
                    · (try dsimp only); (first | exact ⟨s2, t0, t1, t2⟩ | exact HS4.out | exact HSA.out | exact HS5.out | exact HS6.out)
                    clear hK K hHeld
                    have hHeld := hNew
                    clear hNew
                    try simp only [Act.put, List.setIfInBounds_toArray, List.set_cons_zero, List.set_cons_succ]
                    refine wpAnyH_done (by kernel_rfl) ?_ _
                    refine NoPanic.normal ?_
                    go_wp2
                    go_roundw
                    case rel =>
                      refine ⟨q + 1, _, by omega, by go_num, Lib.hid (by simpa using HB5'.out.set_ 2 (.slice A6 n6 c6)), Lib.hid (by rw [HKQ.out]; exact HAP.out.own.set (p := ⟨w1.heap.size, 2, none⟩) (Nat.lt_succ_self _) (Nat.not_succ_le_self _) _), Ext.setNew (a := w1) (HAP.out.toExt ((hxq.trans' HX4.out).alloc _) (Nat.le_succ _)) (Nat.le_refl _) _, by have := HAP.out.below.size; rw [World.size_alloc] at this; go_size⟩
                    case measure => simp [intOf]; omega
                  exact AllReadyH.nil
                exact AllReadyH.nil
              exact AllReadyH.nil
            refine AllReadyH.cons (o := _) rfl (fun K hK => ?_) ?_
            · go_simp
              refine hK.out _ _ ?_ (fun hNew => ?_)
              · (try dsimp only); (first | exact ⟨s2, t0, t1, t2⟩ | exact HS4.out | exact HSA.out | exact HS5.out | exact HS6.out)
              clear hK K hHeld
              have hHeld := hNew
              clear hNew
              try simp only [Act.put, List.setIfInBounds_toArray, List.set_cons_zero, List.set_cons_succ]
              refine wpAnyH_ready (rs := [1]) (by kernel_rfl) (by simp) ?_
              refine AllReadyH.cons (o := _) rfl (fun K hK => ?_) ?_
              · go_simp
                refine hK.out _ _ ?_ (fun hNew => ?_)
                · (try dsimp only); (first | exact ⟨s2, t0, t1, t2⟩ | exact HS4.out | exact HSA.out | exact HS5.out | exact HS6.out)
                clear hK K hHeld
                have hHeld := hNew
                clear hNew
                try simp only [Act.put, List.setIfInBounds_toArray, List.set_cons_zero, List.set_cons_succ]
                refine wpAnyH_ready (rs := [23]) (by kernel_rfl) (by simp) ?_
                refine AllReadyH.cons (o := _) rfl (fun K hK => ?_) ?_
                · refine step_appK (o := ⟨some 54, _, _, _, _, _⟩) (k := kPart) (S := From (w1.heap.size + 1)) (T := From wr.heap.size) (base := w1.heap.size + 1) (xs := x.body.take q) (ys := [z]) (by rfl) (.tmp 32) (.tmp 53) 93 (by rfl) i0 _ 48 Tryz.underlying93 hi0 hzz0 hzz1 hzz2 (by rfl) (by rfl)
                    (hoq.out.ext (HX4.out.alloc _)) _ 1 1 (by rfl) (ElemsK.one (k := kPart) (x := z) (Blk.at_new rfl) ⟨_, rfl, hzs, HT4.out.ext ((Ext.refl _).alloc _)⟩) (fun b hb _ => Nat.le_trans hzq hb) (fun g hg hT => absurd (hoq.out.at_ g hg).2 (Nat.not_lt.2 hT)) (maxOf (by omega)) (by omega) (by go_size) ?_
                  intro v5 w5 hap
                  obtain ⟨A6, n6, c6, rfl, hn6, ha6, hb6⟩ := hap.own.form2
                  have HAP := Lib.hid hap
                  have hb5' := ((hbq.out.ext HX4.out).alloc (.cells #[.bool z.no, .string z.atom.n, .slice A5 z.atom.args.length c5] 144)).below hap.below (by omega)
                  have p3 := hb5'.cell 2
                  have f3 := hb5'.frozen 2
                  have HB5' := Lib.hid hb5'
                  have HS5 := Lib.hid (And.intro ((hap.below.cell (p := ⟨b, off + k * 3 + 2, none⟩) (by show b < _; omega)).trans HSA.out.1) (And.intro ((hap.below.cell (p := ⟨bb, ob + q * 3, none⟩) (by show bb < _; omega)).trans HSA.out.2.1) (And.intro ((hap.below.cell (p := ⟨bb, ob + q * 3 + 1, none⟩) (by show bb < _; omega)).trans HSA.out.2.2.1) ((hap.below.cell (p := ⟨bb, ob + q * 3 + 2, none⟩) (by show bb < _; omega)).trans HSA.out.2.2.2))))
                  have HS6 := Lib.hid (And.intro ((World.cell?_setCell_far w5 ⟨w1.heap.size, 2, none⟩ ⟨b, off + k * 3 + 2, none⟩ (.slice A6 n6 c6) hne1).trans HS5.out.1) (And.intro ((World.cell?_setCell_far w5 ⟨w1.heap.size, 2, none⟩ ⟨bb, ob + q * 3, none⟩ (.slice A6 n6 c6) hne2).trans HS5.out.2.1) (And.intro ((World.cell?_setCell_far w5 ⟨w1.heap.size, 2, none⟩ ⟨bb, ob + q * 3 + 1, none⟩ (.slice A6 n6 c6) hne2).trans HS5.out.2.2.1) ((World.cell?_setCell_far w5 ⟨w1.heap.size, 2, none⟩ ⟨bb, ob + q * 3 + 2, none⟩ (.slice A6 n6 c6) hne2).trans HS5.out.2.2.2))))
                  clear hap hb5'
                  refine hK.out _ _ ?_ (fun hNew => ?_)
                  · (try dsimp only); (first | exact ⟨s2, t0, t1, t2⟩ | exact HS4.out | exact HSA.out | exact HS5.out | exact HS6.out)
                  clear hK K hHeld
                  have hHeld := hNew
                  clear hNew
                  try simp only [Act.put, List.setIfInBounds_toArray, List.set_cons_zero, List.set_cons_succ]
                  refine wpAnyH_take (i := 24) (oi := _) (v := ?_) rfl (by kernel_rfl) (by kernel_rfl) (by kernel_rfl) (fun _ _ _ h => h) (Or.inl ⟨by rfl, ?_⟩) (by assumption) ?_
                  rotate_left
                  · (intro w hSw; (try dsimp only at hSw); go_simp) <;> with_reducible rfl
                  try simp only [Act.put, List.setIfInBounds_toArray, List.set_cons_zero, List.set_cons_succ]
                  refine wpAnyH_ready (rs := [25]) (by kernel_rfl) (by simp) ?_
                  refine AllReadyH.cons (o := _) rfl (fun K hK => ?_) ?_
                  · go_simp
                    refine hK.out _ _ ?_ (fun hNew => ?_)
                    · (try dsimp only); (first | exact ⟨s2, t0, t1, t2⟩ | exact HS4.out | exact HSA.out | exact HS5.out | exact HS6.out)
                    clear hK K hHeld
                    have hHeld := hNew
                    clear hNew
                    try simp only [Act.put, List.setIfInBounds_toArray, List.set_cons_zero, List.set_cons_succ]
                    refine wpAnyH_done (by kernel_rfl) ?_ _
                    refine NoPanic.normal ?_
                    go_wp2
                    go_roundw
                    case rel =>
                      refine ⟨q + 1, _, by omega, by go_num, Lib.hid (by simpa using HB5'.out.set_ 2 (.slice A6 n6 c6)), Lib.hid (by rw [HKQ.out]; exact HAP.out.own.set (p := ⟨w1.heap.size, 2, none⟩) (Nat.lt_succ_self _) (Nat.not_succ_le_self _) _), Ext.setNew (a := w1) (HAP.out.toExt ((hxq.trans' HX4.out).alloc _) (Nat.le_succ _)) (Nat.le_refl _) _, by have := HAP.out.below.size; rw [World.size_alloc] at this; go_size⟩
                    case measure => simp [intOf]; omega
                  exact AllReadyH.nil
                exact AllReadyH.nil
              exact AllReadyH.nil
            exact AllReadyH.nil
          exact AllReadyH.nil
        · have HKQ := Lib.hid (show x.body.take q = x.body from List.take_of_length_le (by omega))
          have hlk : (l.take k).length ≤ 4194304 := by rw [List.length_take]; omega
          have HL := Lib.hid (show PartsR (From w1.heap.size) wr (.slice A3 n3 c3) x.body from by
            have h1 := hoq.out.list (S' := From w1.heap.size) (fun _ h => Nat.le_of_succ_le h) (fun _ h => Nat.le_of_succ_le h)
            rw [HKQ.out] at h1
            exact h1)
          have HOO := Lib.hid (ho.out.ext (HX1.out.trans' hxq))
          go_wp2_with (at_builtin; refine wpList_appK (k := kRule) (S := From w.heap.size) (T := From N0) rfl (.tmp 56) (.tmp 58) 36 (by rfl) j0 _ 64 Tryz.underlying36 hj0 hy0 hy1 hy2 (by rfl) (by rfl) (HOO.out.ext ((Ext.refl _).alloc _)) _ 1 1 (by rfl) (ElemsK.one (k := kRule) (x := x) (Blk.new _ _ _) ⟨_, _, rfl, hxs, (HT2N.out.ext (hxq.alloc _)), (PartsR.sub HL.out (fromLe hN2)).ext ((Ext.refl _).alloc _)⟩) (fun _ hb _ => Nat.le_trans hN1 hb) (fun g hg hT => absurd (HN3.out g hg) (Nat.not_lt.2 hT)) (maxOf (by omega)) (by omega) (Nat.le_trans (hx.trans' (HX1.out.trans' hxq)).size (by go_size)) ?_; intro v3 w3 hap)
          go_roundw
          case rel => exact ⟨k + 1, by omega, by go_num, Lib.hid (by rw [HK.out]; exact hap.own), hap.toExt ((hx.trans' (HX1.out.trans' hxq)).alloc _) (Nat.le_refl _)⟩
          case measure => simp [intOf]; omega
    · have HK := Lib.hid (show l.take k = l from List.take_of_length_le (by omega))
      go_wp2
      go_ret
      have h1 := ho.out.list (S' := From w.heap.size) (fun _ h => h) (fun _ h => h)
      rw [HK.out] at h1
      exact ⟨⟨_, rfl, h1⟩, hx⟩
end

end Go.Proofs.YthndnkafckapnaaGreatDoor
