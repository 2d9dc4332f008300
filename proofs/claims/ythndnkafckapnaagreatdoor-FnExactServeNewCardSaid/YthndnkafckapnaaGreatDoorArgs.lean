/- The walks of the program's argsOf and headPlaces: what its maps hold. -/
import Derived.Test.YthndnkafckapnaaGreatDoorHeadP
import Derived.Test.YthndnkafckapnaaGreatDoorKinds
import Derived.Test.YthndnkafckapnaaGreatDoorMarkP
import Derived.Test.YthndnkafckapnaaGreatDoorParseP
import Derived.BigQuiet
namespace Go.Proofs.YthndnkafckapnaaGreatDoor
open Go.RowKit

section
variable (w : World) {ops : Array Oper} {rest : List Oper} {o : Oper} {a : Act} {Q : Exit → Act → World → Prop}
theorem wpList_mapN_some (hg : o.guard = none) (m x : Operand) (hop : o.op = Op.lookup 188 m x true) (B n : Nat) (f : ByteArray → Option Nat) (hm : a.eval m = .map (some B)) (hown : MapN w B n f) (s : ByteArray) (hx : a.eval x = .string s) (hs : s.size ≤ maxLen) (k : Nat) (hk : f s = some k)
    (hK : wpList Tryz.prog ops Q rest (a.put o.dst (.tuple #[.int .i64 (k : Int), .bool true])) w) : wpList Tryz.prog ops Q (o :: rest) a w :=
  wpList_mapN_ok w hg m x hop B n f hm hown s hx hs (by rw [hk]; exact hK)
theorem wpList_mapN_none (hg : o.guard = none) (m x : Operand) (hop : o.op = Op.lookup 188 m x true) (B n : Nat) (f : ByteArray → Option Nat) (hm : a.eval m = .map (some B)) (hown : MapN w B n f) (s : ByteArray) (hx : a.eval x = .string s) (hs : s.size ≤ maxLen) (hk : f s = none)
    (hK : wpList Tryz.prog ops Q rest (a.put o.dst (.tuple #[.int .i64 0, .bool false])) w) : wpList Tryz.prog ops Q (o :: rest) a w :=
  wpList_mapN_ok w hg m x hop B n f hm hown s hx hs (by rw [hk]; exact hK)
theorem wpList_mapN_at (hg : o.guard = none) (m x : Operand) (hop : o.op = Op.lookup 188 m x false) (B n : Nat) (f : ByteArray → Option Nat) (hm : a.eval m = .map (some B)) (hown : MapN w B n f) (s : ByteArray) (hx : a.eval x = .string s) (hs : s.size ≤ maxLen) (k : Nat) (hk : f s = some k)
    (hK : wpList Tryz.prog ops Q rest (a.put o.dst (.int .i64 (k : Int))) w) : wpList Tryz.prog ops Q (o :: rest) a w :=
  wpList_mapN w hg m x hop B n f hm hown s hx hs (by rw [hk]; exact hK)
end
theorem Inside.grown {S : Nat → Prop} {w0 w w' : World} {B : Nat} (h : Inside S w0 w) (hg : w.grownBy w' (some B)) (hB : S B) : Inside S w0 w' :=
  ⟨hg.os.trans h.os, hg.tape.trans h.tape, hg.output.trans h.output, Nat.le_trans h.size hg.size, fun k hk hn => (hg.block k (Nat.lt_of_lt_of_le hk h.size) (fun e => hn (by injection e with e; rw [e]; exact hB))).trans (h.block k hk hn)⟩
theorem Blk.grown {w w' : World} {g B : Nat} {t : TypeId} {cs : Array Value} (h : Blk w g t cs) (hg : w.grownBy w' (some B)) (hne : g ≠ B) : Blk w' g t cs :=
  (hg.block g h.lt (fun e => hne (by injection e))).trans h
theorem MapN.inside {S : Nat → Prop} {w w' : World} {B n : Nat} {f : ByteArray → Option Nat} (h : MapN w B n f) (hi : Inside S w w') (hB : ¬ S B) : MapN w' B n f := h.ext (hi.block B h.lt hB)

/-! ### How many terms a name has -/
/-- What argsOf has noted of atoms. -/
structure Noted (w : World) (B gm gb : Nat) (zs : List GA) : Prop where
  map : ∃ n, n ≤ zs.length ∧ MapN w B n (firstLen zs)
  cm : Blk w gm 188 #[.map (some B)]
  cb : Blk w gb 4 #[.bool (argsB zs)]
theorem Noted.alloc {w : World} {B gm gb : Nat} {zs : List GA} (h : Noted w B gm gb zs) (o : Obj) : Noted (w.alloc o) B gm gb zs := by
  obtain ⟨⟨n, h1, h2⟩, h3, h4⟩ := h
  exact ⟨⟨n, h1, h2.alloc o⟩, h3.alloc o, h4.alloc o⟩

set_option maxRecDepth 100000 in
set_option maxHeartbeats 2000000 in
theorem note_any (a : GA) (v : Value) (zs : List GA) (B gm gb : Nat) (w : World) {S : Nat → Prop} (hv : TermsR S w v a.args) (hs : a.n.size ≤ maxLen) (hl : a.args.length ≤ 1000) (has : zs.length ≤ 1000) (hn : Noted w B gm gb zs) (hd : B ≠ gb ∧ gm ≠ gb ∧ gm ≠ B) :
    Calls Tryz.prog 180 #[.agg #[.string a.n, v], .pointer (some ⟨gm, 0, none⟩), .pointer (some ⟨gb, 0, none⟩)] w fun e w' => e = .returned (.tuple #[]) ∧ Noted w' B gm gb (zs ++ [a]) ∧ Inside (fun i => i = B ∨ i = gb) w w' := by
  obtain ⟨A, c, rfl, hc1, hc2⟩ := SliceR.form hv
  obtain ⟨⟨n, hn1, hmn⟩, hcm, hcb⟩ := hn
  obtain ⟨hd1, hd2, hd3⟩ := hd
  have hlm := hcm.lt
  have hlb := hcb.lt
  have q0 := (hcm.alloc (.cells #[.string a.n, .slice A a.args.length c] 67)).cell 0
  have q1 := (hcb.alloc (.cells #[.string a.n, .slice A a.args.length c] 67)).cell 0
  have q2 := (hcb.alloc (.cells #[.string a.n, .slice A a.args.length c] 67)).frozen 0
  have hbs := argsB_snoc zs a
  have HM := Lib.hid hmn
  have HCM := Lib.hid hcm
  have HCB := Lib.hid hcb
  clear hv hmn hcm hcb
  cases hf : firstLen zs a.n with
  | none =>
    rw [hf] at hbs
    have HB := Lib.hid (show argsB (zs ++ [a]) = argsB zs from by rw [hbs, Bool.and_true])
    have HFN := Lib.hid (show ∀ x, (if x = a.n then some a.args.length else firstLen zs x) = firstLen (zs ++ [a]) x from fun x => by
      rw [firstLen_snoc]
      by_cases e : x = a.n
      · rw [if_pos e, e, hf, if_pos rfl]
      · rw [if_neg e, if_neg (fun h => e h.symm)]
        cases firstLen zs x <;> rfl)
    have HF := Lib.hid hf
    clear hbs hf
    go_enter Tryz.func180, Tryz.ntmps180
    go_wp2_with (first
      | (at_lookup; refine wpList_mapN_none _ rfl _ _ rfl B n (firstLen zs) rfl (HM.out.alloc _) a.n rfl hs HF.out ?_)
      | (at_mapUpdate; refine wpList_mapN_put _ rfl _ _ _ rfl B n (firstLen zs) rfl (HM.out.alloc _) (by omega) a.n rfl hs a.args.length rfl (by omega) ?_; intro w1 hm1 hg1; have HM1 := Lib.hid hm1; have HG1 := Lib.hid hg1; clear hm1 hg1))
    go_end0
    have hm1 := HM1.out
    rw [HF.out] at hm1
    exact ⟨rfl, ⟨⟨n + 1, by simp; omega, hm1.same HFN.out⟩, (HCM.out.alloc _).grown HG1.out hd3, by rw [HB.out]; exact (HCB.out.alloc _).grown HG1.out (fun e => hd1 e.symm)⟩, (Inside.of_ext ((Ext.refl _).alloc _)).grown HG1.out (.inl rfl)⟩
  | some m =>
    rw [hf] at hbs
    have hk0 : (0 : Int) ≤ (m : Int) := Int.natCast_nonneg _
    by_cases he : m = a.args.length
    · have HB := Lib.hid (show argsB (zs ++ [a]) = argsB zs from by rw [hbs]; simp [he])
      have hg0 : (!((m : Int) == (a.args.length : Int))) = false := by rw [he]; simp
      have HFN := Lib.hid (show ∀ x, (if x = a.n then some a.args.length else firstLen zs x) = firstLen (zs ++ [a]) x from fun x => by
        rw [firstLen_snoc]
        by_cases e : x = a.n
        · rw [if_pos e, e, hf, he]
        · rw [if_neg e, if_neg (fun h => e h.symm)]
          cases firstLen zs x <;> rfl)
      have HF := Lib.hid hf
      clear hbs hf
      go_enter Tryz.func180, Tryz.ntmps180
      go_wp2_with (first
        | (at_lookup; refine wpList_mapN_some _ rfl _ _ rfl B n (firstLen zs) rfl (HM.out.alloc _) a.n rfl hs m HF.out ?_)
        | (at_mapUpdate; refine wpList_mapN_put _ rfl _ _ _ rfl B n (firstLen zs) rfl (HM.out.alloc _) (by omega) a.n rfl hs a.args.length rfl (by omega) ?_; intro w1 hm1 hg1; have HM1 := Lib.hid hm1; have HG1 := Lib.hid hg1; clear hm1 hg1))
      go_end0
      have hm1 := HM1.out
      rw [HF.out] at hm1
      exact ⟨rfl, ⟨⟨n, by simp; omega, hm1.same HFN.out⟩, (HCM.out.alloc _).grown HG1.out hd3, by rw [HB.out]; exact (HCB.out.alloc _).grown HG1.out (fun e => hd1 e.symm)⟩, (Inside.of_ext ((Ext.refl _).alloc _)).grown HG1.out (.inl rfl)⟩
    · have HB := Lib.hid (show argsB (zs ++ [a]) = false from by rw [hbs]; simp [he])
      have hg0 : (!((m : Int) == (a.args.length : Int))) = true := by
        rw [Bool.not_eq_true', beq_eq_false_iff_ne]; omega
      have HFN := Lib.hid (show ∀ x, firstLen zs x = firstLen (zs ++ [a]) x from fun x => by
        rw [firstLen_snoc]
        by_cases e : a.n = x
        · subst e; rw [hf]
        · rw [if_neg e]
          cases firstLen zs x <;> rfl)
      have HF := Lib.hid hf
      clear hbs hf
      go_enter Tryz.func180, Tryz.ntmps180
      go_wp2_with (at_lookup; refine wpList_mapN_some _ rfl _ _ rfl B n (firstLen zs) rfl (HM.out.alloc _) a.n rfl hs m HF.out ?_)
      (try simp only [Exit.inBlock, Exit.then]); refine bodyPost_ret (results_none rfl _ _ _) rfl ?_
      exact ⟨rfl, ⟨⟨n, by simp; omega, ((HM.out.setCell (a := ⟨gb, 0, none⟩) hd1 _).alloc _).same HFN.out⟩, (HCM.out.far (p := ⟨gb, 0, none⟩) hd2 _).alloc _, by rw [HB.out]; exact (HCB.out.set_ 0 _).alloc _⟩, (Inside.set _ ⟨gb, 0, none⟩ _ (.inr rfl)).trans' (Inside.of_ext ((Ext.refl _).alloc _))⟩

theorem atoms_few {l : List GR} (h : ∀ r ∈ l, r.body.length ≤ 4) : (atomsOf l).length ≤ 5 * l.length := by
  induction l with
  | nil => exact Nat.le_refl _
  | cons r l ih =>
    have h1 := ih (fun r hr => h r (List.mem_cons_of_mem _ hr))
    have h2 := h r (by simp)
    unfold atomsOf ruleAtoms at h1 ⊢
    rw [List.map_cons, List.flatten_cons, List.length_append]
    simp only [List.length_cons, List.length_map] at h1 ⊢
    omega
theorem atomsOf_cut {l : List GR} {k : Nat} {r : GR} (h : l[k]? = some r) : atomsOf (l.take (k + 1)) = (atomsOf (l.take k) ++ [r.head]) ++ r.body.map (·.atom) := by
  obtain ⟨hk, rfl⟩ := List.getElem?_eq_some_iff.1 h
  unfold atomsOf
  rw [List.take_succ_eq_append_getElem hk, List.map_append, List.flatten_append]
  simp [ruleAtoms]
theorem map_take {r : GR} {j : Nat} {p : GP} (h : r.body[j]? = some p) : (r.body.take (j + 1)).map (·.atom) = (r.body.take j).map (·.atom) ++ [p.atom] := by
  obtain ⟨hj, rfl⟩ := List.getElem?_eq_some_iff.1 h
  rw [List.take_succ_eq_append_getElem hj, List.map_append]; rfl

set_option maxRecDepth 100000 in
set_option maxHeartbeats 4000000 in
theorem argsOf_any (v : Value) (l : List GR) (w : World) {S : Nat → Prop} (hv : RulesR S w v l) (hl : l.length ≤ 8) (hb : ∀ r ∈ l, r.body.length ≤ 4) (ha : ∀ r ∈ l, ∀ a ∈ ruleAtoms r, a.args.length ≤ 1000) :
    Calls Tryz.prog 142 #[v] w fun e w' => (∃ B n, e = .returned (.tuple #[.map (some B), .bool (argsB (atomsOf l))]) ∧ w.heap.size ≤ B ∧ n ≤ 40 ∧ MapN w' B n (firstLen (atomsOf l))) ∧ Ext w w' := by
  obtain ⟨A, c, rfl, hc1, hc2⟩ := SliceR.form hv
  have HV := Lib.hid (show RulesR (fun b => b < w.heap.size) w (.slice A l.length c) l from ListK.sub (k := kRule) (ListK.low (k := kRule) hv) (fun b hb => hb.2))
  have HBD := Lib.hid hb
  have HAL := Lib.hid ha
  have HLT := Lib.hid (fun k => show (atomsOf (l.take k)).length ≤ 40 from by
    have h1 := atoms_few (l := l.take k) (fun r hr => hb r (List.mem_of_mem_take hr))
    have h2 : (l.take k).length ≤ l.length := List.length_take_le' _ _
    omega)
  have hmm := @run_makeMap Tryz.prog
  have HD := Lib.hid (show w.heap.size ≠ w.heap.size + 1 + 1 ∧ w.heap.size + 1 ≠ w.heap.size + 1 + 1 ∧ w.heap.size + 1 ≠ w.heap.size from ⟨by omega, by omega, by omega⟩)
  have HS := Lib.hid (show ∀ i, i = w.heap.size ∨ i = w.heap.size + 1 + 1 → w.heap.size ≤ i from fun i h => by omega)
  clear hv hb ha
  go_enter Tryz.func142, Tryz.ntmps142
  go_wp2
  clear hmm
  go_loopw [15] (fun i wr => ∃ k : Nat, k ≤ l.length ∧ i = .int .i64 k ∧ Hid (Noted wr w.heap.size (w.heap.size + 1) (w.heap.size + 1 + 1) (atomsOf (l.take k))) ∧ Ext w wr) (fun i _ => l.length - (intOf i).toNat)
  case atStart =>
    refine ⟨0, Nat.zero_le _, rfl, Lib.hid ⟨⟨0, Nat.le_refl _, ?_⟩, ?_, ?_⟩, ?_⟩
    · exact (((MapN.made w).alloc _).alloc _).same (fun _ => rfl)
    · have h := Blk.new (w.alloc (.map #[] 0)) 188 #[.map (some w.heap.size)]
      rw [World.size_alloc] at h
      exact h.alloc _
    · have h := Blk.new ((w.alloc (.map #[] 0)).alloc (.cells #[.map (some w.heap.size)] 188)) 4 #[.bool true]
      rw [World.size_alloc, World.size_alloc] at h
      exact h
    · exact (((Ext.refl _).alloc _).alloc _).alloc _
  case round =>
    obtain ⟨k, hk, rfl, hno, hx⟩ := hrel
    have hk0 : (0 : Int) ≤ (k : Int) := by omega
    by_cases hlt : k < l.length
    · have hk1 : (k : Int) < (l.length : Int) := by omega
      obtain ⟨b, off, r, v1, u1, rfl, hb, hrk, hrs, ht, hu, p0, p1, p2⟩ := RulesR.at_ HV.out hlt
      obtain ⟨C, e, rfl, he1, he2⟩ := SliceR.form ht
      obtain ⟨D, f, rfl, hf1, hf2⟩ := SliceR.form hu
      have r0 := (hx.cells.1 b (off + k * 3) hb).trans p0
      have r1 := (hx.cells.1 b (off + k * 3 + 1) hb).trans p1
      have r2 := (hx.cells.1 b (off + k * 3 + 2) hb).trans p2
      clear p0 p1 p2
      have HRK := Lib.hid hrk
      have HU := Lib.hid hu
      have HN := Lib.hid (note_any r.head _ (atomsOf (l.take k)) _ _ _ (wr.alloc (.cells #[.string r.head.n, .slice C r.head.args.length e, .slice D r.body.length f] 95)) (ht.ext (hx.alloc _)) hrs (HAL.out r (List.mem_of_getElem? hrk) _ (by simp [ruleAtoms])) (by have := HLT.out k; omega) (hno.out.alloc _) HD.out)
      have HR := Lib.hid (Blk.new wr 95 #[.string r.head.n, .slice C r.head.args.length e, .slice D r.body.length f])
      have HNR := Lib.hid (show ¬ (wr.heap.size = w.heap.size ∨ wr.heap.size = w.heap.size + 1 + 1) from by have := hno.out.cb.lt; omega)
      have HB4 := Lib.hid (HBD.out r (List.mem_of_getElem? hrk))
      have hl0 := hno.out.cb.lt
      clear hrk ht hu
      go_wp2_with (go_at_call 180; refine HN.out.mono ?_; rintro e w1 ⟨rfl, hn1, hi1⟩; have HN1 := Lib.hid hn1; have hr1 := hi1.blk HR.out HNR.out; have q2 := hr1.cell 2; have hl1 := hr1.lt; have HX1 := Lib.hid (hi1.toExt (hx.alloc _) HS.out); clear hn1 hi1 hr1)
      go_loopw [26] (fun i wr => ∃ j : Nat, j ≤ r.body.length ∧ i = .int .i64 j ∧ Hid (Noted wr w.heap.size (w.heap.size + 1) (w.heap.size + 1 + 1) (atomsOf (l.take k) ++ [r.head] ++ (r.body.take j).map (·.atom))) ∧ Ext w wr) (fun i _ => r.body.length - (intOf i).toNat)
      case atStart => exact ⟨0, Nat.zero_le _, rfl, Lib.hid (by simpa using HN1.out), HX1.out⟩
      case round =>
        obtain ⟨j, hj, rfl, hno2, hx⟩ := hrel
        have hj0 : (0 : Int) ≤ (j : Int) := by omega
        by_cases hjt : j < r.body.length
        · have hj1 : (j : Int) < (r.body.length : Int) := by omega
          obtain ⟨b2, off2, p, v2, rfl, hb2, hpk, hps, htp, z0, z1, z2⟩ := PartsR.at_ HU.out hjt
          obtain ⟨E2, g2, rfl, _, _⟩ := SliceR.form htp
          have s0 := (hx.cells.1 b2 (off2 + j * 3) hb2).trans z0
          have s1 := (hx.cells.1 b2 (off2 + j * 3 + 1) hb2).trans z1
          have s2 := (hx.cells.1 b2 (off2 + j * 3 + 2) hb2).trans z2
          clear z0 z1 z2
          have HE := Lib.hid (show (atomsOf (l.take k) ++ [r.head] ++ (r.body.take j).map (·.atom)) ++ [p.atom] = atomsOf (l.take k) ++ [r.head] ++ (r.body.take (j + 1)).map (·.atom) from by rw [map_take hpk, List.append_assoc _ _ [p.atom]])
          have HN2 := Lib.hid (note_any p.atom _ (atomsOf (l.take k) ++ [r.head] ++ (r.body.take j).map (·.atom)) _ _ _ (wr.alloc (.cells #[.bool p.no, .string p.atom.n, .slice E2 p.atom.args.length g2] 144)) (htp.ext (hx.alloc _)) hps (HAL.out r (List.mem_of_getElem? HRK.out) _ (by simp [ruleAtoms]; exact .inr ⟨p, List.mem_of_getElem? hpk, rfl⟩)) (by
            have h1 := HLT.out k
            have h2 := HB4.out
            simp only [List.length_append, List.length_cons, List.length_nil, List.length_map, List.length_take]; omega) (hno2.out.alloc _) HD.out)
          clear hpk htp
          go_wp2_with (go_at_call 180; refine HN2.out.mono ?_; rintro e w2 ⟨rfl, hn2, hi2⟩; have HN3 := Lib.hid hn2; have HX2 := Lib.hid (hi2.toExt (hx.alloc _) HS.out); clear hn2 hi2)
          go_roundw
          case rel => exact ⟨j + 1, by omega, by go_num, Lib.hid (by rw [← HE.out]; exact HN3.out), HX2.out⟩
          case measure => simp [intOf]; omega
        · have HE := Lib.hid (show atomsOf (l.take k) ++ [r.head] ++ (r.body.take j).map (·.atom) = atomsOf (l.take (k + 1)) from by rw [atomsOf_cut HRK.out, List.take_of_length_le (show r.body.length ≤ j by omega)])
          go_wp2
          go_roundw
          case rel => exact ⟨k + 1, by omega, by go_num, Lib.hid (by rw [← HE.out]; exact hno2.out), hx⟩
          case measure => simp [intOf]; omega
    · have hke : k = l.length := by omega
      subst hke
      have HN := Lib.hid (show Noted wr w.heap.size (w.heap.size + 1) (w.heap.size + 1 + 1) (atomsOf l) from by have := hno.out; rwa [List.take_length] at this)
      have q0 := HN.out.cm.cell 0
      have q1 := HN.out.cb.cell 0
      have hl1 := HN.out.cm.lt
      have hl2 := HN.out.cb.lt
      have HL := Lib.hid (HLT.out l.length)
      go_wp2_with fail
      go_quiet (fail)
      go_wp2
      go_ret2
      obtain ⟨⟨n, hn, hm⟩, _, _⟩ := HN.out
      refine ⟨⟨_, n, rfl, Nat.le_refl _, ?_, hm⟩, hx.drewN _⟩
      have := HL.out
      rw [List.take_length] at this
      omega

end Go.Proofs.YthndnkafckapnaaGreatDoor
