/- Part of the texts of a proof: own texts joined in the order of their building; what they say stands at each theorem. -/
import Derived.Test.YtfjdijakgjhieaaGreatBas18
import Derived.Deep.RegionHeld3
namespace Go.Proofs.YtfjdijakgjhieaaGreat
set_option linter.unusedSimpArgs false
set_option linter.unusedVariables false
open Go.RowKit

theorem bit_test_fin : ∀ (l : Fin 16) (k : Fin 4), (bits BinOp.and IntKind.i64 ((l.val : Nat) : Int) (wrap64 (2 ^ k.val)) == 0) = !l.val.testBit k.val := by decide +kernel
theorem bit_test {l k : Nat} (hl : l < 16) (hk : k < 4) : (bits BinOp.and IntKind.i64 ((l : Nat) : Int) (wrap64 (2 ^ k)) == 0) = !l.testBit k := bit_test_fin ⟨l, hl⟩ ⟨k, hk⟩
theorem NumsR.form2 {S : Nat → Prop} {w : World} {v : Value} {xs : List Nat} (h : NumsR S w v xs) : ∃ A n c, v = .slice A n c ∧ Hid (n = xs.length) ∧ n ≤ c ∧ c ≤ 9223372036854775807 := by
 obtain ⟨A, c, rfl, h1, h2⟩ := SliceR.form h
 exact ⟨A, _, c, rfl, Lib.hid rfl, h1, h2⟩

/-- A choice as it stands in slots. -/
def chI (o : Option (Nat × List Nat)) : Int := match o with | none => -1 | some x => (x.1 : Int)
def chL (o : Option (Nat × List Nat)) : List Nat := match o with | none => [] | some x => x.2
theorem choose_take {E : SE} {left : Nat} {W : Words} {k : Nat} {p : GPat} (h : E.parts[k]? = some p) : (E.parts.take (k + 1)).zipIdx.foldl (chooseStep E left W) none = chooseStep E left W ((E.parts.take k).zipIdx.foldl (chooseStep E left W) none) (p, k) := by
 have hk : (E.parts.take k).length = k := by rw [List.length_take]; have := (List.getElem?_eq_some_iff.1 h).1; omega
 rw [List.take_add_one, h, List.zipIdx_append, List.foldl_append, hk]
 simp
theorem choose_rest {E : SE} {left : Nat} {W : Words} {x : Nat × List Nat} (ho : E.inOrder = true) : ∀ (l : List (GPat × Nat)), l.foldl (chooseStep E left W) (some x) = some x
 | [] => rfl
 | y :: l => by
   have h1 : chooseStep E left W (some x) y = some x := by
    unfold chooseStep
    split
    · simp [ho]
    · rfl
   rw [List.foldl_cons, h1]
   exact choose_rest ho l
theorem choose_early {E : SE} {left : Nat} {W : Words} {k : Nat} {x : Nat × List Nat} (ho : E.inOrder = true) (h : (E.parts.take k).zipIdx.foldl (chooseStep E left W) none = some x) : E.choose left W = some x := by
 unfold SE.choose
 have e : E.parts = E.parts.take k ++ E.parts.drop k := (List.take_append_drop k _).symm
 conv => lhs; rw [e]
 rw [List.zipIdx_append, List.foldl_append, h]
 exact choose_rest ho _

set_option maxRecDepth 100000 in
set_option maxHeartbeats 8000000 in
theorem choose_any (E : SE) (left : Nat) (S : Sea) (sb : Nat) (w : World) {F P : Nat → Prop} {stb : Nat} {fv rv : Value} {mb pb nm np : Nat} {f : Value → Value} (h : StoreR F w stb E.facts E.rounds fv rv mb pb nm np f) (hs : SeaAt w sb S) (hst : S.st = .pointer (some ⟨stb, 0, none⟩)) (hp : PatsR P w S.q0 E.parts)
 (hok : ∀ p ∈ E.parts, (∀ s ∈ p.slots, okSlot 12 s) ∧ p.slots.length ≤ 1000) (hF : ∀ b, F b → b < w.heap.size) (hin : S.inOrd = E.inOrder) (hl : left < 16) (hpl : E.parts.length ≤ 4) :
 Calls Tryz.prog 182 #[.pointer (some ⟨sb, 0, none⟩), .int .i64 (left : Int)] w fun e w' => (∃ v, e = .returned (.tuple #[.int .i64 (chI (E.choose left S.W)), v]) ∧ NumsR F w' v (chL (E.choose left S.W))) ∧ Ext w w' := by
 obtain ⟨A, c, hq0, hc1, hc2⟩ := SliceR.form hp
 have t0 := hs.st
 have t1 := hs.q0
 have t16 := hs.inOrd
 rw [hst] at t0
 rw [hq0] at t1 hp
 rw [hin] at t16
 have HST := Lib.hid h
 have HSE := Lib.hid hs
 have HP := Lib.hid hp
 have HOK := Lib.hid hok
 have sl := hs.lt
 have HT0 := Lib.hid t0
 have HT16 := Lib.hid t16
 clear h hs hp hok hst hq0 hin t16
 go_enter Tryz.func182, Tryz.ntmps182
 go_wp2_with fail
 clear t0 t1
 go_loopw [6, 7, 17] (fun b l i wr => ∃ k : Nat, k ≤ E.parts.length ∧ i = .int .i64 k ∧ b = .int .i64 (chI ((E.parts.take k).zipIdx.foldl (chooseStep E left S.W) none)) ∧ Hid (NumsR F wr l (chL ((E.parts.take k).zipIdx.foldl (chooseStep E left S.W) none))) ∧ Ext w wr ∧ Hid (E.inOrder = true → (E.parts.take k).zipIdx.foldl (chooseStep E left S.W) none = none)) (fun _ _ i _ => E.parts.length - (intOf i).toNat)
 case atStart => exact ⟨0, Nat.zero_le _, rfl, rfl, Lib.hid (ListK.nil (k := kNum) 0 (Nat.zero_le _) _), Ext.refl _, Lib.hid (fun _ => rfl)⟩
 case round =>
  obtain ⟨k, hk, rfl, rfl, hnu, hx, hno⟩ := hrel
  have hk0 : (0 : Int) ≤ (k : Int) := by omega
  by_cases hlt : k < E.parts.length
  · have hk1 : (k : Int) < (E.parts.length : Int) := by omega
    obtain ⟨bp, op, p, vp, rfl, hbp, hpk, hpn, hps, hp0, hp1⟩ := PatsR.at_ HP.out hlt
    obtain ⟨G, cg, rfl, hcg1, hcg2⟩ := SliceR.form hps
    have r0 := (hx.cells.1 bp (op + k * 2) hbp).trans hp0
    have r1 := (hx.cells.1 bp (op + k * 2 + 1) hbp).trans hp1
    have hbw : bp < wr.heap.size := Nat.lt_of_lt_of_le hbp hx.size
    have hk4 : k < 4 := by omega
    have hbt : (bits BinOp.and IntKind.i64 ((left : Nat) : Int) (wrap64 (2 ^ k)) == 0) = !left.testBit k := bit_test hl hk4
    have HCT := Lib.hid (choose_take (E := E) (left := left) (W := S.W) hpk)
    obtain ⟨ho1, ho2⟩ := HOK.out p (List.mem_of_getElem? hpk)
    have HBT : ∃ t, left.testBit k = t := ⟨_, rfl⟩
    obtain ⟨t, hbt'⟩ := HBT
    rw [hbt'] at hbt
    cases t
    · have HS0 := Lib.hid (show (E.parts.take (k + 1)).zipIdx.foldl (chooseStep E left S.W) none = (E.parts.take k).zipIdx.foldl (chooseStep E left S.W) none from by rw [HCT.out]; unfold chooseStep; rw [if_neg (by simp [hbt'])])
      clear ho1 ho2
      go_wp2
      go_roundw
      case rel => exact ⟨k + 1, by omega, by go_num, by rw [HS0.out], Lib.hid (by rw [HS0.out]; exact hnu.out.ext ((Ext.refl _).alloc _)), hx.alloc _, Lib.hid (by rw [HS0.out]; exact hno.out)⟩
      case measure => simp [intOf]; omega
    · have HCC := Lib.hid (fun (W : World) (hW : Ext (wr.alloc (.cells #[.string p.n, .slice G p.slots.length cg] 184)) W) => candidates_any p _ S sb W (HST.out.ext (hx.trans' (((Ext.refl wr).alloc _).trans' hW))) (HSE.out.ext (hx.trans' (((Ext.refl wr).alloc _).trans' hW))) (hps.ext (hx.trans' (((Ext.refl wr).alloc _).trans' hW))) ho1 hpn ho2 (fun b hb => Nat.lt_of_lt_of_le (hF b hb) (hx.trans' (((Ext.refl wr).alloc _).trans' hW)).size))
      have hbx := Blk.new wr 184 #[.string p.n, .slice G p.slots.length cg]
      have HSW := Lib.hid (show ∀ W, Ext (wr.alloc (.cells #[.string p.n, .slice G p.slots.length cg] 184)) W → W.cell? ⟨sb, 0, none⟩ = some (.pointer (some ⟨stb, 0, none⟩)) ∧ W.cell? ⟨wr.heap.size, 0, none⟩ = some (.string p.n) ∧ W.cell? ⟨wr.heap.size, 1, none⟩ = some (.slice G p.slots.length cg) from fun W hW =>
       ⟨((hx.trans' (((Ext.refl wr).alloc _).trans' hW)).cells.1 sb 0 sl).trans HT0.out, (hbx.ext hW).cell 0, (hbx.ext hW).cell 1⟩)
      clear hpk hp0 hp1 hps ho1 ho2 hbx
      generalize (E.parts.take k).zipIdx.foldl (chooseStep E left S.W) none = o at hnu hno HCT ⊢
      have HBI : ∃ bi, Hid (chI o = bi) := ⟨_, Lib.hid rfl⟩
      obtain ⟨bi, HBI⟩ := HBI
      rw [HBI.out]
      obtain ⟨A7, n7, c7, rfl, hn7, h71, h72⟩ := NumsR.form2 hnu.out
      go_wp2_with fail
      refine wp_region_noPanic ?_
      refine wp_region_held_drew (S := (fun w' => w'.cell? ⟨sb, 0, none⟩ = some (.pointer (some ⟨stb, 0, none⟩)) ∧ w'.cell? ⟨wr.heap.size, 0, none⟩ = some (.string p.n) ∧ w'.cell? ⟨wr.heap.size, 1, none⟩ = some (.slice G p.slots.length cg))) (by kernel_rfl) ?_ (fun hHeld => ?_)
      · (try dsimp only); (first | exact HSW.out _ (Ext.refl _).drew | exact HSW.out _ HX4.out)
      refine tk 0 (v := ?_) rfl ?_ ?_
      rotate_left
      · (intro w hSw; (try dsimp only at hSw); go_simp) <;> with_reducible rfl
      try simp only [Act.put, stz]
      refine tk 1 (v := ?_) rfl ?_ ?_
      rotate_left
      · (intro w hSw; (try dsimp only at hSw); go_simp) <;> with_reducible rfl
      try simp only [Act.put, stz]
      refine tk 2 (v := ?_) rfl ?_ ?_
      rotate_left
      · (intro w hSw; (try dsimp only at hSw); go_simp) <;> with_reducible rfl
      try simp only [Act.put, stz]
      refine tk 3 (v := ?_) rfl ?_ ?_
      rotate_left
      · (intro w hSw; (try dsimp only at hSw); go_simp) <;> with_reducible rfl
      try simp only [Act.put, stz]
      refine tk 4 (v := ?_) rfl ?_ ?_
      rotate_left
      · (intro w hSw; (try dsimp only at hSw); go_simp) <;> with_reducible rfl
      try simp only [Act.put, stz]
      refine tk 5 (v := ?_) rfl ?_ ?_
      rotate_left
      · (intro w hSw; (try dsimp only at hSw); go_simp) <;> with_reducible rfl
      try simp only [Act.put, stz]
      refine tk 6 (v := ?_) rfl ?_ ?_
      rotate_left
      · (intro w hSw; (try dsimp only at hSw); go_simp) <;> with_reducible rfl
      try simp only [Act.put, stz]
      refine tk 7 (v := ?_) rfl ?_ ?_
      rotate_left
      · (intro w hSw; (try dsimp only at hSw); go_simp) <;> with_reducible rfl
      try simp only [Act.put, stz]
      refine wpAnyH_ready (rs := [8]) (by kernel_rfl) (by simp) ?_
      refine AllReadyH.cons (o := _) rfl (fun K hK => ?_) ?_
      · go_simp
        go_at_call 202; refine (HCC.out _ (Ext.refl _).drew).mono ?_; rintro e w4 ⟨⟨v4, rfl, hv4⟩, hx4⟩
        have HX4 := Lib.hid (show Ext (wr.alloc (.cells #[.string p.n, .slice G p.slots.length cg] 184)) w4 from (Ext.refl _).drew.trans' hx4)
        obtain ⟨G4, n4, c4, rfl, hn4, hg41, hg42⟩ := NumsR.form2 hv4
        have HV4 := Lib.hid hv4
        clear hv4 hx4
        refine hK.out _ _ ?_ (fun hNew => ?_)
        · (try dsimp only); (first | exact HSW.out _ (Ext.refl _).drew | exact HSW.out _ HX4.out)
        clear hK K hHeld
        have hHeld := hNew
        clear hNew
        try simp only [Act.put, stz]
        refine tk 9 (v := ?_) rfl ?_ ?_
        rotate_left
        · (intro w hSw; (try dsimp only at hSw); go_simp) <;> with_reducible rfl
        try simp only [Act.put, stz]
        refine wpAnyH_done (by kernel_rfl) ?_ _
        refine NoPanic.normal ?_
        have HXW := Lib.hid (show Ext w w4 from hx.trans' (((Ext.refl wr).alloc _).trans' HX4.out))
        have hb0 : (-1 : Int) < 0 := by decide
        cases o with
        | none =>
          have hbi : bi = -1 := HBI.out.symm
          subst hbi
          have HS0 := Lib.hid (show (E.parts.take (k + 1)).zipIdx.foldl (chooseStep E left S.W) none = some (k, candP E.facts p S.W) from by rw [HCT.out]; unfold chooseStep; rw [if_pos hbt'])
          rcases Bool.eq_false_or_eq_true E.inOrder with hin | hin
          · have i16 : w4.cell? ⟨sb, 16, none⟩ = some (.bool true) := by rw [← hin]; exact (HXW.out.cells.1 sb 16 sl).trans HT16.out
            have HE := Lib.hid (choose_early hin HS0.out)
            clear hin
            go_wp2
            go_ret2
            exact ⟨⟨_, by rw [HE.out]; rfl, by rw [HE.out]; exact HV4.out⟩, HXW.out⟩
          · have i16 : w4.cell? ⟨sb, 16, none⟩ = some (.bool false) := by rw [← hin]; exact (HXW.out.cells.1 sb 16 sl).trans HT16.out
            have HIN := Lib.hid hin
            clear hin
            go_wp2
            go_roundw
            case rel => exact ⟨k + 1, by omega, by go_num, by rw [HS0.out]; rfl, Lib.hid (by rw [HS0.out]; exact HV4.out), HXW.out, Lib.hid (fun h => by rw [HIN.out] at h; cases h)⟩
            case measure => simp [intOf]; omega
        | some x =>
          obtain ⟨b, l⟩ := x
          have hbi : bi = (b : Int) := HBI.out.symm
          subst hbi
          have hin : E.inOrder = false := by
           rcases Bool.eq_false_or_eq_true E.inOrder with hin | hin
           · have := hno.out hin; cases this
           · exact hin
          have i16 : w4.cell? ⟨sb, 16, none⟩ = some (.bool false) := by rw [← hin]; exact (HXW.out.cells.1 sb 16 sl).trans HT16.out
          have HIN := Lib.hid hin
          clear hin
          have hb1 : ¬ (b : Int) < 0 := by omega
          by_cases hlt4 : n4 < n7
          · have hlt5 : (n4 : Int) < (n7 : Int) := by omega
            have HS0 := Lib.hid (show (E.parts.take (k + 1)).zipIdx.foldl (chooseStep E left S.W) none = some (k, candP E.facts p S.W) from by
             rw [HCT.out]; unfold chooseStep; rw [if_pos hbt']
             show (if E.inOrder = true then _ else if (candP E.facts p S.W).length < l.length then _ else _) = _
             rw [if_neg (by rw [HIN.out]; decide), if_pos (by have h1 := hn4.out; have h2 := hn7.out; simp only [chL] at h2; omega)])
            clear hlt4
            go_wp2
            go_roundw
            case rel => exact ⟨k + 1, by omega, by go_num, by rw [HS0.out]; rfl, Lib.hid (by rw [HS0.out]; exact HV4.out), HXW.out, Lib.hid (fun h => by rw [HIN.out] at h; cases h)⟩
            case measure => simp [intOf]; omega
          · have hlt5 : ¬ (n4 : Int) < (n7 : Int) := by omega
            have HS0 := Lib.hid (show (E.parts.take (k + 1)).zipIdx.foldl (chooseStep E left S.W) none = some (b, l) from by
             rw [HCT.out]; unfold chooseStep; rw [if_pos hbt']
             show (if E.inOrder = true then _ else if (candP E.facts p S.W).length < l.length then _ else _) = _
             rw [if_neg (by rw [HIN.out]; decide), if_neg (by have h1 := hn4.out; have h2 := hn7.out; simp only [chL] at h2; omega)])
            clear hlt4
            go_wp2
            go_roundw
            case rel => exact ⟨k + 1, by omega, by go_num, by rw [HS0.out]; rfl, Lib.hid (by rw [HS0.out]; exact hnu.out.ext (((Ext.refl wr).alloc _).trans' HX4.out)), HXW.out, Lib.hid (fun h => by rw [HIN.out] at h; cases h)⟩
            case measure => simp [intOf]; omega
      exact AllReadyH.nil
  · have HC := Lib.hid (show (E.parts.take k).zipIdx.foldl (chooseStep E left S.W) none = E.choose left S.W from by rw [List.take_of_length_le (by omega)]; rfl)
    go_wp2
    go_ret2
    exact ⟨⟨_, by rw [HC.out]; rfl, by rw [← HC.out]; exact hnu.out⟩, hx⟩

end Go.Proofs.YtfjdijakgjhieaaGreat

namespace Go.Proofs.YtfjdijakgjhieaaGreat
set_option linter.unusedSimpArgs false
set_option linter.unusedVariables false
open Go.RowKit

theorem Ext.drewN' (w : World) : ∀ q, Ext w (w.drewN q)
 | 0 => Ext.refl _
 | q + 1 => by
   have h := Ext.drewN' w q
   exact h.drew

/-! ### Feeding -/
theorem feed_one {σ : Type} (tell : σ → Words → σ × Bool) (W : Words) (st : σ) : feed tell [W] st = tell st W := by
 simp only [feed]
 rcases h : tell st W with ⟨a, b⟩
 cases b <;> rfl
theorem feed_append {σ : Type} (tell : σ → Words → σ × Bool) : ∀ (l m : List Words) (st : σ), feed tell (l ++ m) st = if (feed tell l st).2 then feed tell m (feed tell l st).1 else feed tell l st
 | [], m, st => by simp [feed]
 | W :: l, m, st => by
   simp only [List.cons_append, feed]
   split
   · exact feed_append tell l m _
   · simp

theorem feed_rank {σ : Type} {tell : σ → Words → σ × Bool} {rank : σ → Nat} (up : ∀ st W, rank (tell st W).1 ≤ rank st + 1) : ∀ (l : List Words) (st : σ), rank (feed tell l st).1 ≤ rank st + l.length
 | [], st => Nat.le_refl _
 | W :: l, st => by
   have h1 := up st W
   simp only [feed]
   split
   · have h2 := feed_rank up l (tell st W).1
     rw [List.length_cons]; omega
   · rw [List.length_cons]; show rank (tell st W).1 ≤ _; omega

/-! ### The state, but for what was bound and given back -/
structure Same (S Q : Sea) : Prop where
 eq : Q = { S with bd := Q.bd }
 bd : Q.bd.take S.cnt = S.bd.take S.cnt
theorem Same.refl (S : Sea) : Same S S := ⟨by cases S; rfl, rfl⟩
theorem Same.W {S Q : Sea} (h : Same S Q) : Q.W = S.W := by rw [h.eq]
theorem Same.cnt {S Q : Sea} (h : Same S Q) : Q.cnt = S.cnt := by rw [h.eq]
theorem Same.trans {S Q T : Sea} (h : Same S Q) (k : Same Q T) : Same S T := by
 refine ⟨?_, ?_⟩
 · rw [k.eq, h.eq]
 · have := k.bd
   rw [h.cnt, h.bd] at this
   exact this
theorem back_same {S T Q : Sea} {p : GPat} {a : GA} (hm : Matched S T (traceP p a S.W)) (hW : T.W = (matchP p a S.W).1) (hq : Same T Q) (hok : ∀ s ∈ p.slots, okSlot S.W.length s) (hc : S.cnt ≤ S.bd.length) : Same S (Q.back S.cnt) := by
 have e1 : Q.bd.take Q.cnt = S.bd.take S.cnt ++ traceP p a S.W := by rw [hq.cnt, hq.bd, hm.bd]
 have e2 : Q.W = (matchP p a S.W).1 := hq.W.trans hW
 have e3 : (S.bd.take S.cnt).length = S.cnt := by rw [List.length_take]; omega
 have e4 : clearW Q.W ((Q.bd.take Q.cnt).drop S.cnt) = S.W := by
  rw [e1, List.drop_left' e3, e2]; exact clear_matchP hok
 refine ⟨?_, ?_⟩
 · unfold Sea.back
   rw [e4]
   have h1 := hq.eq
   have h2 := hm.same
   rw [h1, h2]
 · show Q.bd.take S.cnt = _
   have h5 : Q.bd.take S.cnt = (Q.bd.take Q.cnt).take S.cnt := by
    rw [List.take_take, hq.cnt, hm.cnt, Nat.min_eq_left (by omega)]
   rw [h5, e1, List.take_left' e3]

theorem settled_same {E : SE} {S : Sea} (h : S.wanted = E.wanted) (hl : E.wanted.length = 12) : settledB S = E.settled S.W := by
 unfold settledB SE.settled
 rw [h]
 apply Bool.eq_iff_iff.2
 rw [List.all_eq_true, List.all_eq_true]
 constructor
 · intro hh x hx
   obtain ⟨h1, h2⟩ := List.mem_zipIdx_iff_getElem?.1 hx |> fun h => (⟨h, List.getElem?_eq_some_iff.1 h⟩ : _ ∧ _)
   obtain ⟨hlt, h2⟩ := h2
   have := hh x.2 (List.mem_range.2 (by omega))
   rw [List.getD_eq_getElem?_getD, h1] at this
   exact this
 · intro hh i hi
   have hi := List.mem_range.1 hi
   have h1 : E.wanted[i]? = some (E.wanted[i]'(by omega)) := List.getElem?_eq_getElem _
   have := hh (E.wanted[i]'(by omega), i) (List.mem_zipIdx_iff_getElem?.2 h1)
   rw [List.getD_eq_getElem?_getD, h1]
   exact this

theorem without_fin : ∀ (l : Fin 16) (k : Fin 4), bits BinOp.andNot IntKind.i64 ((l.val : Nat) : Int) (wrap64 (2 ^ k.val)) = ((without l.val k.val : Nat) : Int) ∧ without l.val k.val < 16 := by decide +kernel
theorem without_bits {l k : Nat} (hl : l < 16) (hk : k < 4) : bits BinOp.andNot IntKind.i64 ((l : Nat) : Int) (wrap64 (2 ^ k)) = ((without l k : Nat) : Int) := (without_fin ⟨l, hl⟩ ⟨k, hk⟩).1
theorem without_lt {l k : Nat} (hl : l < 16) (hk : k < 4) : without l k < 16 := (without_fin ⟨l, hl⟩ ⟨k, hk⟩).2

/-! ### A hunt -/
/-- What does not turn while it is hunted. -/
structure Hunt where
 E : SE
 F : Nat → Prop
 P : Nat → Prop
 M : Nat → Prop
 G : Words → Prop
 stb : Nat
 fv : Value
 rv : Value
 mb : Nat
 pb : Nat
 nm : Nat
 np : Nat
 f : Value → Value
 sb : Nat
structure Hunt.Fit (H : Hunt) : Prop where
 parts : ∀ p ∈ H.E.parts, (∀ s ∈ p.slots, okSlot 12 s) ∧ p.slots.length ≤ 1000
 few : H.E.parts.length ≤ 4
 rounds : H.E.rounds.length = H.E.facts.length
 wlen : H.E.wanted.length = 12
 nF : ¬ H.F H.sb
 nP : ¬ H.P H.sb
 nM : ¬ H.M H.sb
 FM : ∀ b, H.F b → ¬ H.M b
 PM : ∀ b, H.P b → ¬ H.M b
 keep : ∀ (W : Words) (p : GPat) (j : Nat) (a : GA), H.G W → p ∈ H.E.parts → H.E.facts[j]? = some a → (matchP p a W).2 = true → H.G (matchP p a W).1
 nots : ∀ (W : Words), H.G W → ∀ p ∈ H.E.nots, (∀ s ∈ p.slots, okSlot 12 s) ∧ p.slots.length ≤ 1000 ∧ wAtom (factP W p) ≤ 4194304
 text : ∀ (W : Words), H.G W → H.E.settled W = true → (H.E.nots.any fun p => hasText H.E.facts (factP W p)) = H.E.hindered W
structure Seek (H : Hunt) (S : Sea) (w : World) : Prop where
 st : StoreR H.F w H.stb H.E.facts H.E.rounds H.fv H.rv H.mb H.pb H.nm H.np H.f
 sea : SeaAt w H.sb S
 at_ : S.st = .pointer (some ⟨H.stb, 0, none⟩)
 q0 : PatsR H.P w S.q0 H.E.parts
 q1 : PatsR H.P w S.q1 H.E.nots
 wanted : S.wanted = H.E.wanted
 inOrd : S.inOrd = H.E.inOrder
 ahead : S.ahead = (H.E.ahead : Int)
 bok : Bok S.W (S.bd.take S.cnt)
 cnt : S.cnt ≤ 12
 low : ∀ b, H.F b → b < w.heap.size
theorem Seek.ext {H : Hunt} {S : Sea} {w w' : World} (h : Seek H S w) (hx : Ext w w') : Seek H S w' :=
 ⟨h.st.ext hx, h.sea.ext hx, h.at_, h.q0.ext hx, h.q1.ext hx, h.wanted, h.inOrd, h.ahead, h.bok, h.cnt, fun b hb => Nat.lt_of_lt_of_le (h.low b hb) hx.size⟩
/-- Into another state of the sea, when nothing else that counts is touched. -/
theorem Seek.move {H : Hunt} (hH : H.Fit) {S Q : Sea} {w w' : World} (h : Seek H S w) (hi : Inside (fun b => b = H.sb ∨ H.M b) w w') (hs : SeaAt w' H.sb Q)
 (he : Q = { S with W := Q.W, bd := Q.bd, cnt := Q.cnt }) (hb : Bok Q.W (Q.bd.take Q.cnt)) (hc : Q.cnt ≤ 12) : Seek H Q w' := by
 have hF : ∀ b, H.F b → ¬ (b = H.sb ∨ H.M b) := fun b hb h => h.elim (fun e => hH.nF (e ▸ hb)) (hH.FM b hb)
 have hP : ∀ b, H.P b → ¬ (b = H.sb ∨ H.M b) := fun b hb h => h.elim (fun e => hH.nP (e ▸ hb)) (hH.PM b hb)
 refine ⟨h.st.inside hi hF, hs, by rw [he]; exact h.at_, ?_, ?_, by rw [he]; exact h.wanted, by rw [he]; exact h.inOrd, by rw [he]; exact h.ahead, hb, hc, fun b hb => Nat.lt_of_lt_of_le (h.low b hb) hi.size⟩
 · have e : Q.q0 = S.q0 := by rw [he]
   rw [e]
   exact h.q0.impL (fun _ h _ => h) (fun b hb hlt => hi.block b hlt (hP b hb)) hi.size
 · have e : Q.q1 = S.q1 := by rw [he]
   rw [e]
   exact h.q1.impL (fun _ h _ => h) (fun b hb hlt => hi.block b hlt (hP b hb)) hi.size
theorem Seek.same {H : Hunt} (hH : H.Fit) {S Q : Sea} {w w' : World} (h : Seek H S w) (hi : Inside (fun b => b = H.sb ∨ H.M b) w w') (hs : SeaAt w' H.sb Q) (hq : Same S Q) : Seek H Q w' :=
 h.move hH hi hs (by rw [hq.eq]) (by rw [hq.W, hq.cnt, hq.bd]; exact h.bok) (by rw [hq.cnt]; exact h.cnt)
/-- Who is told: a function value, with a state of its own. -/
structure Teller (H : Hunt) {σ : Type} (g : Nat) (caps : Array Value) (R : σ → World → Prop) (step : σ → Words → σ × Bool) (rank : σ → Nat) (N : Nat) : Prop where
 go : ∀ args w, (callFunc g args).run Tryz.prog w = .ok (.enter g args) w
 told : ∀ (st : σ) (Q : Sea) (w : World), Seek H Q w → R st w → H.G Q.W → rank st < N → Calls Tryz.prog g (#[.pointer (some ⟨H.sb, 18, none⟩)] ++ caps) w fun e w' => e = .returned (.bool (step st Q.W).2) ∧ R (step st Q.W).1 w' ∧ Inside H.M w w'
 keep : ∀ st w w', R st w → Inside (fun b => b = H.sb) w w' → R st w'
 up : ∀ st W, rank (step st W).1 ≤ rank st + 1

/-! ### The loop over candidates -/
theorem choose_run {E : SE} {n left : Nat} {W : Words} (h1 : (E.settled W && E.hindered W) = false) (h2 : left ≠ 0) :
 ∃ (i : Nat) (L : List Nat) (p : GPat), chL (E.choose left W) = L ∧ told E (n + 1) left W = toldLoop E (told E n (without left i)) (E.settled W) p W L false ∧
   (L ≠ [] → chI (E.choose left W) = (i : Int) ∧ E.parts[i]? = some p ∧ left.testBit i = true) ∧ ∀ j ∈ L, ∃ a, E.facts[j]? = some a := by
 cases hc : E.choose left W with
 | none =>
   refine ⟨0, [], ⟨noWord, []⟩, rfl, ?_, fun h => absurd rfl h, fun j hj => by cases hj⟩
   simp only [told]
   rw [h1, if_neg (by decide), if_neg h2, hc]
   rfl
 | some x =>
   obtain ⟨i, l⟩ := x
   obtain ⟨hb, p, hp, hl⟩ := choose_is hc
   refine ⟨i, l, p, rfl, ?_, fun _ => ⟨rfl, hp, hb⟩, fun j hj => ?_⟩
   · simp only [told]
     rw [h1, if_neg (by decide), if_neg h2, hc]
     simp only [hp]
   · rw [hl] at hj
     obtain ⟨a, ha, _⟩ := cand_is hj
     exact ⟨a, ha⟩
theorem drop_at {α : Type} {L : List α} {k : Nat} {j : α} (h : L[k]? = some j) : L.drop k = j :: L.drop (k + 1) := by
 obtain ⟨h1, h2⟩ := List.getElem?_eq_some_iff.1 h
 rw [← h2]; exact List.drop_eq_getElem_cons h1
section
variable {E : SE} {rec_ : Words → List Words × Bool} {sd : Bool} {p : GPat} {W : Words} {L : List Nat} {k j : Nat} {a : GA} {held : Bool}
theorem loop_skip (hj : L[k]? = some j) (h : E.skip j = true) : toldLoop E rec_ sd p W (L.drop k) held = toldLoop E rec_ sd p W (L.drop (k + 1)) held := by
 rw [drop_at hj]; simp only [toldLoop]; rw [if_pos h]
theorem loop_miss (hj : L[k]? = some j) (h : E.skip j = false) (ha : E.facts[j]? = some a) (hm : (matchP p a W).2 = false) :
 toldLoop E rec_ sd p W (L.drop k) held = if held && sd then ([], held) else toldLoop E rec_ sd p W (L.drop (k + 1)) held := by
 rw [drop_at hj]; simp only [toldLoop, h, ha, hm, Bool.false_eq_true, if_false]
theorem loop_hit (hj : L[k]? = some j) (h : E.skip j = false) (ha : E.facts[j]? = some a) (hm : (matchP p a W).2 = true) :
 toldLoop E rec_ sd p W (L.drop k) held = if (held || (rec_ (matchP p a W).1).2) && sd then ((rec_ (matchP p a W).1).1, held || (rec_ (matchP p a W).1).2)
  else ((rec_ (matchP p a W).1).1 ++ (toldLoop E rec_ sd p W (L.drop (k + 1)) (held || (rec_ (matchP p a W).1).2)).1, (toldLoop E rec_ sd p W (L.drop (k + 1)) (held || (rec_ (matchP p a W).1).2)).2) := by
 rw [drop_at hj]; simp only [toldLoop, h, ha, hm, Bool.false_eq_true, if_false, if_true]
theorem hit_feed {σ : Type} {tell : σ → Words → σ × Bool} {sk : σ} (hj : L[k]? = some j) (h : E.skip j = false) (ha : E.facts[j]? = some a) (hm : (matchP p a W).2 = true) :
 ((feed tell (rec_ (matchP p a W).1).1 sk).2 = false → feed tell (toldLoop E rec_ sd p W (L.drop k) held).1 sk = ((feed tell (rec_ (matchP p a W).1).1 sk).1, false)) ∧
 ((feed tell (rec_ (matchP p a W).1).1 sk).2 = true → ((held || (rec_ (matchP p a W).1).2) && sd) = true → feed tell (toldLoop E rec_ sd p W (L.drop k) held).1 sk = ((feed tell (rec_ (matchP p a W).1).1 sk).1, true) ∧ (toldLoop E rec_ sd p W (L.drop k) held).2 = (held || (rec_ (matchP p a W).1).2)) ∧
 ((feed tell (rec_ (matchP p a W).1).1 sk).2 = true → ((held || (rec_ (matchP p a W).1).2) && sd) = false → feed tell (toldLoop E rec_ sd p W (L.drop k) held).1 sk = feed tell (toldLoop E rec_ sd p W (L.drop (k + 1)) (held || (rec_ (matchP p a W).1).2)).1 (feed tell (rec_ (matchP p a W).1).1 sk).1 ∧
   (toldLoop E rec_ sd p W (L.drop k) held).2 = (toldLoop E rec_ sd p W (L.drop (k + 1)) (held || (rec_ (matchP p a W).1).2)).2) := by
 rw [loop_hit hj h ha hm]
 generalize hr : rec_ (matchP p a W).1 = r
 rcases hf : feed tell r.1 sk with ⟨s2, b⟩
 refine ⟨fun h1 => ?_, fun h1 h2 => ?_, fun h1 h2 => ?_⟩
 · simp only at h1; subst h1
   split
   · exact hf
   · simp only [feed_append, hf]; rfl
 · simp only at h1; subst h1
   rw [if_pos h2]; exact ⟨hf, rfl⟩
 · simp only at h1; subst h1
   rw [if_neg (by rw [h2]; decide)]
   refine ⟨?_, rfl⟩
   simp only [feed_append, hf]; rfl
theorem hit_room {σ : Type} {tell : σ → Words → σ × Bool} {rank : σ → Nat} {N : Nat} {sk : σ} (up : ∀ st W, rank (tell st W).1 ≤ rank st + 1) (hj : L[k]? = some j) (h : E.skip j = false) (ha : E.facts[j]? = some a) (hm : (matchP p a W).2 = true)
 (hr : rank sk + (toldLoop E rec_ sd p W (L.drop k) held).1.length ≤ N) :
 rank sk + (rec_ (matchP p a W).1).1.length ≤ N ∧ (((held || (rec_ (matchP p a W).1).2) && sd) = false → rank (feed tell (rec_ (matchP p a W).1).1 sk).1 + (toldLoop E rec_ sd p W (L.drop (k + 1)) (held || (rec_ (matchP p a W).1).2)).1.length ≤ N) := by
 rw [loop_hit hj h ha hm] at hr
 have h1 := feed_rank up (rec_ (matchP p a W).1).1 sk
 split at hr
 · rename_i hc
   exact ⟨hr, fun h2 => by rw [hc] at h2; cases h2⟩
 · rename_i hc
   simp only [List.length_append] at hr
   exact ⟨by omega, fun _ => by omega⟩
theorem miss_room {σ : Type} {rank : σ → Nat} {N : Nat} {sk : σ} (hj : L[k]? = some j) (h : E.skip j = false) (ha : E.facts[j]? = some a) (hm : (matchP p a W).2 = false)
 (hr : rank sk + (toldLoop E rec_ sd p W (L.drop k) held).1.length ≤ N) : (held && sd) = false → rank sk + (toldLoop E rec_ sd p W (L.drop (k + 1)) held).1.length ≤ N := fun h2 => by
 rw [loop_miss hj h ha hm, if_neg (by rw [h2]; decide)] at hr
 exact hr
theorem miss_feed {σ : Type} {tell : σ → Words → σ × Bool} {sk : σ} (hj : L[k]? = some j) (h : E.skip j = false) (ha : E.facts[j]? = some a) (hm : (matchP p a W).2 = false) :
 ((held && sd) = true → feed tell (toldLoop E rec_ sd p W (L.drop k) held).1 sk = (sk, true) ∧ (toldLoop E rec_ sd p W (L.drop k) held).2 = held) ∧
 ((held && sd) = false → feed tell (toldLoop E rec_ sd p W (L.drop k) held).1 sk = feed tell (toldLoop E rec_ sd p W (L.drop (k + 1)) held).1 sk ∧ (toldLoop E rec_ sd p W (L.drop k) held).2 = (toldLoop E rec_ sd p W (L.drop (k + 1)) held).2) := by
 rw [loop_miss hj h ha hm]
 refine ⟨fun h2 => ?_, fun h2 => ?_⟩
 · rw [if_pos h2]; exact ⟨rfl, rfl⟩
 · rw [if_neg (by rw [h2]; decide)]; exact ⟨rfl, rfl⟩
end
theorem matched_fit {S T : Sea} {l : List Nat} (h : Matched S T l) (hb : S.cnt ≤ S.bd.length) (hT : T.bd.length = 12) : S.cnt ≤ T.cnt ∧ T.cnt ≤ 12 ∧ ∀ i, i < T.cnt → T.bd.getD i 0 < 12 := by
 have h1 := h.ok.len
 have h2 : (T.bd.take T.cnt).length = T.cnt := by
  rw [h.bd, List.length_append, List.length_take, h.cnt]; omega
 refine ⟨by rw [h.cnt]; omega, by omega, fun i hi => ?_⟩
 have h3 : T.bd[i]? = some (T.bd[i]'(by omega)) := List.getElem?_eq_getElem _
 rw [List.getD_eq_getElem?_getD, h3]
 have h4 : (T.bd.take T.cnt)[i]? = some (T.bd[i]'(by omega)) := by rw [List.getElem?_take, if_pos hi, h3]
 exact (h.ok.2 _ (List.mem_of_getElem? h4)).1
theorem same_fit {T Q : Sea} {c : Nat} (h : Same T Q) (hT : c ≤ T.cnt ∧ T.cnt ≤ 12 ∧ ∀ i, i < T.cnt → T.bd.getD i 0 < 12) : c ≤ Q.cnt ∧ Q.cnt ≤ 12 ∧ ∀ i, i < Q.cnt → Q.bd.getD i 0 < 12 := by
 rw [h.cnt]
 refine ⟨hT.1, hT.2.1, fun i hi => ?_⟩
 have h1 := hT.2.2 i hi
 have h2 : Q.bd[i]? = T.bd[i]? := by
  have := congrArg (fun l : List Nat => l[i]?) h.bd
  simpa [List.getElem?_take, hi] using this
 rw [List.getD_eq_getElem?_getD, h2, ← List.getD_eq_getElem?_getD]
 exact h1

end Go.Proofs.YtfjdijakgjhieaaGreat
