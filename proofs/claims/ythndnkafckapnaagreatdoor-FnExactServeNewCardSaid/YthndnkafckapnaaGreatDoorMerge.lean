/- The walk of the program's merge of two sorted lists of facts: what it yields, one by one. -/
import Derived.Test.YthndnkafckapnaaGreatDoorImplC
import Derived.RangeFuncNested
import Derived.RangeFuncBound
import Derived.RangeFuncCalls
import Derived.RangeFuncLeaves
import Derived.RangeFuncWrites
import Derived.Shelf.Abstract
import Derived.Shelf.RegionOpen
import Derived.OwnWalkIn
import Derived.TacticsInMore
import Derived.LoopNIn
import Derived.LoopIn
namespace Go.Proofs.YthndnkafckapnaaGreatDoor
open Go.RowKit Go.Shelf

attribute [local go_sem] Oper.semAt_some

/-- What the merge yields: a fact, its terms' slice, and in which list it is (0, 1, both: 2). -/
structure ME where
  x : GA
  v : Value
  s : Int

def encME (e : ME) : Array Value := #[.agg #[.string e.x.n, e.v], .int .i64 e.s]

/-- A fact with the slice value that holds its terms. -/
abbrev P2 : Type := GA × Value

def mergeN : Nat → List P2 → List P2 → List ME
  | 0, _, _ => []
  | _ + 1, [], [] => []
  | n + 1, x :: xs, [] => ⟨x.1, x.2, 0⟩ :: mergeN n xs []
  | n + 1, [], y :: ys => ⟨y.1, y.2, 1⟩ :: mergeN n [] ys
  | n + 1, x :: xs, y :: ys =>
    if cmpA x.1 y.1 < 0 then ⟨x.1, x.2, 0⟩ :: mergeN n xs (y :: ys)
    else if 0 < cmpA x.1 y.1 then ⟨y.1, y.2, 1⟩ :: mergeN n (x :: xs) ys
    else ⟨x.1, x.2, 2⟩ :: mergeN n xs ys
def mergeP (xs ys : List P2) : List ME := mergeN (xs.length + ys.length) xs ys

theorem mergeN_nil (n : Nat) : mergeN n [] [] = [] := by cases n <;> rfl
theorem mergeN_more : ∀ (n : Nat) (xs ys : List P2), xs.length + ys.length ≤ n → mergeN (n + 1) xs ys = mergeN n xs ys
  | 0, [], [], _ => rfl
  | 0, _ :: _, _, h => by simp at h
  | 0, [], _ :: _, h => by simp at h
  | n + 1, [], [], _ => rfl
  | n + 1, x :: xs, [], h => by
    have ih := mergeN_more n xs [] (by simp at h ⊢; omega)
    rw [mergeN, ih, ← mergeN]
  | n + 1, [], y :: ys, h => by
    have ih := mergeN_more n [] ys (by simp at h ⊢; omega)
    rw [mergeN, ih, ← mergeN]
  | n + 1, x :: xs, y :: ys, h => by
    have i1 := mergeN_more n xs (y :: ys) (by simp at h ⊢; omega)
    have i2 := mergeN_more n (x :: xs) ys (by simp at h ⊢; omega)
    have i3 := mergeN_more n xs ys (by simp at h ⊢; omega)
    rw [mergeN, i1, i2, i3, ← mergeN]
theorem mergeN_enough (n : Nat) (xs ys : List P2) (h : xs.length + ys.length ≤ n) : mergeN n xs ys = mergeP xs ys := by
  induction n with
  | zero =>
    have h1 : xs = [] := List.eq_nil_of_length_eq_zero (by omega)
    have h2 : ys = [] := List.eq_nil_of_length_eq_zero (by omega)
    subst h1; subst h2; rfl
  | succ n ih =>
    by_cases hn : xs.length + ys.length ≤ n
    · rw [mergeN_more n xs ys hn, ih hn]
    · have : n + 1 = xs.length + ys.length := by omega
      rw [this]; rfl

theorem mergeP_nil : mergeP [] [] = [] := rfl
theorem mergeP_left (x : P2) (xs : List P2) : mergeP (x :: xs) [] = ⟨x.1, x.2, 0⟩ :: mergeP xs [] := by
  unfold mergeP; rw [show (x :: xs).length + ([] : List P2).length = (xs.length + 0) + 1 from by simp, mergeN]; rfl
theorem mergeP_right (y : P2) (ys : List P2) : mergeP [] (y :: ys) = ⟨y.1, y.2, 1⟩ :: mergeP [] ys := by
  unfold mergeP; rw [show ([] : List P2).length + (y :: ys).length = (0 + ys.length) + 1 from by simp, mergeN]; rfl
theorem mergeP_lt {x y : P2} (xs ys : List P2) (h : cmpA x.1 y.1 < 0) : mergeP (x :: xs) (y :: ys) = ⟨x.1, x.2, 0⟩ :: mergeP xs (y :: ys) := by
  rw [← mergeN_enough ((xs.length + ys.length + 1) + 1) (x :: xs) (y :: ys) (by simp; omega), mergeN, if_pos h, mergeN_enough _ _ _ (by simp; omega)]
theorem mergeP_gt {x y : P2} (xs ys : List P2) (h : 0 < cmpA x.1 y.1) : mergeP (x :: xs) (y :: ys) = ⟨y.1, y.2, 1⟩ :: mergeP (x :: xs) ys := by
  rw [← mergeN_enough ((xs.length + ys.length + 1) + 1) (x :: xs) (y :: ys) (by simp; omega), mergeN, if_neg (by omega), if_pos h, mergeN_enough _ _ _ (by simp; omega)]
theorem mergeP_eq {x y : P2} (xs ys : List P2) (h : cmpA x.1 y.1 = 0) : mergeP (x :: xs) (y :: ys) = ⟨x.1, x.2, 2⟩ :: mergeP xs ys := by
  rw [← mergeN_enough ((xs.length + ys.length + 1) + 1) (x :: xs) (y :: ys) (by simp; omega), mergeN, if_neg (by omega), if_neg (by omega), mergeN_enough _ _ _ (by omega)]

/-- The cells of a fact, its slice value named. -/
def PairE (S : Nat → Prop) (w : World) (cs : List Value) (p : P2) : Prop := cs = [.string p.1.n, p.2] ∧ p.1.n.size ≤ maxLen ∧ TermsR S w p.2 p.1.args
def AtomsP (S : Nat → Prop) : World → Value → List P2 → Prop := SliceR S 2 (PairE S)

theorem AtomsP.imp {S S' : Nat → Prop} {w w' : World} {v : Value} {xs : List P2} (h : AtomsP S w v xs) (hS : ∀ b, S b → S' b) (he : Agree S w w') (hsz : w.heap.size ≤ w'.heap.size) : AtomsP S' w' v xs :=
  SliceR.imp (fun _ _ _ h => ⟨h.1, h.2.1, h.2.2.imp hS he hsz⟩) hS h he hsz
theorem AtomsP.ext {S : Nat → Prop} {w w' : World} {v : Value} {xs : List P2} (h : AtomsP S w v xs) (he : Ext w w') : AtomsP S w' v xs := h.imp (fun _ h => h) (.of_ext he) he.size

theorem AtomsP.at_ {S : Nat → Prop} {w : World} {A : Option Addr} {n c : Nat} {xs : List P2} (h : AtomsP S w (.slice A n c) xs) {k : Nat} (hk : k < n) :
    ∃ (b off : Nat) (x : P2), A = some ⟨b, off, none⟩ ∧ b < w.heap.size ∧ xs[k]? = some x ∧ x.1.n.size ≤ maxLen ∧ TermsR S w x.2 x.1.args ∧
      w.cell? ⟨b, off + k * 2, none⟩ = some (.string x.1.n) ∧ w.cell? ⟨b, off + k * 2 + 1, none⟩ = some x.2 := by
  obtain ⟨b, off, x, cs, hA, hb, hx, _, hc, rfl, hs, ht⟩ := SliceR.at_ h hk
  exact ⟨b, off, x, hA, hb, hx, hs, ht, hc 0 _ rfl, hc 1 _ rfl⟩

theorem choose_list {α β : Type} (R : Nat → α → β → Prop) : ∀ (xs : List α) (k : Nat), (∀ (i : Nat) (x : α), xs[i]? = some x → ∃ y, R (k + i) x y) → ∃ ys : List β, ys.length = xs.length ∧ ∀ (i : Nat) (x : α) (y : β), xs[i]? = some x → ys[i]? = some y → R (k + i) x y
  | [], _, _ => ⟨[], rfl, fun i x y h => by simp at h⟩
  | x :: xs, k, h => by
    obtain ⟨y, hy⟩ := h 0 x rfl
    obtain ⟨ys, hl, hr⟩ := choose_list R xs (k + 1) (fun i z hz => by
      have := h (i + 1) z (by simpa using hz)
      rwa [show k + (i + 1) = k + 1 + i from by omega] at this)
    refine ⟨y :: ys, by simp [hl], fun i a b ha hb => ?_⟩
    cases i with
    | zero => simp at ha hb; subst ha; subst hb; exact hy
    | succ i =>
      have := hr i a b (by simpa using ha) (by simpa using hb)
      rwa [show k + 1 + i = k + (i + 1) from by omega] at this

/-- Each fact with its slice value. -/
theorem AtomsR.pairs {S : Nat → Prop} {w : World} {v : Value} {xs : List GA} (h : AtomsR S w v xs) : ∃ ps : List P2, ps.map (·.1) = xs ∧ AtomsP S w v ps := by
  obtain ⟨A, c, hv, h1, h2, h3⟩ := h
  by_cases h0 : 0 < xs.length
  · obtain ⟨b, off, hA, hb, hs, hc⟩ := h3 h0
    obtain ⟨ys, hl, hr⟩ := choose_list (fun i (x : GA) (u : Value) => w.cell? ⟨b, off + (i * 2 + 0), none⟩ = some (.string x.n) ∧ w.cell? ⟨b, off + (i * 2 + 1), none⟩ = some u ∧ x.n.size ≤ maxLen ∧ TermsR S w u x.args) xs 0
      (fun i x hx => by
        obtain ⟨cs, hcl, hcs, u, rfl, hn, ht⟩ := hc i x hx
        exact ⟨u, by simpa using hcs 0 _ rfl, by simpa using hcs 1 _ rfl, hn, ht⟩)
    refine ⟨xs.zip ys, by rw [List.map_fst_zip (by omega)], A, c, ?_, ?_, h2, fun _ => ⟨b, off, hA, hb, hs, fun i p hp => ?_⟩⟩
    · rw [hv]; simp [hl]
    · simp [hl]; exact h1
    · rw [List.getElem?_zip_eq_some] at hp
      have := hr i p.1 p.2 hp.1 hp.2
      rw [Nat.zero_add] at this
      refine ⟨[.string p.1.n, p.2], rfl, fun j u hu => ?_, rfl, this.2.2.1, this.2.2.2⟩
      match j, hu with
      | 0, hu => simp at hu; subst hu; exact this.1
      | 1, hu => simp at hu; subst hu; exact this.2.1
  · have : xs = [] := List.eq_nil_of_length_eq_zero (by omega)
    subst this
    exact ⟨[], rfl, A, c, hv, h1, h2, fun h => absurd h (by simp)⟩

/-- What a round that goes on must keep: the blocks of R that were there. -/
def KeepR (R : Nat → Prop) (W W' : World) : Prop := W.heap.size ≤ W'.heap.size ∧ Agree R W W'
theorem KeepR.trans {R : Nat → Prop} {A B C : World} (h : KeepR R A B) (k : KeepR R B C) : KeepR R A C := ⟨Nat.le_trans h.1 k.1, h.2.trans' k.2 h.1⟩
theorem KeepR.of_ext {R : Nat → Prop} {A B : World} (h : Ext A B) : KeepR R A B := ⟨h.size, .of_ext h⟩
theorem KeepR.cell {R : Nat → Prop} {A B : World} (h : KeepR R A B) {b o : Nat} {u : Value} (hb : R b) (hc : A.cell? ⟨b, o, none⟩ = some u) : B.cell? ⟨b, o, none⟩ = some u :=
  (World.cell?_of_block (w := A) (a := ⟨b, o, none⟩) (h.2 b hb (cell_lt hc))).trans hc

theorem grown_ext {A B : World} (h : Ext A B) : A.grownBy B none := ⟨h.os, h.tape, h.output, h.size, fun k hk _ => h.block k hk⟩

set_option maxRecDepth 100000 in
set_option maxHeartbeats 4000000 in
theorem merge1_stops (n : Nat) (hn : 1 ≤ n) (B1 B2 : Nat) (R : Nat → Prop) (w : World) (s1 s2 : Value) (ps qs : List P2)
    (hB1 : R B1) (hB2 : R B2) (c10 : w.cell? ⟨B1, 0, none⟩ = some s1) (c11 : w.cell? ⟨B1, 1, none⟩ = some (.func (.func 159) #[] #[]))
    (c20 : w.cell? ⟨B2, 0, none⟩ = some s2) (h1 : AtomsP R w s1 ps) (h2 : AtomsP R w s2 qs) :
    SeqStopsK Fence.wide n Tryz.prog 160 #[.pointer (some ⟨B1, 0, none⟩), .pointer (some ⟨B2, 0, none⟩)] encME (KeepR R) (fun L => L = mergeP ps qs) (fun pre => pre <+: mergeP ps qs) (mergeP ps qs).length w := by
  intro l J Jx W hW hJ hJx hY h0
  obtain ⟨A1, d1, rfl, hd1, hd1'⟩ := SliceR.form h1
  obtain ⟨A2, d2, rfl, hd2, hd2'⟩ := SliceR.form h2
  have hw0 : KeepR R w W := .of_ext hW
  have HY := Lib.hid hY
  have HJ := Lib.hid hJ
  have H1 := Lib.hid h1
  have H2 := Lib.hid h2
  have HB1 := Lib.hid hB1
  have HB2 := Lib.hid hB2
  have C10 := Lib.hid c10
  have C11 := Lib.hid c11
  have C20 := Lib.hid c20
  clear hY hJ hJx h1 h2 c10 c11 c20 hW hB1 hB2
  refine callsIn_of_wp Tryz.func160 rfl trivial ?_ rfl
  simp only [Tryz.ntmps160, List.size_toArray, List.length_cons, List.length_nil, Nat.reduceAdd, Nat.reduceSub, Array.replicate_succ, Array.replicate_zero, List.push_toArray, List.append_toArray, List.nil_append, List.cons_append]
  gi_wp2
  gi_loopw [4, 5] (fun i j wr => ∃ (a b : Nat) (pre : List ME), (a ≤ ps.length ∧ b ≤ qs.length) ∧ i = .int .i64 a ∧ j = .int .i64 b ∧ Hid (mergeP ps qs = pre ++ mergeP (ps.drop a) (qs.drop b)) ∧ J pre wr ∧ KeepR R w wr) (fun i j _ => (ps.length - (intOf i).toNat) + (qs.length - (intOf j).toNat))
  case atStart => exact ⟨0, 0, [], ⟨Nat.zero_le _, Nat.zero_le _⟩, rfl, rfl, rfl, h0, hw0⟩
  case round =>
    obtain ⟨a, b, pre, ⟨ha, hb⟩, rfl, rfl, hm, hJs, hk⟩ := hrel
    have e10 := hk.cell HB1.out C10.out
    have e11 := hk.cell HB1.out C11.out
    have e20 := hk.cell HB2.out C20.out
    have hl1 := cell_lt e10
    have hl2 := cell_lt e20
    have hga : ¬ a < ps.length → ps.drop a = [] := fun h => List.drop_eq_nil_of_le (by omega)
    have hgb : ¬ b < qs.length → qs.drop b = [] := fun h => List.drop_eq_nil_of_le (by omega)
    have HGA := Lib.hid hga
    have HGB := Lib.hid hgb
    clear hga hgb
    by_cases h1 : a < ps.length
    · obtain ⟨ba, offa, x, rfl, hba, hxk, hxs, htx, hx0, hx1⟩ := AtomsP.at_ (H1.out.imp (fun _ h => h) hk.2 hk.1) h1
      have HDX := Lib.hid (drop_cons hxk)
      have HTX := Lib.hid htx
      have t1 : decide (a < ps.length) = true := decide_eq_true h1
      have t2 : (((a : Nat) : Int) == ((ps.length : Nat) : Int)) = false := by rw [beq_eq_false_iff_ne]; omega
      have hi0 : (0 : Int) ≤ (a : Int) := Int.natCast_nonneg _
      have hi1 : (a : Int) < (ps.length : Int) := by omega
      clear hxk htx
      by_cases h2 : b < qs.length
      · obtain ⟨bb, offb, y, rfl, hbb, hyk, hys, hty, hy0, hy1⟩ := AtomsP.at_ (H2.out.imp (fun _ h => h) hk.2 hk.1) h2
        have HDY := Lib.hid (drop_cons hyk)
        have HTY := Lib.hid hty
        have t3 : decide (b < qs.length) = true := decide_eq_true h2
        have t4 : (((b : Nat) : Int) == ((qs.length : Nat) : Int)) = false := by rw [beq_eq_false_iff_ne]; omega
        have hj0 : (0 : Int) ≤ (b : Int) := Int.natCast_nonneg _
        have hj1 : (b : Int) < (qs.length : Int) := by omega
        have HC := Lib.hid (fun (W : World) (h : Ext wr W) => order_any x.1 y.1 x.2 y.2 W (HTX.out.ext h) (HTY.out.ext h))
        clear hyk hty
        gi_wp2
        refine wpIn_wide.2 (calm_region (by kernel_rfl) (by kernel_rfl) ?_)
        repeat (go_big_quiet_step ((go_at_call 159; exact calm_call (HC.out _ (Later.ext _)))))
        refine wpQuiet_nil ?_
        rintro w1 ⟨⟨_, hx⟩, rfl⟩
        have hJ1 : J pre w1 := HJ.out _ _ _ none hJs (grown_ext hx) (fun r e => by cases e)
        have hk1 : KeepR R w w1 := hk.trans (.of_ext hx)
        have hz := hx.size
        have hl1' : B1 < w1.heap.size := by omega
        have hl2' : B2 < w1.heap.size := by omega
        have hba' : ba < w1.heap.size := by omega
        have hbb' : bb < w1.heap.size := by omega
        have f10 := (KeepR.of_ext (R := Any) hx).cell trivial e10
        have f20 := (KeepR.of_ext (R := Any) hx).cell trivial e20
        have fx0 := (KeepR.of_ext (R := Any) hx).cell trivial hx0
        have fx1 := (KeepR.of_ext (R := Any) hx).cell trivial hx1
        have fy0 := (KeepR.of_ext (R := Any) hx).cell trivial hy0
        have fy1 := (KeepR.of_ext (R := Any) hx).cell trivial hy1
        clear hz e10 e11 e20 hx0 hx1 hy0 hy1 hl1 hl2 hba hbb hJs hx HC
        rcases Int.lt_trichotomy (cmpA x.1 y.1) 0 with hc | hc | hc
        · have HM := Lib.hid (show mergeP ps qs = pre ++ (⟨x.1, x.2, 0⟩ :: mergeP (ps.drop (a + 1)) (qs.drop b)) from by rw [hm.out, HDX.out, HDY.out, mergeP_lt _ _ hc])
          have HM2 := Lib.hid (show mergeP ps qs = (pre ++ [(⟨x.1, x.2, 0⟩ : ME)]) ++ mergeP (ps.drop (a + 1)) (qs.drop b) from by rw [HM.out, List.append_assoc]; rfl)
          obtain ⟨fn, tmps, assign, body, hy, hR⟩ := HY.out pre (⟨x.1, x.2, 0⟩ : ME) w1 hJ1 (by rw [HM.out]; simp)
          dsimp only [encME] at hy
          have HR := Lib.hid hR
          clear hR
          gi_wp2
          refine HR.out.mono ?_
          rintro e W3 (⟨rfl, hJ3, hk3⟩ | ⟨rfl, hJx3⟩)
          · gi_wp2
            go_roundw
            case rel => exact ⟨(a + 1), b, pre ++ [_], ⟨by omega, by omega⟩, by go_num, rfl, HM2, hJ3, hk1.trans hk3⟩
            case measure => simp [intOf]; omega
          · gi_wp2
            refine bodyPost_ret (results_none rfl _ _ _) rfl ?_
            exact ⟨⟨_, rfl⟩, .inr ⟨pre ++ [_], ⟨_, HM2.out.symm⟩, hJx3⟩⟩
        · have HM := Lib.hid (show mergeP ps qs = pre ++ (⟨x.1, x.2, 2⟩ :: mergeP (ps.drop (a + 1)) (qs.drop (b + 1))) from by rw [hm.out, HDX.out, HDY.out, mergeP_eq _ _ hc])
          have hc1 : ¬ cmpA x.1 y.1 < 0 := by omega
          have hc2 : ¬ 0 < cmpA x.1 y.1 := by omega
          clear hc
          have HM2 := Lib.hid (show mergeP ps qs = (pre ++ [(⟨x.1, x.2, 2⟩ : ME)]) ++ mergeP (ps.drop (a + 1)) (qs.drop (b + 1)) from by rw [HM.out, List.append_assoc]; rfl)
          obtain ⟨fn, tmps, assign, body, hy, hR⟩ := HY.out pre (⟨x.1, x.2, 2⟩ : ME) w1 hJ1 (by rw [HM.out]; simp)
          dsimp only [encME] at hy
          have HR := Lib.hid hR
          clear hR
          gi_wp2
          refine HR.out.mono ?_
          rintro e W3 (⟨rfl, hJ3, hk3⟩ | ⟨rfl, hJx3⟩)
          · gi_wp2
            go_roundw
            case rel => exact ⟨(a + 1), (b + 1), pre ++ [_], ⟨by omega, by omega⟩, by go_num, by go_num, HM2, hJ3, hk1.trans hk3⟩
            case measure => simp [intOf]; omega
          · gi_wp2
            refine bodyPost_ret (results_none rfl _ _ _) rfl ?_
            exact ⟨⟨_, rfl⟩, .inr ⟨pre ++ [_], ⟨_, HM2.out.symm⟩, hJx3⟩⟩
        · have HM := Lib.hid (show mergeP ps qs = pre ++ (⟨y.1, y.2, 1⟩ :: mergeP (ps.drop a) (qs.drop (b + 1))) from by rw [hm.out, HDX.out, HDY.out, mergeP_gt _ _ hc])
          have HM2 := Lib.hid (show mergeP ps qs = (pre ++ [(⟨y.1, y.2, 1⟩ : ME)]) ++ mergeP (ps.drop a) (qs.drop (b + 1)) from by rw [HM.out, List.append_assoc]; rfl)
          obtain ⟨fn, tmps, assign, body, hy, hR⟩ := HY.out pre (⟨y.1, y.2, 1⟩ : ME) w1 hJ1 (by rw [HM.out]; simp)
          dsimp only [encME] at hy
          have HR := Lib.hid hR
          clear hR
          gi_wp2
          refine HR.out.mono ?_
          rintro e W3 (⟨rfl, hJ3, hk3⟩ | ⟨rfl, hJx3⟩)
          · gi_wp2
            go_roundw
            case rel => exact ⟨a, (b + 1), pre ++ [_], ⟨by omega, by omega⟩, rfl, by go_num, HM2, hJ3, hk1.trans hk3⟩
            case measure => simp [intOf]; omega
          · gi_wp2
            refine bodyPost_ret (results_none rfl _ _ _) rfl ?_
            exact ⟨⟨_, rfl⟩, .inr ⟨pre ++ [_], ⟨_, HM2.out.symm⟩, hJx3⟩⟩
      · have HM := Lib.hid (show mergeP ps qs = pre ++ (⟨x.1, x.2, 0⟩ :: mergeP (ps.drop (a + 1)) (qs.drop b)) from by rw [hm.out, HGB.out h2, HDX.out, mergeP_left])
        have t3 : decide (b < qs.length) = false := decide_eq_false h2
        have t4 : (((b : Nat) : Int) == ((qs.length : Nat) : Int)) = true := by rw [beq_iff_eq]; omega
        have HM2 := Lib.hid (show mergeP ps qs = (pre ++ [(⟨x.1, x.2, 0⟩ : ME)]) ++ mergeP (ps.drop (a + 1)) (qs.drop b) from by rw [HM.out, List.append_assoc]; rfl)
        obtain ⟨fn, tmps, assign, body, hy, hR⟩ := HY.out pre (⟨x.1, x.2, 0⟩ : ME) wr hJs (by rw [HM.out]; simp)
        dsimp only [encME] at hy
        have HR := Lib.hid hR
        clear hR
        gi_wp2
        refine HR.out.mono ?_
        rintro e W3 (⟨rfl, hJ3, hk3⟩ | ⟨rfl, hJx3⟩)
        · gi_wp2
          go_roundw
          case rel => exact ⟨(a + 1), b, pre ++ [_], ⟨by omega, by omega⟩, by go_num, rfl, HM2, hJ3, hk.trans hk3⟩
          case measure => simp [intOf]; omega
        · gi_wp2
          refine bodyPost_ret (results_none rfl _ _ _) rfl ?_
          exact ⟨⟨_, rfl⟩, .inr ⟨pre ++ [_], ⟨_, HM2.out.symm⟩, hJx3⟩⟩
    · have t1 : decide (a < ps.length) = false := decide_eq_false h1
      have t2 : (((a : Nat) : Int) == ((ps.length : Nat) : Int)) = true := by rw [beq_iff_eq]; omega
      by_cases h2 : b < qs.length
      · obtain ⟨bb, offb, y, rfl, hbb, hyk, hys, hty, hy0, hy1⟩ := AtomsP.at_ (H2.out.imp (fun _ h => h) hk.2 hk.1) h2
        have HM := Lib.hid (show mergeP ps qs = pre ++ (⟨y.1, y.2, 1⟩ :: mergeP (ps.drop a) (qs.drop (b + 1))) from by rw [hm.out, HGA.out h1, drop_cons hyk, mergeP_right])
        have t3 : decide (b < qs.length) = true := decide_eq_true h2
        have hj0 : (0 : Int) ≤ (b : Int) := Int.natCast_nonneg _
        have hj1 : (b : Int) < (qs.length : Int) := by omega
        clear hyk hty
        have HM2 := Lib.hid (show mergeP ps qs = (pre ++ [(⟨y.1, y.2, 1⟩ : ME)]) ++ mergeP (ps.drop a) (qs.drop (b + 1)) from by rw [HM.out, List.append_assoc]; rfl)
        obtain ⟨fn, tmps, assign, body, hy, hR⟩ := HY.out pre (⟨y.1, y.2, 1⟩ : ME) wr hJs (by rw [HM.out]; simp)
        dsimp only [encME] at hy
        have HR := Lib.hid hR
        clear hR
        gi_wp2
        refine HR.out.mono ?_
        rintro e W3 (⟨rfl, hJ3, hk3⟩ | ⟨rfl, hJx3⟩)
        · gi_wp2
          go_roundw
          case rel => exact ⟨a, (b + 1), pre ++ [_], ⟨by omega, by omega⟩, rfl, by go_num, HM2, hJ3, hk.trans hk3⟩
          case measure => simp [intOf]; omega
        · gi_wp2
          refine bodyPost_ret (results_none rfl _ _ _) rfl ?_
          exact ⟨⟨_, rfl⟩, .inr ⟨pre ++ [_], ⟨_, HM2.out.symm⟩, hJx3⟩⟩
      · have HM := Lib.hid (show mergeP ps qs = pre from by rw [hm.out, HGA.out h1, HGB.out h2, mergeP_nil, List.append_nil])
        have t3 : decide (b < qs.length) = false := decide_eq_false h2
        gi_wp2
        go_end0
        exact ⟨⟨_, rfl⟩, .inl ⟨_, HM.out.symm, hJs⟩⟩

end Go.Proofs.YthndnkafckapnaaGreatDoor
