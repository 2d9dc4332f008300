/- The walks of the draws: l10Facts, l10Change. -/
import Derived.Test.YthndnkafckapnaaGreatDoorDrawD
import Derived.Test.YthndnkafckapnaaGreatDoorSpecG
namespace Go.Proofs.YthndnkafckapnaaGreatDoor
open Go.RowKit

/-- Drawn atoms are small. -/
def small (a : GA) : Prop := a.n.size ≤ 8 ∧ tiny a.args
def smalls (xs : List GA) : Prop := ∀ x ∈ xs, small x
theorem small_w {a : GA} (h : small a) : wAtom a ≤ 35 := by
  obtain ⟨h1, h2, h3⟩ := h
  unfold wAtom wTerms
  have : (a.args.map wTerm).sum ≤ a.args.length * 8 := by
    generalize a.args = l at h2 h3
    clear h2
    induction l with
    | nil => simp
    | cons t l ih =>
      have := h3 t (by simp)
      have := ih (fun t ht => h3 t (List.mem_cons_of_mem _ ht))
      simp only [List.map_cons, List.sum_cons, List.length_cons, wTerm] at *
      omega
  omega
theorem smalls_w {l : List GA} (h : smalls l) : wAtoms l ≤ l.length * 36 := by
  unfold wAtoms
  have : (l.map wAtom).sum ≤ l.length * 35 := by
    induction l with
    | nil => simp
    | cons t l ih =>
      have := small_w (h t (by simp))
      have := ih (fun t ht => h t (List.mem_cons_of_mem _ ht))
      simp only [List.map_cons, List.sum_cons, List.length_cons] at *
      omega
  omega
theorem putA_mem {xs : List GA} {a x : GA} (h : x ∈ putA xs a) : x ∈ xs ∨ x = a := by
  unfold putA at h
  split at h
  · exact .inl h
  · simp only [List.mem_append, List.mem_singleton] at h
    rcases h with (h | h) | h
    · exact .inl (List.mem_of_mem_take h)
    · exact .inr h
    · exact .inl (List.mem_of_mem_drop h)
theorem putA_len (xs : List GA) (a : GA) : (putA xs a).length ≤ xs.length + 1 := by
  unfold putA
  split
  · omega
  · simp only [List.length_append, List.length_take, List.length_drop, List.length_cons, List.length_nil]; omega
theorem smalls_put {xs : List GA} {a : GA} (h : smalls xs) (ha : small a) : smalls (putA xs a) := fun x hx => by
  rcases putA_mem hx with h1 | rfl
  · exact h x h1
  · exact ha
theorem smalls_less {xs ys : List GA} (h : smalls xs) : smalls (lessA xs ys) := fun x hx => h x (List.mem_filter.1 hx).1

theorem Else.from_ {a b : World} {rb N : Nat} (h : Else rb a b) (hr : rb < N) : Agree (From N) a b := fun i hi hlt => h.agree i (fun e => by subst e; exact absurd hr (Nat.not_lt.2 hi)) hlt

theorem OwnK.else_ {α : Type} {k : Kind α} {S : Nat → Prop} {w w' : World} {v : Value} {xs : List α} {base rb : Nat} {e : TypeId} (h : OwnK k base e S w v xs) (he : Else rb w w') (hb : rb < base) (hS : ¬ S rb) : OwnK k base e S w' v xs :=
  h.agree (fun b hb' hlt => he.agree b (fun e => hS (e ▸ hb')) hlt) (fun g hg => he.agree g (fun e => by have := (h.at_ g hg).1; omega) (h.at_ g hg).2) he.size

set_option maxRecDepth 100000 in
set_option maxHeartbeats 2000000 in
theorem l10FactsK_any (rb m most : Nat) (w : World) (hr : Rd w rb m) (hm : 1 ≤ most ∧ most ≤ 100) (hp : m + 1 + 7 * most ≤ 1000000) :
    Calls Tryz.prog 91 #[.pointer (some ⟨rb, 0, none⟩), .int .i64 most] w fun e w' =>
      (∃ (v : Value) (xs : List GA), e = .returned v ∧ OwnK kAtom w.heap.size 67 (From w.heap.size) w' v xs ∧ xs.length ≤ most ∧ smalls xs) ∧ Rd w' rb (m + 1 + 7 * most) ∧ Else rb w w' := by
  have hrl := hr.lt
  have HR := Lib.hid hr
  obtain ⟨hm1, hm2⟩ := hm
  clear hr
  go_enter Tryz.func91, Tryz.ntmps91
  go_wp2_with (go_at_call 74; refine (rdPick_any rb m most _ ⟨hm1, by omega⟩ (HR.out.ext ((Ext.refl _).alloc _)) (by omega)).mono ?_; rintro e w1 ⟨⟨z, hz, rfl⟩, hr1, he1⟩; have HO1 := Lib.hid ((OwnK.empty (k := kAtom) (S := From w.heap.size) (base := w.heap.size) (e := 67) (w := w) rfl (Nat.le_refl _)).else_ he1 (by omega) (fun h => absurd (show w.heap.size ≤ rb from h) (by omega))); have HR1 := Lib.hid hr1; have HE1 := Lib.hid ((Else.of_ext (rb := rb) ((Ext.refl w).alloc (.cells #[] 67))).trans' he1); clear hr1 he1)
  go_loopw [5, 6] (fun v i wr => ∃ (k M : Nat) (xs : List GA), i = .int .i64 k ∧ k ≤ most ∧ xs.length + k ≤ most ∧ M + 7 * k ≤ m + 1 + 7 * most ∧ Hid (OwnK kAtom w.heap.size 67 (From w.heap.size) wr v xs) ∧ Hid (smalls xs) ∧ Hid (Rd wr rb M) ∧ Hid (Else rb w wr)) (fun _ i _ => (intOf i).toNat)
  case atStart =>
    refine ⟨z, m + 1, [], rfl, by omega, by simp; omega, by omega, HO1, fun x hx => by simp at hx, HR1, HE1⟩
  case round =>
    obtain ⟨k, M, xs, rfl, hk, hxs, hM, hv, hsm, hrd, hel⟩ := hrel
    obtain ⟨A, c, rfl, hc1, hc2⟩ := hv.out.form
    have hsz := hel.out.size
    have HL := Lib.hid (hv.out.list (S' := From w.heap.size) (fun _ h => h) (fun _ h => h))
    by_cases hk0 : 0 < k
    · go_wp2_with (first
        | (go_at_call 119; refine (l10Fact_any rb M _ hrd.out (by omega)).mono ?_; rintro e w2 ⟨⟨a, u, rfl, hu, ha1, ha2⟩, hr2, he2⟩; obtain ⟨B, d, rfl, hd1, hd2⟩ := SliceR.form hu; have HU := Lib.hid hu; have HR2 := Lib.hid hr2; have HE2 := Lib.hid he2; have HS := Lib.hid (show small a from ⟨ha1, ha2⟩); clear hu hr2 he2 ha2)
        | (go_at_call 120; refine (l3Put_own (S := From w.heap.size) (T := From w.heap.size) _ _ xs a _ (AtomsR.imp HL.out (fun _ h => h) (HE2.out.from_ hrl) HE2.out.size) (TermsR.sub HU.out (fromLe (by omega))) (maxOf (by omega)) (by omega)).mono ?_; rintro e w3 ⟨⟨v3, rfl, hv3⟩, hx3⟩; have HV3 := Lib.hid (show OwnK kAtom w.heap.size 67 (From w.heap.size) w3 v3 (putA xs a) from by
            rcases hv3 with hv3 | ⟨rfl, h3⟩
            · exact hv3.sub (Nat.le_trans hsz HE2.out.size) (fun b hb => hb.elim id id)
            · rw [h3]; exact (hv.out.else_ HE2.out hrl (fun h => absurd (show w.heap.size ≤ rb from h) (by omega))).ext hx3); have HX3 := Lib.hid hx3; clear hv3 hx3))
      go_roundw
      case rel =>
        have := putA_len xs a
        exact ⟨k - 1, M + 7, putA xs a, by congr 1; omega, by omega, by omega, by omega, HV3, Lib.hid (smalls_put hsm.out HS.out), Lib.hid (HR2.out.ext HX3.out), Lib.hid ((hel.out.trans' HE2.out).trans' (Else.of_ext HX3.out))⟩
      case measure => simp [intOf]; omega
    · go_wp2
      go_ret
      exact ⟨⟨_, xs, rfl, hv.out, by omega, hsm.out⟩, hrd.out.le (by omega), hel.out⟩

theorem l10Facts_any (rb m most : Nat) (w : World) (hr : Rd w rb m) (hm : 1 ≤ most ∧ most ≤ 100) (hp : m + 1 + 7 * most ≤ 1000000) :
    Calls Tryz.prog 91 #[.pointer (some ⟨rb, 0, none⟩), .int .i64 most] w fun e w' =>
      (∃ (v : Value) (xs : List GA), e = .returned v ∧ AtomsR (From w.heap.size) w' v xs ∧ xs.length ≤ most ∧ smalls xs) ∧ Rd w' rb (m + 1 + 7 * most) ∧ Else rb w w' :=
  (l10FactsK_any rb m most w hr hm hp).mono fun e w' ⟨⟨v, xs, h1, h2, h3⟩, h4⟩ => ⟨⟨v, xs, h1, h2.list (S' := From w.heap.size) (fun _ h => h) (fun _ h => h), h3⟩, h4⟩

end Go.Proofs.YthndnkafckapnaaGreatDoor
