/- Proved here, for all inputs and without conditions: the given statement of the law FnAsk. -/
import Derived.Test.YtfjdijakgjhieaaGreatBas23
import Derived.Test.YtfjdijakgjhieaaGreatBas01
import Derived.Test.YtfjdijakgjhieaaGreatBas30
set_option linter.unusedSimpArgs false
set_option linter.unusedVariables false
namespace Go.Proofs.YtfjdijakgjhieaaGreat
open Go.RowKit

/-! ### Two bodies that share no variable -/
theorem askW_ok {xs : List GA} (hx : factsB xs 300 = true) {ps : List GP} (hp : askOkB ps = true) : askW xs ps = askN xs ps (varsN ps) := by unfold askW; rw [hx, hp]; rfl
end Go.Proofs.YtfjdijakgjhieaaGreat

namespace Go.Proofs.YtfjdijakgjhieaaGreat
open Go.RowKit

def askVarsN (ps : List GP) : List ByteArray := if askOkB ps then varsN ps else []

set_option maxRecDepth 100000 in
set_option maxHeartbeats 1000000 in
theorem implAskVars_any (ps : List GP) (u : Value) (w : World) {S : Nat → Prop} (hu : PartsR S w u ps) :
 Calls Tryz.prog 30 #[u] w fun e w' => (∃ v', e = .returned v' ∧ StrsR (From w.heap.size) w' v' (askVarsN ps)) ∧ Ext w w' := by
 obtain ⟨A, c, rfl, hc1, hc2⟩ := SliceR.form hu
 have HU := Lib.hid hu
 have HAO := Lib.hid (askOk_any ps _ w hu)
 clear hu
 cases ha : askOkB ps
 · rw [ha] at HAO
   have HR := Lib.hid (show askVarsN ps = [] from by unfold askVarsN; rw [ha]; rfl)
   clear ha
   go_enter Tryz.func30, Tryz.ntmps30
   go_wp2_with (first
    | (go_at_call 44; refine HAO.out.mono ?_; rintro e w1 ⟨rfl, hx1⟩; have HX1 := Lib.hid hx1; clear hx1)
    | fail)
   go_ret
   exact ⟨⟨_, rfl, by rw [HR.out]; exact SliceR.nil_ 0 (Nat.zero_le _) _⟩, HX1.out⟩
 · obtain ⟨_, hpl, hpo, _⟩ := askOk_parts ha
   rw [ha] at HAO
   have HR := Lib.hid (show askVarsN ps = varsN ps from by unfold askVarsN; rw [ha]; rfl)
   have HBV := Lib.hid (fun (W : World) (hW : Ext w W) => bodyVars_any ps _ W (HU.out.ext hW) (fun p hp => by have := atomOk_few (hpo p hp); omega) hpl)
   clear ha hpo
   go_enter Tryz.func30, Tryz.ntmps30
   go_wp2_with (first
    | (go_at_call 44; refine HAO.out.mono ?_; rintro e w1 ⟨rfl, hx1⟩; have HX1 := Lib.hid hx1; have hw1 := hx1.size; clear hx1)
    | (go_at_call 69; refine (HBV.out _ HX1.out).mono ?_; rintro e w2 ⟨⟨v2, rfl, hv2⟩, hx2⟩
       obtain ⟨B, d, rfl, _, _⟩ := SliceR.form hv2
       have HV2 := Lib.hid hv2
       have HX2 := Lib.hid (HX1.out.trans' hx2); clear hx2 hv2)
    | fail)
   go_ret
   exact ⟨⟨_, rfl, by rw [HR.out]; exact StrsR.sub HV2.out (fromLe hw1)⟩, HX2.out⟩

set_option maxRecDepth 100000 in
set_option maxHeartbeats 1000000 in
theorem specAskVars_any (ps : List GP) (u : Value) (w : World) {S : Nat → Prop} (hu : PartsR S w u ps) :
 Calls Tryz.prog 33 #[u] w fun e w' => (∃ v', e = .returned v' ∧ StrsR Any w' v' (askVarsN ps)) ∧ Ext w w' := by
 obtain ⟨A, c, rfl, hc1, hc2⟩ := SliceR.form hu
 have HU := Lib.hid hu
 have HAO := Lib.hid (specAskOk_any ps _ w hu)
 clear hu
 cases ha : askOkB ps
 · rw [ha] at HAO
   have HR := Lib.hid (show askVarsN ps = [] from by unfold askVarsN; rw [ha]; rfl)
   clear ha
   go_enter Tryz.func33, Tryz.ntmps33
   go_wp2_with (first
    | (go_at_call 29; refine HAO.out.mono ?_; rintro e w1 ⟨rfl, hx1⟩; have HX1 := Lib.hid hx1; clear hx1)
    | fail)
   go_ret
   exact ⟨⟨_, rfl, by rw [HR.out]; exact SliceR.nil_ 0 (Nat.zero_le _) _⟩, HX1.out.alloc _⟩
 · obtain ⟨_, hpl, hpo, _⟩ := askOk_parts ha
   rw [ha] at HAO
   have HR := Lib.hid (show askVarsN ps = varsN ps from by unfold askVarsN; rw [ha]; rfl)
   have HBV := Lib.hid (fun (W : World) (hW : Ext w W) => l5Vars_any ps _ W (HU.out.ext hW) (fun p hp => by have := atomOk_few (hpo p hp); omega) hpl)
   clear ha hpo
   go_enter Tryz.func33, Tryz.ntmps33
   go_wp2_with (first
    | (go_at_call 29; refine HAO.out.mono ?_; rintro e w1 ⟨rfl, hx1⟩; have HX1 := Lib.hid hx1; have hw1 := hx1.size; clear hx1)
    | (go_at_call 70; refine (HBV.out _ HX1.out).mono ?_; rintro e w2 ⟨⟨v2, rfl, hv2⟩, hx2⟩
       obtain ⟨B, d, rfl, _, _⟩ := SliceR.form hv2
       have HV2 := Lib.hid hv2
       have HX2 := Lib.hid (HX1.out.trans' hx2); clear hx2 hv2)
    | fail)
   go_ret
   exact ⟨⟨_, rfl, by rw [HR.out]; exact StrsR.sub HV2.out (fun _ _ => trivial)⟩, HX2.out⟩

end Go.Proofs.YtfjdijakgjhieaaGreat

namespace Go.Proofs.YtfjdijakgjhieaaGreat
open Go.RowKit

/-- One term of an atom, filled in as a row says. -/
def fillRT (vs row : List ByteArray) (t : GT) : GT := if t.v then (match idxB vs t.n with | some i => ⟨false, row.getD i noWord⟩ | none => t) else t
def fillR (vs row : List ByteArray) (a : GA) : GA := ⟨a.n, a.args.map (fillRT vs row)⟩
theorem fill_in {xs : List GA} (hx : factsB xs 300 = true) {ps : List GP} (hp : askOkB ps = true) {r : List ByteArray} (hr : r ∈ askW xs ps) {p : GP} (hm : p ∈ ps) : fillR (varsN ps) r p.atom ∈ xs ↔ p.no = false := by
 rw [askW_ok hx hp] at hr
 obtain ⟨σ, rfl, hs⟩ := (ask_iff (askable hp) (factsB_asc hx)).1 hr
 rw [← hs p hm]
 have hv : ∀ f ∈ xs, ∀ t ∈ f.args, t.v = false := fun f hf t ht => by
  unfold factsB at hx
  simp only [Bool.and_eq_true, List.all_eq_true] at hx
  have h1 := hx.1.1
  have h2 : factB f = true := by
   first
    | exact h1.2 f hf
    | exact h1 f hf
    | exact List.all_eq_true.1 h1.2 f hf
  unfold factB at h2
  simp only [Bool.and_eq_true, List.all_eq_true] at h2
  have h3 := h2.2 t ht
  simpa using h3
 have he : p.atom.args.map (fillRT (varsN ps) ((varsN ps).map σ)) = p.atom.args.map (fun t => (⟨false, valS σ t⟩ : GT)) := List.map_congr_left fun t ht => by
  unfold fillRT valS
  by_cases htv : t.v = true
  · rw [if_pos htv, if_pos htv]
    have hmem : t.n ∈ varsN ps := varsN_mem.2 ⟨p, hm, varsOf_mem.2 ⟨t, ht, htv, rfl⟩⟩
    obtain ⟨i, hi⟩ := List.getElem?_of_mem hmem
    rw [idx_nodup (varsN_asc ps).nodup hi]
    show (⟨false, ((varsN ps).map σ).getD i noWord⟩ : GT) = ⟨false, σ t.n⟩
    rw [List.getD_eq_getElem?_getD, List.getElem?_map, hi]; rfl
  · rw [if_neg htv, if_neg htv]
    have h2 : t.v = false := by simpa using htv
    obtain ⟨v, n⟩ := t
    simp only at h2
    subst h2; rfl
 unfold HoldsS fillR
 rw [he]
 constructor
 · intro h
   exact ⟨_, h, rfl, by simp only [List.map_map]; rfl⟩
 · rintro ⟨f, hf, h1, h2⟩
   have hfa : f.args = (f.args.map (·.n)).map (fun x => (⟨false, x⟩ : GT)) := by
    rw [List.map_map]
    refine (List.map_id f.args).symm.trans (List.map_congr_left fun t ht => ?_)
    have := hv f hf t ht
    obtain ⟨v, n⟩ := t
    simp only at this
    subst this; rfl
   rw [h2, List.map_map] at hfa
   have : f = ⟨p.atom.n, p.atom.args.map (fun t => (⟨false, valS σ t⟩ : GT))⟩ := by
    obtain ⟨fn, fargs⟩ := f
    simp only at h1 hfa
    subst h1
    rw [hfa]; rfl
   rw [← this]; exact hf
theorem row_len {xs : List GA} {ps : List GP} {r : List ByteArray} (hr : r ∈ askW xs ps) : r.length = (varsN ps).length := by
 unfold askW at hr
 split at hr
 · rw [askN_mem] at hr
   obtain ⟨b, _, rfl⟩ := hr
   unfold rowB
   rw [List.length_map]
 · cases hr
theorem rows_apart {xs : List GA} {ps : List GP} {i : Nat} {r s : List ByteArray} (h1 : (askW xs ps)[i]? = some r) (h2 : (askW xs ps)[i + 1]? = some s) : r ≠ s := by
 unfold askW at h1 h2
 split at h1
 · rename_i hc
   rw [if_pos hc] at h2
   have ha := askN_asc xs ps (varsN ps)
   intro he
   subst he
   obtain ⟨k1, e1⟩ := List.getElem?_eq_some_iff.1 h1
   obtain ⟨k2, e2⟩ := List.getElem?_eq_some_iff.1 h2
   have := List.pairwise_iff_getElem.1 ha i (i + 1) k1 k2 (by omega)
   rw [e1, e2, self_zero cmpR_total] at this
   omega
 · cases h1

end Go.Proofs.YtfjdijakgjhieaaGreat

namespace Go.Proofs.YtfjdijakgjhieaaGreat
open Go.RowKit

theorem list_ext_upto {α : Type} {xs ys : List α} (hl : xs.length = ys.length) (h : ∀ i, i < xs.length → xs[i]? = ys[i]?) : xs = ys := by
 apply List.ext_getElem?
 intro i
 rcases Nat.lt_or_ge i xs.length with hi | hi
 · exact h i hi
 · rw [List.getElem?_eq_none hi, List.getElem?_eq_none (by omega)]

set_option maxRecDepth 100000 in
set_option maxHeartbeats 1000000 in
theorem fsTexts_any (v u : Value) (xs ys : List ByteArray) (w : World) {S T : Nat → Prop} (hv : StrsR S w v xs) (hu : StrsR T w u ys) :
 Calls Tryz.prog 32 #[v, u] w fun e w' => (∃ b : Bool, e = .returned (.bool b) ∧ (b = true ↔ xs = ys)) ∧ Ext w w' := by
 obtain ⟨A, c, rfl, hc1, hc2⟩ := SliceR.form hv
 obtain ⟨B, d, rfl, hd1, hd2⟩ := SliceR.form hu
 have HV := Lib.hid hv
 have HU := Lib.hid hu
 clear hv hu
 by_cases hl : xs.length = ys.length
 · have HL := Lib.hid hl
   go_enter Tryz.func32, Tryz.ntmps32
   rw [← hl]
   clear hl
   go_wp2
   go_loopw [5] (fun i wr => ∃ k : Nat, k ≤ xs.length ∧ i = .int .i64 k ∧ Hid (∀ i, i < k → xs[i]? = ys[i]?) ∧ Ext w wr) (fun i _ => xs.length - (intOf i).toNat)
   case atStart => exact ⟨0, Nat.zero_le _, rfl, Lib.hid (fun i h => absurd h (Nat.not_lt_zero _)), Ext.refl _⟩
   case round =>
    obtain ⟨k, hk, rfl, hp, hx⟩ := hrel
    by_cases hlt : k < xs.length
    · have HU2 := HU.out.ext hx
      rw [← HL.out] at HU2
      obtain ⟨b, off, x, rfl, hb, hxk, hxs, c0⟩ := StrsR.at_ (HV.out.ext hx) hlt
      obtain ⟨b2, off2, y, rfl, hb2, hyk, hys, d0⟩ := StrsR.at_ (HU.out.ext hx) (k := k) (by rw [← HL.out]; exact hlt)
      clear HU2
      have hk0 : (0 : Int) ≤ (k : Int) := Int.natCast_nonneg _
      have hk1 : (k : Int) < (xs.length : Int) := by omega
      by_cases hxy : x = y
      · subst hxy
        have h3 : (x.toList == x.toList) = true := beq_self_eq_true _
        have HP := Lib.hid (show ∀ i, i < k + 1 → xs[i]? = ys[i]? from fun i hi => by
         rcases Nat.lt_or_ge i k with h | h
         · exact hp.out i h
         · have e : i = k := by omega
           subst e
           rw [hxk, hyk])
        clear hxk hyk hp
        go_wp2_with fail
        go_still_tail 8, (by kernel_rfl)
        change wpList _ _ _ _ _ wr.drew
        clear hb hb2 c0 d0
        go_wp2
        go_roundw
        case rel => exact ⟨k + 1, by omega, by go_num, HP, hx.drew⟩
        case measure => simp [intOf]; omega
      · have h3 : (x.toList == y.toList) = false := str_ne' hxy
        have HP := Lib.hid (show xs ≠ ys from fun e => hxy (by subst e; rw [hxk] at hyk; injection hyk))
        clear hxk hyk hp hxy
        go_wp2_with fail
        go_still_tail 8, (by kernel_rfl)
        change wpList _ _ _ _ _ wr.drew
        clear hb hb2 c0 d0
        go_wp2
        go_ret
        exact ⟨⟨false, rfl, by simp [HP.out]⟩, hx.drew⟩
    · have HP := Lib.hid (show xs = ys from list_ext_upto HL.out (fun i hi => hp.out i (by omega)))
      clear hp
      go_wp2
      go_ret
      exact ⟨⟨true, rfl, by simp [HP.out]⟩, hx⟩
 · go_enter Tryz.func32, Tryz.ntmps32
   have hl2 : ¬ (xs.length : Int) = (ys.length : Int) := by omega
   have HL := Lib.hid hl
   clear hl
   go_wp2
   go_ret
   exact ⟨⟨false, rfl, by simp; exact fun e => HL.out (by rw [e])⟩, Ext.refl _⟩

theorem atom_ext {a b : GA} (hn : a.n = b.n) (h : a.args = b.args) : a = b := by cases a; cases b; simp only at hn h; subst hn; subst h; rfl
theorem term_ne {x y : GT} (h : x ≠ y) : x.v ≠ y.v ∨ x.n ≠ y.n := by
 by_cases hv : x.v = y.v
 · right; intro hn; apply h; cases x; cases y; simp only at hv hn; subst hv; subst hn; rfl
 · exact .inl hv


set_option maxRecDepth 100000 in
set_option maxHeartbeats 2000000 in
theorem fsAtom_any (a b : GA) (v u : Value) (w : World) {S T : Nat → Prop} (hv : TermsR S w v a.args) (hu : TermsR T w u b.args) :
 Calls Tryz.prog 71 #[.agg #[.string a.n, v], .agg #[.string b.n, u]] w fun e w' => (∃ t : Bool, e = .returned (.bool t) ∧ (t = true ↔ a = b)) ∧ Ext w w' := by
 obtain ⟨A, c, rfl, hc1, hc2⟩ := SliceR.form hv
 obtain ⟨B, d, rfl, hd1, hd2⟩ := SliceR.form hu
 obtain ⟨W, hW⟩ : ∃ W, W = (w.alloc (.cells #[.string a.n, .slice A a.args.length c] 26)).alloc (.cells #[.string b.n, .slice B b.args.length d] 26) := ⟨_, rfl⟩
 have hB1 : Blk W w.heap.size 26 #[.string a.n, .slice A a.args.length c] := by rw [hW]; exact (Blk.new _ _ _).alloc _
 have hB2 : Blk W (w.heap.size + 1) 26 #[.string b.n, .slice B b.args.length d] := by rw [hW]; exact Blk.at_new (by simp)
 have HX := Lib.hid (show Ext w W from by rw [hW]; exact ((Ext.refl _).alloc _).alloc _)
 have HB1 := Lib.hid hB1
 have HB2 := Lib.hid hB2
 have HV := Lib.hid (hv.ext HX.out)
 have HU := Lib.hid (hu.ext HX.out)
 have q0 := hB1.cell 0
 have q1 := hB1.cell 1
 have p0 := hB2.cell 0
 have p1 := hB2.cell 1
 have hl1 := hB1.lt
 have hl2 := hB2.lt
 clear hv hu hB1 hB2
 by_cases hn : a.n = b.n
 · have e0 : (a.n.toList == b.n.toList) = true := by rw [hn]; exact beq_self_eq_true _
   have HN := Lib.hid hn
   by_cases hl : a.args.length = b.args.length
   · have e1 : (a.args.length : Int) = (b.args.length : Int) := by omega
     have HL := Lib.hid hl
     clear hn hl
     go_enter Tryz.func71, Tryz.ntmps71
     go_wp2_with fail
     rw [← hW]
     clear hW
     go_wp2
     clear q0 q1 p0 p1 e1 e0
     go_loopw [5] (fun i wr => ∃ k : Nat, k ≤ a.args.length ∧ i = .int .i64 k ∧ Hid (∀ i, i < k → a.args[i]? = b.args[i]?) ∧ Ext W wr) (fun i _ => a.args.length - (intOf i).toNat)
     case atStart => exact ⟨0, Nat.zero_le _, rfl, Lib.hid (fun i h => absurd h (Nat.not_lt_zero _)), Ext.refl _⟩
     case round =>
      obtain ⟨k, hk, rfl, hp, hx⟩ := hrel
      have q0 := (HB1.out.ext hx).cell 0
      have q1 := (HB1.out.ext hx).cell 1
      have q2 := (HB2.out.ext hx).cell 0
      have q3 := (HB2.out.ext hx).cell 1
      by_cases hlt : k < a.args.length
      · obtain ⟨b1, off, x, rfl, hb, hxk, hxs, hc0, hc1⟩ := TermsR.at_ (HV.out.ext hx) hlt
        obtain ⟨b', off', x', rfl, hb', hxk', hxs', hc0', hc1'⟩ := TermsR.at_ (HU.out.ext hx) (k := k) (by rw [← HL.out]; exact hlt)
        have hk0 : (0 : Int) ≤ (k : Int) := Int.natCast_nonneg _
        have hk1 : (k : Int) < (a.args.length : Int) := by omega
        have hk2 : (k : Int) < (b.args.length : Int) := by have := HL.out; omega
        by_cases hxx : x = x'
        · subst hxx
          have HP := Lib.hid (show ∀ i, i < k + 1 → a.args[i]? = b.args[i]? from fun i hi => by
           rcases Nat.lt_or_ge i k with h | h
           · exact hp.out i h
           · have e : i = k := by omega
             subst e
             rw [hxk, hxk'])
          clear hxk hxk' hp
          go_wp2_with fail
          go_quiet (fail)
          go_wp2
          go_roundw
          case rel => exact ⟨k + 1, by omega, by go_num, HP, hx.drewN _⟩
          case measure => simp [intOf]; omega
        · have HP := Lib.hid (show a ≠ b from fun e => hxx (by subst e; rw [hxk] at hxk'; injection hxk'))
          rcases term_ne hxx with hne | hne
          · have e2 : (x.v == x'.v) = false := by simpa using hne
            clear hxk hxk' hp hxx hne
            go_wp2_with fail
            go_quiet (fail)
            go_wp2
            go_ret
            exact ⟨⟨false, rfl, by simp [HP.out]⟩, HX.out.trans' (hx.drewN _)⟩
          · have e2 : (x.n.toList == x'.n.toList) = false := str_ne' hne
            clear hxk hxk' hp hxx hne
            go_wp2_with fail
            go_quiet (fail)
            go_wp2
            go_ret
            exact ⟨⟨false, rfl, by simp [HP.out]⟩, HX.out.trans' (hx.drewN _)⟩
      · have HP := Lib.hid (show a = b from atom_ext HN.out (list_ext_upto HL.out (fun i hi => hp.out i (by omega))))
        clear hp
        go_wp2
        go_ret
        exact ⟨⟨true, rfl, by simp [HP.out]⟩, HX.out.trans' hx⟩
   · have e1 : ¬ (a.args.length : Int) = (b.args.length : Int) := by omega
     have HP := Lib.hid (show a ≠ b from fun e => hl (by rw [e]))
     clear hn hl
     go_enter Tryz.func71, Tryz.ntmps71
     go_wp2_with fail
     rw [← hW]
     clear hW
     go_wp2
     go_ret
     exact ⟨⟨false, rfl, by simp [HP.out]⟩, HX.out⟩
 · have e0 : (a.n.toList == b.n.toList) = false := str_ne' hn
   have HP := Lib.hid (show a ≠ b from fun e => hn (by rw [e]))
   clear hn
   go_enter Tryz.func71, Tryz.ntmps71
   go_wp2_with fail
   rw [← hW]
   clear hW
   go_wp2
   go_ret
   exact ⟨⟨false, rfl, by simp [HP.out]⟩, HX.out⟩

set_option maxRecDepth 100000 in
set_option maxHeartbeats 1000000 in
theorem fsHas_any (a : GA) (v u : Value) (xs : List GA) (w : World) {S T : Nat → Prop} (hv : AtomsR S w v xs) (hu : TermsR T w u a.args) :
 Calls Tryz.prog 34 #[v, .agg #[.string a.n, u]] w fun e w' => (∃ t : Bool, e = .returned (.bool t) ∧ (t = true ↔ a ∈ xs)) ∧ Ext w w' := by
 obtain ⟨A, c, rfl, hc1, hc2⟩ := SliceR.form hv
 obtain ⟨B, d, rfl, hd1, hd2⟩ := SliceR.form hu
 obtain ⟨W, hW⟩ : ∃ W, W = w.alloc (.cells #[.string a.n, .slice B a.args.length d] 26) := ⟨_, rfl⟩
 have HX := Lib.hid (show Ext w W from by rw [hW]; exact (Ext.refl _).alloc _)
 have HB1 := Lib.hid (show Blk W w.heap.size 26 #[.string a.n, .slice B a.args.length d] from by rw [hW]; exact Blk.new _ _ _)
 have HV := Lib.hid (hv.ext HX.out)
 have HU := Lib.hid (hu.ext HX.out)
 have hl1 := HB1.out.lt
 clear hv hu
 go_enter Tryz.func34, Tryz.ntmps34
 go_wp2_with fail
 rw [← hW]
 clear hW
 go_loopw [5] (fun i wr => ∃ k : Nat, k ≤ xs.length ∧ i = .int .i64 k ∧ Hid (∀ (i : Nat) (y : GA), i < k → xs[i]? = some y → y ≠ a) ∧ Ext W wr) (fun i _ => xs.length - (intOf i).toNat)
 case atStart => exact ⟨0, Nat.zero_le _, rfl, Lib.hid (fun i y h => absurd h (Nat.not_lt_zero _)), Ext.refl _⟩
 case round =>
  obtain ⟨k, hk, rfl, hp, hx⟩ := hrel
  have hk0 : (0 : Int) ≤ (k : Int) := Int.natCast_nonneg _
  have q0 := (HB1.out.ext hx).cell 0
  have q1 := (HB1.out.ext hx).cell 1
  have hlw := Nat.lt_of_lt_of_le hl1 hx.size
  by_cases hlt : k < xs.length
  · obtain ⟨b, off, x, v1, rfl, hb, hxk, hxs, ht1, hc0, hc1⟩ := AtomsR.at_ (HV.out.ext hx) hlt
    obtain ⟨C1, c1, rfl, _, _⟩ := SliceR.form ht1
    have hk1 : (k : Int) < (xs.length : Int) := by omega
    have HT1 := Lib.hid (ht1.ext (Ext.refl _).drew)
    have HFA := Lib.hid (fsAtom_any x a _ _ wr.drew HT1.out ((HU.out.ext hx).ext (Ext.refl _).drew))
    have HXK := Lib.hid hxk
    clear hxk ht1
    go_wp2_with fail
    go_still_tail 5, (by kernel_rfl)
    change wpList _ _ _ _ _ wr.drew
    clear hb hc0 hc1 q0 q1
    go_wp2_with (go_at_call 71; refine HFA.out.mono ?_; rintro e w1 ⟨⟨t, rfl, ht⟩, hx1⟩; have HX1 := Lib.hid hx1; have HTT := Lib.hid ht; clear hx1 ht)
    · have htt : t = true := by assumption
      have HM := Lib.hid (show a ∈ xs from by rw [← HTT.out.1 htt]; exact List.mem_of_getElem? HXK.out)
      clear hp
      go_ret
      exact ⟨⟨true, rfl, by simp [HM.out]⟩, HX.out.trans' (hx.drew.trans' HX1.out)⟩
    · have htt : t = false := by first | assumption | (cases t <;> simp_all)
      go_roundw
      case rel =>
       exact ⟨k + 1, by omega, by go_num, Lib.hid (fun i y hi hy => by
        rcases Nat.lt_or_ge i k with h | h
        · exact hp.out i y h hy
        · have e : i = k := by omega
          subst e
          have h1 := HXK.out
          rw [hy] at h1; injection h1 with h1
          subst h1
          intro e
          have := HTT.out.2 e
          rw [htt] at this; cases this), hx.drew.trans' HX1.out⟩
      case measure => simp [intOf]; omega
  · have HN := Lib.hid (show a ∉ xs from fun hm => by
      obtain ⟨i, hi⟩ := List.getElem?_of_mem hm
      exact hp.out i a (by have := (List.getElem?_eq_some_iff.1 hi).1; omega) hi rfl)
    clear hp
    go_wp2
    go_ret
    exact ⟨⟨false, rfl, by simp [HN.out]⟩, HX.out.trans' hx⟩

end Go.Proofs.YtfjdijakgjhieaaGreat

namespace Go.Proofs.YtfjdijakgjhieaaGreat
open Go.RowKit

set_option maxRecDepth 100000 in
set_option maxHeartbeats 4000000 in
theorem fsFill_any (a : GA) (vs row : List ByteArray) (v x y : Value) (w : World) {S V U : Nat → Prop} (hv : TermsR S w v a.args) (hx : StrsR V w x vs) (hy : StrsR U w y row) (hl : row.length = vs.length) (hn : a.args.length ≤ 1000000) :
 Calls Tryz.prog 35 #[.agg #[.string a.n, v], x, y] w fun e w' => (∃ v', e = .returned (.agg #[.string a.n, v']) ∧ TermsR (From w.heap.size) w' v' (fillR vs row a).args) ∧ Ext w w' := by
 obtain ⟨A, c, rfl, hc1, hc2⟩ := SliceR.form hv
 obtain ⟨B, d, rfl, hd1, hd2⟩ := SliceR.form hx
 obtain ⟨D, f, rfl, hf1, hf2⟩ := SliceR.form hy
 obtain ⟨i0, hi0, hz0, hz1, hz2⟩ := info_parts term_info
 have HV := Lib.hid hv
 have HVS := Lib.hid hx
 have HRW := Lib.hid hy
 have HL := Lib.hid hl
 obtain ⟨W0, hW0⟩ : ∃ W0, W0 = ((w.alloc (.cells #[.string a.n, .slice A a.args.length c] 26)).alloc (.cells #[.string ⟨#[]⟩, .slice none 0 0] 26)).alloc (.cells #[.string a.n, .slice none 0 0] 26) := ⟨_, rfl⟩
 have HB0 := Lib.hid (show Blk W0 w.heap.size 26 #[.string a.n, .slice A a.args.length c] from by rw [hW0]; exact ((Blk.new _ _ _).alloc _).alloc _)
 have HB2 := Lib.hid (show Blk W0 (w.heap.size + 1) 26 #[.string ⟨#[]⟩, .slice none 0 0] from by rw [hW0]; exact (Blk.at_new (by simp)).alloc _)
 have HB3 := Lib.hid (show Blk W0 (w.heap.size + 1 + 1) 26 #[.string a.n, .slice none 0 0] from by rw [hW0]; exact Blk.at_new (by simp))
 have HE0 := Lib.hid (show Ext w W0 from by rw [hW0]; exact (((Ext.refl _).alloc _).alloc _).alloc _)
 have hz : W0.heap.size = w.heap.size + 1 + 1 + 1 := by rw [hW0]; simp
 have HW0 := Lib.hid hW0
 have HZ := Lib.hid hz
 clear hv hx hy hl
 go_enter Tryz.func35, Tryz.ntmps35
 go_wp2
 rw [← HW0.out]
 clear hW0 hz
 go_loopw [8] (fun i wr => ∃ (k : Nat) (u : Value), k ≤ a.args.length ∧ i = .int .i64 k ∧ Hid (Blk wr (w.heap.size + 1 + 1) 26 #[.string a.n, u]) ∧ Hid (OwnK kTerm (w.heap.size + 1 + 1 + 1) 33 None wr u ((a.args.take k).map (fillRT vs row))) ∧ Hid (Below (w.heap.size + 1 + 1) W0 wr)) (fun i _ => a.args.length - (intOf i).toNat)
 case atStart => exact ⟨0, _, Nat.zero_le _, rfl, HB3, Lib.hid OwnK.nil, Lib.hid (Below.refl _ _)⟩
 case round =>
  obtain ⟨k, u, hk, rfl, hob, hown, hbel⟩ := hrel
  have hk0 : (0 : Int) ≤ (k : Int) := by omega
  have hbsz := hbel.out.size
  rw [HZ.out] at hbsz
  have hxw : Ext w wr := Below.trans HE0.out (hbel.out.mono (by omega))
  obtain ⟨OA, on, oc, rfl, hon, ho1, ho2⟩ := hown.out.form2
  have hb0 := HB0.out.below hbel.out (by omega)
  have hb2 := HB2.out.below hbel.out (by omega)
  have q0 := hb0.cell 0
  have q1 := hb0.cell 1
  have o0 := hob.out.cell 0
  have o1 := hob.out.cell 1
  have hs0 := hb0.lt
  have hs2 := hb2.lt
  have hs3 := hob.out.lt
  have hlk : ((a.args.take k).map (fillRT vs row)).length = k := by rw [List.length_map, List.length_take]; omega
  have HLK := Lib.hid hlk
  clear hlk
  by_cases hlt : k < a.args.length
  · have hk1 : (k : Int) < (a.args.length : Int) := by omega
    obtain ⟨bb, off, t, rfl, hbb, htk, hts, hc0, hc1'⟩ := TermsR.at_ HV.out hlt
    have r0 := (hxw.cells.1 bb (off + k * 2) hbb).trans hc0
    have r1 := (hxw.cells.1 bb (off + k * 2 + 1) hbb).trans hc1'
    have HT := Lib.hid (show (a.args.take (k + 1)).map (fillRT vs row) = (a.args.take k).map (fillRT vs row) ++ [fillRT vs row t] from by
     obtain ⟨hk', rfl⟩ := List.getElem?_eq_some_iff.1 htk
     rw [List.take_succ_eq_append_getElem hk', List.map_append]; rfl)
    have hlb : bb < wr.heap.size := Nat.lt_of_lt_of_le hbb hxw.size
    obtain ⟨tb, htb⟩ : ∃ tb, tb = wr.heap.size := ⟨_, rfl⟩
    obtain ⟨WT, hWT⟩ : ∃ WT, WT = wr.alloc (.cells #[.bool t.v, .string t.n] 33) := ⟨_, rfl⟩
    have HTB := Lib.hid (show Blk WT tb 33 #[.bool t.v, .string t.n] from by rw [hWT, htb]; exact Blk.new _ _ _)
    have HXT := Lib.hid (show Ext wr WT from by rw [hWT]; exact (Ext.refl _).alloc _)
    have HXW := Lib.hid (hxw.trans' HXT.out)
    have HOB := Lib.hid (hob.out.ext HXT.out)
    have HOW := Lib.hid (show OwnK kTerm (w.heap.size + 1 + 1 + 1) 33 None WT (.slice OA on oc) ((a.args.take k).map (fillRT vs row)) from hown.out.ext HXT.out)
    have HLOW := Lib.hid (show ∀ g, (Value.slice OA on oc).ownBlock = some g → g < tb from fun g hg => by rw [htb]; exact (hown.out.at_ g hg).2)
    have HBL := Lib.hid (show Below (w.heap.size + 1 + 1) W0 WT from Below.trans hbel.out (Below.mono HXT.out (by omega)))
    have HTT := Lib.hid (show WT.heap.size = tb + 1 from by rw [hWT, htb]; simp)
    have htw : w.heap.size + 1 + 1 + 1 ≤ tb := by omega
    have HON := Lib.hid hon.out
    have HWT := Lib.hid hWT
    have HTBE := Lib.hid htb
    go_wp2_with fail
    rw [← HTBE.out, ← HWT.out]
    clear htk hc0 hc1' hb0 hb2 hxw hob hown hbel hWT htb r0 r1 o0 o1 hlb hbsz hs0 hs2 hs3 hon q0 q1
    go_loopw [10] (fun j wi => ∃ (q : Nat) (s : GT), j = .int .i64 q ∧ q ≤ vs.length ∧ s.n.size ≤ maxLen ∧ Hid (Blk wi tb 33 #[.bool s.v, .string s.n]) ∧ Hid ((s = t ∧ ∀ (i : Nat) (z : ByteArray), i < q → vs[i]? = some z → z ≠ t.n) ∨ (s = fillRT vs row t ∧ s.v = false)) ∧ Hid (Below tb WT wi)) (fun j _ => vs.length - (intOf j).toNat)
    case atStart => exact ⟨0, t, rfl, Nat.zero_le _, hts, HTB, Lib.hid (.inl ⟨rfl, fun i z h => absurd h (Nat.not_lt_zero _)⟩), Lib.hid (Below.refl _ _)⟩
    case round =>
     obtain ⟨q, s, rfl, hq, hss, hsb, hst, hbw⟩ := hrel
     have hq0 : (0 : Int) ≤ (q : Int) := by omega
     have s0 := hsb.out.cell 0
     have s1 := hsb.out.cell 1
     have sf0 := hsb.out.frozen 0
     have sf1 := hsb.out.frozen 1
     have sl := hsb.out.lt
     have hxi : Ext w wr := Below.trans HXW.out (hbw.out.mono (by omega))
     have htbw : tb ≤ wr.heap.size := by have h := hbw.out.size; rw [HTT.out] at h; omega
     by_cases hgo : q < vs.length ∧ s.v = true
     · obtain ⟨hql, hsv⟩ := hgo
       have hq1 : (q : Int) < (vs.length : Int) := by omega
       have hq2 : (q : Int) < (row.length : Int) := by have := HL.out; omega
       obtain ⟨b1, f1, z, rfl, hb1, hzk, hzs, hz0'⟩ := StrsR.at_ (HVS.out.ext hxi) hql
       obtain ⟨b2, f2, r, rfl, hb2, hrk, hrs, hr0'⟩ := StrsR.at_ (HRW.out.ext hxi) (k := q) (by rw [HL.out]; exact hql)
       rcases hst.out with ⟨rfl, hne⟩ | ⟨_, hf⟩
       rotate_left
       · rw [hsv] at hf; cases hf
       rw [hsv] at s0
       by_cases hzt : z = s.n
       · have h3 : (z.toList == s.n.toList) = true := by rw [hzt]; exact beq_self_eq_true _
         have HFR := Lib.hid (show fillRT vs row s = ⟨false, r⟩ from by
          unfold fillRT
          rw [if_pos hsv, idx_first (by rw [← hzt]; exact hzk) hne]
          show (⟨false, row.getD q noWord⟩ : GT) = ⟨false, r⟩
          rw [List.getD_eq_getElem?_getD, hrk]; rfl)
         clear hzk hrk hne hst hzt
         go_wp2_with fail
         go_quiet (fail)
         go_wp2
         go_roundw
         case rel => exact ⟨q + 1, ⟨false, r⟩, by go_num, by omega, hrs, Lib.hid (((hsb.out.ext ((Ext.refl wr).drewN _)).set_ 0 _).set_ 1 _), Lib.hid (.inr ⟨HFR.out.symm, rfl⟩), Lib.hid (Below.setCell (Below.setCell (Below.trans hbw.out (Below.mono ((Ext.refl wr).drewN _) htbw)) (Nat.le_refl _) _) (Nat.le_refl _) _)⟩
         case measure => simp [intOf]; omega
       · have h3 : (z.toList == s.n.toList) = false := str_ne' hzt
         have HNE := Lib.hid (show ∀ (i : Nat) (u : ByteArray), i < q + 1 → vs[i]? = some u → u ≠ s.n from fun i u hi hu => by
          rcases Nat.lt_or_ge i q with h | h
          · exact hne i u h hu
          · have e : i = q := by omega
            subst e
            rw [hzk] at hu; injection hu with hu
            exact fun e => hzt (hu.trans e))
         clear hzk hrk hne hst hzt
         go_wp2_with fail
         go_quiet (fail)
         go_wp2
         go_roundw
         case rel => exact ⟨q + 1, s, by go_num, by omega, hss, Lib.hid (hsb.out.ext ((Ext.refl wr).drewN _)), Lib.hid (.inl ⟨rfl, HNE.out⟩), Lib.hid (Below.trans hbw.out (Below.mono ((Ext.refl wr).drewN _) htbw))⟩
         case measure => simp [intOf]; omega
     · have HFR := Lib.hid (show fillRT vs row t = s from by
         rcases hst.out with ⟨rfl, hne⟩ | ⟨h, _⟩
         · unfold fillRT
           cases hsv : s.v
           · rfl
           · have hql : vs.length ≤ q := by
               rcases Nat.lt_or_ge q vs.length with h | h
               · exact absurd ⟨h, hsv⟩ hgo
               · exact h
             rw [if_pos rfl, idx_never (fun i y hi hy => hne i y (by omega) hy)]
         · exact h.symm)
       have hobi := HOB.out.below hbw.out (by omega)
       have o0 := hobi.cell 0
       have o1 := hobi.cell 1
       have HOBI := Lib.hid hobi
       have HOWI := Lib.hid (show OwnK kTerm (w.heap.size + 1 + 1 + 1) 33 None wr (.slice OA on oc) ((a.args.take k).map (fillRT vs row)) from HOW.out.agree (fun b hb => hb.elim) (fun g hg => hbw.out.block g (HLOW.out g hg)) hbw.out.size)
       have hol := hobi.lt
       have hszi := hbw.out.size
       rw [HTT.out] at hszi
       clear hst hobi
       have hcase : (q < vs.length ∧ s.v = false) ∨ q = vs.length := by
        rcases Nat.lt_or_ge q vs.length with h | h
        · left
          refine ⟨h, ?_⟩
          cases hsv : s.v
          · rfl
          · exact absurd ⟨h, hsv⟩ hgo
        · right; omega
       clear hgo
       rcases hcase with ⟨hql, hsv⟩ | hql
       all_goals
        first
         | (have hq1 : (q : Int) < (vs.length : Int) := by omega
            rw [hsv] at s0)
         | have hq1 : ¬ (q : Int) < (vs.length : Int) := by omega
        go_wp2_with (first
         | (at_builtin; (refine wpList_appL (k := kTerm) (S := None) (T := None) (base := w.heap.size + 1 + 1 + 1) (xs := (a.args.take k).map (fillRT vs row)) (ys := [fillRT vs row t]) rfl (.tmp 49) (.tmp 51) 24 (by rfl) i0 _ 24 Tryz.underlying24 hi0 hz0 hz1 hz2 (by rfl) (by rfl) (HOWI.out.alloc _) _ 1 1 (by rfl) (ElemsK.one (k := kTerm) (g := wr.heap.size) (x := fillRT vs row t) (Blk.at_new rfl) (by rw [HFR.out]; exact ⟨by first | rfl | simp [hsv], hss⟩)) (fun _ h => h.elim) (maxOf (by rw [HLK.out]; omega)) (by rw [HLK.out]; omega) (by go_size) ?_)
            intro v2 w2 hap
            obtain ⟨B2, n2, d2, rfl, hn2, hd21, hd22⟩ := hap.own.form2
            have HAP := Lib.hid hap
            have hob2 := (HOBI.out.alloc _).below hap.below (by omega)
            have z0 := hob2.cell 0
            have z1 := hob2.cell 1
            have zf := hob2.frozen 1
            have zl := hob2.lt
            have HOB2 := Lib.hid hob2
            clear hap hob2)
         | fail)
        go_roundw
       all_goals first
        | (simp [intOf]; omega; done)
        | (refine ⟨k + 1, _, by omega, by go_num, Lib.hid (by simpa using HOB2.out.set_ 1 (.slice B2 n2 d2)), Lib.hid (by rw [HT.out]; exact HAP.out.own.set (p := ⟨_, 1, none⟩) (Nat.lt_succ_self _) (fun h => h) _), Lib.hid ?_⟩
           refine Below.setCell (Below.trans ?_ (HAP.out.below.mono (show w.heap.size + 1 + 1 ≤ w.heap.size + 1 + 1 + 1 by omega))) (Nat.le_refl _) _
           exact Below.trans (Below.trans HBL.out (hbw.out.mono (by omega))) (Below.mono ((Ext.refl wr).alloc _) (by omega)))
  · have hk1 : ¬ (k : Int) < (a.args.length : Int) := by omega
    have hkk : k = a.args.length := by omega
    have HFI := Lib.hid (show (a.args.take k).map (fillRT vs row) = (fillR vs row a).args from by rw [hkk, List.take_length]; rfl)
    have e0 := hb2.cell 0
    have e1 := hb2.cell 1
    have ef0 := hb2.frozen 0
    have ef1 := hb2.frozen 1
    clear hb0
    go_wp2_with fail
    refine bodyPost_ret (v := .agg #[.string a.n, .slice OA on oc]) (by simp [results, Tryz.results35, go_sem, e0, e1, ef0, ef1, hs2]) rfl ?_
    have hol := hown.out
    rw [HFI.out] at hol
    have hA : Agree (From (w.heap.size + 1 + 1)) wr ((wr.setCell ⟨w.heap.size + 1, 0, none⟩ (.string a.n)).setCell ⟨w.heap.size + 1, 1, none⟩ (.slice OA on oc)) :=
     ((Agree.refl _ _).setCell (fun hb => by have h : w.heap.size + 1 + 1 ≤ w.heap.size + 1 := hb; omega) _).setCell (fun hb => by have h : w.heap.size + 1 + 1 ≤ w.heap.size + 1 := hb; omega) _
    exact ⟨⟨_, rfl, ((show TermsR (From (w.heap.size + 1 + 1)) wr _ _ from hol.list (S' := From (w.heap.size + 1 + 1)) (fun _ h => h.elim) (fun b hb => Nat.le_of_succ_le hb)).imp (fun _ h => h) hA (by go_size)).sub (fromLe (by omega))⟩,
     Ext.setNew (Ext.setNew hxw (by show w.heap.size ≤ w.heap.size + 1; omega) _) (by show w.heap.size ≤ w.heap.size + 1; omega) _⟩

end Go.Proofs.YtfjdijakgjhieaaGreat

namespace Go.Proofs.YtfjdijakgjhieaaGreat
open Go.RowKit

theorem SliceR.sub_any {S : Nat → Prop} {w : World} {v : Value} {xs : List (List ByteArray)} (h : RowsR S w v xs) : RowsR Any w v xs := ListK.sub (k := kRow) h (fun _ _ => trivial)
theorem ask_facts {xs : List GA} {ps : List GP} {r : List ByteArray} (h : r ∈ askW xs ps) : factsB xs 300 = true := by
 cases hx : factsB xs 300
 · unfold askW at h; rw [hx] at h; cases h
 · rfl

set_option maxRecDepth 100000 in
set_option maxHeartbeats 8000000 in
theorem fnAsk_any (HD : DrawAskC) (v : Value) (bs : List UInt8) (w : World) {S : Nat → Prop} (hv : BytesR S w v bs) :
 Calls Tryz.prog 8 #[v] w fun e w' => e = .returned (.bool true) ∧ Ext w w' := by
 obtain ⟨A, c, rfl, hc1, hc2⟩ := SliceR.form hv
 have HV := Lib.hid hv
 have HDD := Lib.hid HD
 clear hv HD
 by_cases h1 : 1048576 < bs.length
 · go_enter Tryz.func8, Tryz.ntmps8
   go_wp2
   go_ret
   exact ⟨rfl, Ext.refl _⟩
 go_enter Tryz.func8, Tryz.ntmps8
 go_wp2_with fail
 refine (HDD.out _ bs _ _ HV.out).mono ?_
 rintro e w1 ⟨⟨xs, ps, v1, u1, rfl, hv1, hu1, hl⟩, hx1⟩
 obtain ⟨B, d, rfl, hd1, hd2⟩ := SliceR.form hv1
 obtain ⟨D, f, rfl, hf1, hf2⟩ := SliceR.form hu1
 have HX1 := Lib.hid hx1
 have HIA := Lib.hid (fun (qs : List GP) (u : Value) (W : World) (T : Nat → Prop) (hW : Ext w1 W) (hu : PartsR T W u qs) => implAsk_any xs qs _ u W (hv1.ext hW) hu)
 have HSA := Lib.hid (fun (W : World) (hW : Ext w1 W) => specAsk_any xs ps _ _ W (hv1.ext hW) (hu1.ext hW))
 have HU1 := Lib.hid hu1
 have HL1 := Lib.hid hv1
 have HAO := Lib.hid (fun (W : World) (hW : Ext w1 W) => specAskOk_any ps _ W (hu1.ext hW))
 have HVI := Lib.hid (fun (W : World) (hW : Ext w1 W) => implAskVars_any ps _ W (hu1.ext hW))
 have HVS := Lib.hid (fun (W : World) (hW : Ext w1 W) => specAskVars_any ps _ W (hu1.ext hW))
 obtain ⟨rows, hrows⟩ : ∃ rows, rows = askW xs ps := ⟨_, rfl⟩
 rw [← hrows] at HSA
 have HRW := Lib.hid hrows
 obtain ⟨vp, hvp⟩ : ∃ vp, vp = askVarsN ps := ⟨_, rfl⟩
 rw [← hvp] at HVI HVS
 have HVPE := Lib.hid hvp
 obtain ⟨ok, hok⟩ : ∃ ok, ok = askOkB ps := ⟨_, rfl⟩
 rw [← hok] at HAO
 have HOK := Lib.hid hok
 clear hv1 hu1 hx1 hrows hok hvp HDD HV
 cases ok
 · go_wp2_with (first
     | (go_at_call 14; refine (HIA.out ps _ _ _ (Ext.refl _) HU1.out).mono ?_; rintro e w2 ⟨⟨r2, rfl, hr2⟩, hx2⟩
        obtain ⟨R2, g2, hr2e, hg21, hg22⟩ := SliceR.form hr2.read
        have HRC := Lib.hid (show RowsR Any w2 r2 rows from by rw [HRW.out]; exact SliceR.sub_any hr2.read)
        rw [← HRW.out] at hr2e
        subst hr2e
        have HXC := Lib.hid hx2
        clear hr2 hx2)
     | (go_at_call 30; refine (HVI.out _ HXC.out).mono ?_; rintro e w3 ⟨⟨v3, rfl, hv3⟩, hx3⟩
        obtain ⟨P3, p3, rfl, _, _⟩ := SliceR.form hv3
        have HVC := Lib.hid (show StrsR Any w3 (.slice P3 vp.length p3) vp from StrsR.sub hv3 (fun _ _ => trivial))
        have HXD := Lib.hid (HXC.out.trans' hx3)
        have HRD := Lib.hid (HRC.out.ext_ hx3)
        clear HXC HRC hx3 hv3
        have HXC := Lib.hid HXD.out
        have HRC := Lib.hid HRD.out
        clear HXD HRD)
     | (go_at_call 17; refine (HSA.out _ HXC.out).mono ?_; rintro e w4 ⟨⟨r4, rfl, hr4⟩, hx4⟩
        have HR4 := Lib.hid hr4
        have HXD := Lib.hid (HXC.out.trans' hx4)
        have HRD := Lib.hid (HRC.out.ext_ hx4)
        have HVD := Lib.hid (HVC.out.ext hx4)
        clear HXC HRC HVC hx4 hr4
        have HXC := Lib.hid HXD.out
        have HRC := Lib.hid HRD.out
        have HVC := Lib.hid HVD.out
        clear HXD HRD HVD)
     | (go_at_call 28; refine (fsRows_same _ _ rows _ HRC.out HR4.out).mono ?_; rintro e w5 ⟨rfl, hx5⟩
        have HXD := Lib.hid (HXC.out.trans' hx5)
        have HRD := Lib.hid (HRC.out.ext_ hx5)
        have HVD := Lib.hid (HVC.out.ext hx5)
        clear HXC HRC HVC HR4 hx5
        have HXC := Lib.hid HXD.out
        have HRC := Lib.hid HRD.out
        have HVC := Lib.hid HVD.out
        clear HXD HRD HVD)
     | (go_at_call 33; refine (HVS.out _ HXC.out).mono ?_; rintro e w6 ⟨⟨v6, rfl, hv6⟩, hx6⟩
        have HV6 := Lib.hid hv6
        have HXD := Lib.hid (HXC.out.trans' hx6)
        have HRD := Lib.hid (HRC.out.ext_ hx6)
        have HVD := Lib.hid (HVC.out.ext hx6)
        clear HXC HRC HVC hx6 hv6
        have HXC := Lib.hid HXD.out
        have HRC := Lib.hid HRD.out
        have HVC := Lib.hid HVD.out
        clear HXD HRD HVD)
     | (go_at_call 32; refine (fsRow_same _ _ vp _ HVC.out HV6.out).mono ?_; rintro e w7 ⟨rfl, hx7⟩
        have HXD := Lib.hid (HXC.out.trans' hx7)
        have HRD := Lib.hid (HRC.out.ext_ hx7)
        have HVD := Lib.hid (HVC.out.ext hx7)
        clear HXC HRC HVC HV6 hx7
        have HXC := Lib.hid HXD.out
        have HRC := Lib.hid HRD.out
        have HVC := Lib.hid HVD.out
        clear HXD HRD HVD)
     | (go_at_call 29; refine (HAO.out _ HXC.out).mono ?_; rintro e w8 ⟨rfl, hx8⟩
        have HXD := Lib.hid (HXC.out.trans' hx8)
        have HRD := Lib.hid (HRC.out.ext_ hx8)
        have HVD := Lib.hid (HVC.out.ext hx8)
        clear HXC HRC HVC hx8
        have HXC := Lib.hid HXD.out
        have HRC := Lib.hid HRD.out
        have HVC := Lib.hid HVD.out
        clear HXD HRD HVD)
     | fail)
   go_ret
   exact ⟨rfl, HX1.out.trans' HXC.out⟩
 · have HVN := Lib.hid (show vp = varsN ps from by rw [HVPE.out]; unfold askVarsN; rw [← HOK.out]; rfl)
   go_wp2_with (first
    | (go_at_call 14; refine (HIA.out ps _ _ _ (Ext.refl _) HU1.out).mono ?_; rintro e w2 ⟨⟨r2, rfl, hr2⟩, hx2⟩
       obtain ⟨R2, g2, hr2e, hg21, hg22⟩ := SliceR.form hr2.read
       have HRC := Lib.hid (show RowsR Any w2 r2 rows from by rw [HRW.out]; exact SliceR.sub_any hr2.read)
       rw [← HRW.out] at hr2e
       subst hr2e
       have HXC := Lib.hid hx2
       clear hr2 hx2)
    | (go_at_call 30; refine (HVI.out _ HXC.out).mono ?_; rintro e w3 ⟨⟨v3, rfl, hv3⟩, hx3⟩
       obtain ⟨P3, p3, rfl, _, _⟩ := SliceR.form hv3
       have HVC := Lib.hid (show StrsR Any w3 (.slice P3 vp.length p3) vp from StrsR.sub hv3 (fun _ _ => trivial))
       have HXD := Lib.hid (HXC.out.trans' hx3)
       have HRD := Lib.hid (HRC.out.ext_ hx3)
       clear HXC HRC hx3 hv3
       have HXC := Lib.hid HXD.out
       have HRC := Lib.hid HRD.out
       clear HXD HRD)
    | (go_at_call 17; refine (HSA.out _ HXC.out).mono ?_; rintro e w4 ⟨⟨r4, rfl, hr4⟩, hx4⟩
       have HR4 := Lib.hid hr4
       have HXD := Lib.hid (HXC.out.trans' hx4)
       have HRD := Lib.hid (HRC.out.ext_ hx4)
       have HVD := Lib.hid (HVC.out.ext hx4)
       clear HXC HRC HVC hx4 hr4
       have HXC := Lib.hid HXD.out
       have HRC := Lib.hid HRD.out
       have HVC := Lib.hid HVD.out
       clear HXD HRD HVD)
    | (go_at_call 28; refine (fsRows_same _ _ rows _ HRC.out HR4.out).mono ?_; rintro e w5 ⟨rfl, hx5⟩
       have HXD := Lib.hid (HXC.out.trans' hx5)
       have HRD := Lib.hid (HRC.out.ext_ hx5)
       have HVD := Lib.hid (HVC.out.ext hx5)
       clear HXC HRC HVC HR4 hx5
       have HXC := Lib.hid HXD.out
       have HRC := Lib.hid HRD.out
       have HVC := Lib.hid HVD.out
       clear HXD HRD HVD)
    | (go_at_call 33; refine (HVS.out _ HXC.out).mono ?_; rintro e w6 ⟨⟨v6, rfl, hv6⟩, hx6⟩
       have HV6 := Lib.hid hv6
       have HXD := Lib.hid (HXC.out.trans' hx6)
       have HRD := Lib.hid (HRC.out.ext_ hx6)
       have HVD := Lib.hid (HVC.out.ext hx6)
       clear HXC HRC HVC hx6 hv6
       have HXC := Lib.hid HXD.out
       have HRC := Lib.hid HRD.out
       have HVC := Lib.hid HVD.out
       clear HXD HRD HVD)
    | (go_at_call 32; refine (fsRow_same _ _ vp _ HVC.out HV6.out).mono ?_; rintro e w7 ⟨rfl, hx7⟩
       have HXD := Lib.hid (HXC.out.trans' hx7)
       have HRD := Lib.hid (HRC.out.ext_ hx7)
       have HVD := Lib.hid (HVC.out.ext hx7)
       clear HXC HRC HVC HV6 hx7
       have HXC := Lib.hid HXD.out
       have HRC := Lib.hid HRD.out
       have HVC := Lib.hid HVD.out
       clear HXD HRD HVD)
    | (go_at_call 29; refine (HAO.out _ HXC.out).mono ?_; rintro e w8 ⟨rfl, hx8⟩
       have HXD := Lib.hid (HXC.out.trans' hx8)
       have HRD := Lib.hid (HRC.out.ext_ hx8)
       have HVD := Lib.hid (HVC.out.ext hx8)
       clear HXC HRC HVC hx8
       have HXC := Lib.hid HXD.out
       have HRC := Lib.hid HRD.out
       have HVC := Lib.hid HVD.out
       clear HXD HRD HVD)
    | fail)
   have HPA := Lib.hid (show ∀ p ∈ ps, p.atom.args.length ≤ 3 from fun p hp => atomOk_few ((askOk_parts HOK.out.symm).2.2.1 p hp))
   clear HIA HSA HAO HVI HVS
   have HU8 := Lib.hid (HU1.out.ext HXC.out)
   have HL8 := Lib.hid (HL1.out.ext HXC.out)
   go_loopw [7] (fun i wr => ∃ k : Nat, k ≤ rows.length ∧ i = .int .i64 k ∧ Ext w8 wr) (fun i _ => rows.length - (intOf i).toNat)
   case atStart => exact ⟨0, Nat.zero_le _, rfl, Ext.refl _⟩
   case round =>
    obtain ⟨k, hk, rfl, hx⟩ := hrel
    have hk0 : (0 : Int) ≤ (k : Int) := Int.natCast_nonneg _
    by_cases hlt : k < rows.length
    · have hk1 : (k : Int) < (rows.length : Int) := by omega
      have hrmax : rows.length ≤ 9223372036854775807 := by rw [HRW.out]; omega
      obtain ⟨b, off, r, v9, rfl, hb, hrk, ht, c0⟩ := RowsR.at_ (HRC.out.ext_ hx) hlt
      have hrm : r ∈ askW xs ps := by rw [← HRW.out]; exact List.mem_of_getElem? hrk
      have hrl : r.length = vp.length := by rw [HVN.out]; exact row_len hrm
      obtain ⟨E, e9, hv9, _, _⟩ := SliceR.form ht
      rw [hrl] at hv9
      subst hv9
      have HT := Lib.hid ht
      have HFA := Lib.hid (ask_facts hrm)
      have HFI := Lib.hid (fun (p : GP) (hp : p ∈ ps) => fill_in (ask_facts hrm) HOK.out.symm hrm hp)
      have HRL := Lib.hid hrl
      have HRK := Lib.hid hrk
      have hbe : ((vp.length : Int) == (vp.length : Int)) = true := by simp
      clear ht hrm hrl hrk
      go_wp2_with fail
      go_upto_region 11 with fail
      go_cut [80] (fun s wx => s = .bool false ∧ Hid (Ext wr wx))
      case first =>
       rcases Nat.eq_zero_or_pos k with hkz | hkp
       · have hd : decide (0 < k) = false := decide_eq_false (by omega)
         have hd1 : decide ((0 : Int) < (k : Int)) = false := decide_eq_false (by omega)
         clear hkz
         refine calm_region (by kernel_rfl) (by kernel_rfl) ?_
         go_big_quiet_want; go_big_quiet_op; go_big_quiet_on
         repeat (go_big_quiet_step (fail))
         refine wpQuiet_nil ?_
         rintro w9 ⟨⟨_, hx9⟩, rfl⟩
         go_wp2_with fail
         go_meet
         exact ⟨rfl, Lib.hid hx9⟩
       · obtain ⟨q, hq⟩ : ∃ q, q + 1 = k := ⟨k - 1, by omega⟩
         have hq0 : (0 : Int) ≤ (q : Int) := by omega
         have hq1 : (q : Int) < (rows.length : Int) := by omega
         have hd : decide (0 < k) = true := decide_eq_true (by omega)
         have hd2 : decide ((0 : Int) < (k : Int)) = true := decide_eq_true (by omega)
         have hwq : IntKind.i64.wrap ((k : Int) - 1) = (q : Int) := by rw [IntKind.wrap_i64]; omega
         have hwq2 : wrap64 ((k : Int) - 1) = (q : Int) := (IntWalk.wrap64_in _ (by omega)).trans (by omega)
         have hwq3 : (k : Int) - 1 = (q : Int) := by omega
         obtain ⟨b2, off2, r0, v0, hA2, hb2, hr0k, ht0, c1⟩ := RowsR.at_ (HRC.out.ext_ hx) (k := q) (by omega)
         injection hA2 with hA2
         injection hA2 with h2 h3
         subst h2; subst h3
         obtain ⟨E0, e0, rfl, _, _⟩ := SliceR.form ht0
         have hne : r0 ≠ r := rows_apart (xs := xs) (ps := ps) (by rw [← HRW.out]; exact hr0k) (by rw [← HRW.out, hq]; exact HRK.out)
         have HT0 := Lib.hid ht0
         have HCT := Lib.hid (fun (W : World) (hW : Ext wr W) => show Calls Tryz.prog 32 #[.slice E0 r0.length e0, .slice E vp.length e9] W fun e w' => e = .returned (.bool false) ∧ Ext W w' from
          (fsTexts_any _ _ r0 r W (HT0.out.ext hW) (HT.out.ext hW)).mono fun e w' ⟨⟨t, h1, h2⟩, h3⟩ => ⟨by rw [h1]; cases t with | false => rfl | true => exact absurd (h2.1 rfl) hne, h3⟩)
         clear ht0 hr0k hne hq hkp
         refine calm_region (by kernel_rfl) (by kernel_rfl) ?_
         go_big_quiet_want; go_big_quiet_op; go_big_quiet_on
         repeat (go_big_quiet_step ((go_at_call 32; exact calm_call (HCT.out _ (Later.ext _)))))
         refine wpQuiet_nil ?_
         rintro w9 ⟨⟨_, hx9⟩, rfl⟩
         go_wp2_with fail
         go_meet
         exact ⟨rfl, Lib.hid hx9⟩
      case rest =>
       rename World => w10
       obtain ⟨rfl, hxc⟩ := hcut
       have HX10 := Lib.hid (hx.trans' hxc.out)
       have HT10 := Lib.hid (HT.out.ext hxc.out)
       have c10 := (hxc.out.cells.1 b _ hb).trans c0
       have hb10 := Nat.lt_of_lt_of_le hb hxc.out.size
       clear HT c0
       go_wp2_with fail
       go_loopw [8] (fun j wi => ∃ q : Nat, q ≤ ps.length ∧ j = .int .i64 q ∧ Ext w10 wi) (fun j _ => ps.length - (intOf j).toNat)
       case atStart => exact ⟨0, Nat.zero_le _, rfl, Ext.refl _⟩
       case round =>
        obtain ⟨q, hq, rfl, hxq⟩ := hrel
        have hq0 : (0 : Int) ≤ (q : Int) := Int.natCast_nonneg _
        by_cases hlq : q < ps.length
        · have hq1 : (q : Int) < (ps.length : Int) := by omega
          obtain ⟨bp, fp, p, vt, rfl, hbp, hpk, hpn, hpt, a0, a1, a2⟩ := PartsR.at_ (HU8.out.ext (HX10.out.trans' hxq)) hlq
          obtain ⟨X, cx, rfl, _, _⟩ := SliceR.form hpt
          have hFI := HFI.out p (List.mem_of_getElem? hpk)
          have hpa := HPA.out p (List.mem_of_getElem? hpk)
          have HFF := Lib.hid (fun (W : World) (hW : Ext wr W) => fsFill_any p.atom vp r _ _ _ W (hpt.ext hW) (HVC.out.ext ((HX10.out.trans' hxq).trans' hW)) (HT10.out.ext (hxq.trans' hW)) HRL.out (by omega))
          have HFH := Lib.hid (fun (u : Value) (W : World) (T : Nat → Prop) (hW : Ext wr W) (hu : TermsR T W u (fillR vp r p.atom).args) => fsHas_any (fillR vp r p.atom) _ u xs W (HL8.out.ext ((HX10.out.trans' hxq).trans' hW)) hu)
          have c11 := (hxq.cells.1 b _ hb10).trans c10
          have hb11 := Nat.lt_of_lt_of_le hb10 hxq.size
          rw [← HVN.out] at hFI
          have HFI2 := Lib.hid hFI
          obtain ⟨nb, hnb⟩ : ∃ nb, nb = p.no := ⟨_, rfl⟩
          rw [← hnb] at a0 HFI2
          clear hFI hpk hnb
          have HSW := Lib.hid (fun (W : World) (hW : Ext wr W) => (show W.cell? ⟨bp, fp + q * 3, none⟩ = some (.bool nb) ∧ W.cell? ⟨bp, fp + q * 3 + 1, none⟩ = some (.string p.atom.n) ∧ W.cell? ⟨bp, fp + q * 3 + 2, none⟩ = some (.slice X p.atom.args.length cx) ∧ W.cell? ⟨b, off + k, none⟩ = some (.slice E vp.length e9) from
           ⟨(hW.cells.1 bp _ hbp).trans a0, (hW.cells.1 bp _ hbp).trans a1, (hW.cells.1 bp _ hbp).trans a2, (hW.cells.1 b _ hb11).trans c11⟩))
          go_wp2_with fail
          go_upto_region 16 with fail
          go_cut [105] (fun s wx => s = .bool false ∧ Hid (Ext wr wx))
          case first =>
           go_region_held3 (fun W => W.cell? ⟨bp, fp + q * 3, none⟩ = some (.bool nb) ∧ W.cell? ⟨bp, fp + q * 3 + 1, none⟩ = some (.string p.atom.n) ∧ W.cell? ⟨bp, fp + q * 3 + 2, none⟩ = some (.slice X p.atom.args.length cx) ∧ W.cell? ⟨b, off + k, none⟩ = some (.slice E vp.length e9))
            (first | exact HSW.out _ HX13.out | exact HSW.out _ HX12.out | exact HSW.out _ (Ext.refl wr).drew)
            (first
             | (go_at_call 35; refine (HFF.out _ (Ext.refl wr).drew).mono ?_; rintro e w12 ⟨⟨v12, rfl, hv12⟩, hx12⟩
                obtain ⟨Y, y12, hy12, _, _⟩ := SliceR.form hv12
                subst hy12
                have HX12 := Lib.hid ((Ext.refl wr).drew.trans' hx12)
                have HV12 := Lib.hid hv12
                clear hv12 hx12)
             | (go_at_call 34; refine (HFH.out _ _ _ HX12.out HV12.out).mono ?_; rintro e w13 ⟨⟨t, rfl, ht⟩, hx13⟩
                have HX13 := Lib.hid (HX12.out.trans' hx13)
                have hte : t = !nb := (by
                 have h1 := HFI2.out
                 cases t <;> cases nb <;> simp_all)
                subst hte
                clear ht hx13))
           all_goals
            have hnn : ((!nb) == nb) = false := by cases nb <;> rfl
            go_wp2_with fail
            go_meet
            exact ⟨by first | rfl | simp [hnn], HX13⟩
          case rest =>
           rename World => w14
           obtain ⟨rfl, hx14⟩ := hcut
           go_wp2_with fail
           go_roundw
           case rel =>
            first
             | exact ⟨q + 1, by omega, by go_num, hxq.trans' hx14.out⟩
             | ((repeat apply Exists.intro); exact ⟨⟨q + 1, by omega, by go_num, hxq.trans' hx14.out⟩, rfl⟩)
           case measure => simp [intOf]; omega
        · have hq1 : ¬ (q : Int) < (ps.length : Int) := by omega
          go_wp2_with fail
          go_roundw
          case rel =>
           first
            | exact ⟨k + 1, by omega, by go_num, HX10.out.trans' hxq⟩
            | ((repeat apply Exists.intro); exact ⟨⟨k + 1, by omega, by go_num, HX10.out.trans' hxq⟩, rfl⟩)
          case measure => simp [intOf]; omega
    · have hk1 : ¬ (k : Int) < (rows.length : Int) := by omega
      go_wp2
      go_ret
      exact ⟨rfl, HX1.out.trans' (HXC.out.trans' hx)⟩

end Go.Proofs.YtfjdijakgjhieaaGreat

namespace Go.Proofs.YtfjdijakgjhieaaGreat
open Go.RowKit Go.ChangeShapes Go.WideShapes

set_option maxRecDepth 100000 in
theorem ask_lifted (os : Os) (started : os.Started) (H : Type) (enc : TypeId × Value → H) :
 ReturnsInHanded {} Tryz.checked os 8 .any (Rows.fnAskSpec.pre6 enc Tryz.prog Tryz.f8 Rows.fnAskRow.domain false) (Rows.fnAskSpec.post enc Tryz.prog Tryz.f8 false true false false) := by
 refine returnsInHanded_of_change (C := Tryz.checked) law_own started (by kernel_rfl) Tryz.func8
  (ChangeSpec.witness6 (enc := enc) (C := Tryz.checked) false ⟨#[], #[.slice none 0 0], []⟩ 8 (by kernel_rfl) (by kernel_rfl) (by kernel_rfl) (by kernel_rfl)) ?_
 intro W base args ds gs before hval0 hW hcnd _
 have hW' := hW
 obtain ⟨p, q, hA0, hV, rfl, hfz, hnd⟩ := hW
 have hA : DataW.TrodAll enc Tryz.prog W 0 (fun _ => true) true Tryz.f8.params.toList args.toList ds p := hA0
 have hval : ∀ (j : Nat) t v, Tryz.f8.params[j]? = some t → args[j]? = some v → Value.okWide Tryz.prog W .any base t v := hval0
 rw [Tryz.params8] at hA hval
 obtain ⟨v0, d0, rfl, rfl, ⟨k0, h0⟩⟩ := trodAll_one hA
 obtain ⟨rfl, rfl⟩ := trodVars_none hV
 obtain ⟨_, _, _, rfl⟩ := okWide_slice Tryz.underlying22 (hval 0 22 v0 rfl rfl)
 obtain ⟨xs, hxs⟩ := read_bytes h0
 clear hA0 hval0
 simp only [List.append_nil] at hW'
 refine (fnAsk_any drawAsk_any _ xs W hxs).mono fun e W' ⟨he, hw⟩ => ?_
 subst he
 exact ⟨_, rfl, law_post (t := 4) rfl rfl Tryz.underlying4 rfl law_laidOut (by rw [Tryz.params8]; intro t ht; simp at ht; subst ht; exact ⟨by kernel_rfl, of_decide_eq_true (by kernel_rfl)⟩) hW' hw⟩

theorem fnAsk_holds : Rows.FnAskSaid :=
 OpenClaim.holds_of_wide 8 Tryz.f8 rfl rfl rfl rfl rfl rfl rfl ⟨rfl, rfl, rfl, rfl, rfl⟩ rfl rfl rfl rfl rfl (by kernel_rfl) Tryz.func8 (by kernel_rfl)
  (of_decide_eq_true (by kernel_rfl)) (by unfold Func.isWrapper; rw [if_neg (of_decide_eq_false (by kernel_rfl))]; exact ⟨rfl, rfl⟩)
  (fun os started H enc _ => ask_lifted os started H enc)

end Go.Proofs.YtfjdijakgjhieaaGreat
