/- Texts of the proof: Bind, EvA, EvF, VarB, RlW. -/
import Derived.Test.YtfjdijakgjhieaaGreatAskf02
import Derived.Test.YtfjdijakgjhieaaGreatAskf07
import Derived.Test.YtfjdijakgjhieaaGreatAskf06
import Derived.Test.YtfjdijakgjhieaaGreatAskf04
import Derived.BigQuiet
import Derived.Deep.RegionHeld3
import Derived.Lib.RowBridge
import Derived.Test.YtfjdijakgjhieaaGreatAskf05
import Derived.Laws.StructEq
namespace Go.Proofs.YtfjdijakgjhieaaGreat
set_option linter.unusedSimpArgs false
set_option linter.unusedVariables false
open Go.RowKit

theorem StrsR.impL {S S' : Nat → Prop} {w w' : World} {v : Value} {xs : List ByteArray} (h : StrsR S w v xs) (hS : ∀ b, S b → b < w.heap.size → S' b) (he : Agree S w w') (hsz : w.heap.size ≤ w'.heap.size) : StrsR S' w' v xs := ListK.imp (k := kStr) h hS he hsz
theorem StrsR.sub {S S' : Nat → Prop} {w : World} {v : Value} {xs : List ByteArray} (h : StrsR S w v xs) (hS : ∀ b, S b → S' b) : StrsR S' w v xs := h.impL (fun b hb _ => hS b hb) (.refl _ _) (Nat.le_refl _)
theorem StrsR.low {S : Nat → Prop} {w : World} {v : Value} {xs : List ByteArray} (h : StrsR S w v xs) : StrsR (fun b => S b ∧ b < w.heap.size) w v xs := ListK.low (k := kStr) h

/-- A binding: two slices of words. -/
def BindE (S : Nat → Prop) (w : World) (cs : List Value) (b : LB) : Prop := ∃ v u, cs = [v, u] ∧ StrsR S w v b.ns ∧ StrsR S w u b.vs ∧ b.ok
def kBind : Kind LB := ⟨2, BindE, by decide, fun h hS he hsz => by obtain ⟨v, u, h1, h2, h3, h4⟩ := h; exact ⟨v, u, h1, h2.impL hS he hsz, h3.impL hS he hsz, h4⟩,
  fun {_ _ l x} h => by obtain ⟨v, u, rfl, ht, hp, _⟩ := h; intro y hy; simp at hy; rcases hy with rfl | rfl <;> first | exact ListK.one (k := kStr) ht | exact ListK.one (k := kStr) hp, fun h => by obtain ⟨v, u, rfl, _⟩ := h; rfl⟩
def BindsR (S : Nat → Prop) : World → Value → List LB → Prop := SliceR S 2 (BindE S)
theorem BindsR.impL {S S' : Nat → Prop} {w w' : World} {v : Value} {xs : List LB} (h : BindsR S w v xs) (hS : ∀ b, S b → b < w.heap.size → S' b) (he : Agree S w w') (hsz : w.heap.size ≤ w'.heap.size) : BindsR S' w' v xs := ListK.imp (k := kBind) h hS he hsz
theorem BindsR.ext {S : Nat → Prop} {w w' : World} {v : Value} {xs : List LB} (h : BindsR S w v xs) (he : Ext w w') : BindsR S w' v xs := h.impL (fun _ h _ => h) (.of_ext he) he.size
theorem BindsR.at_ {S : Nat → Prop} {w : World} {A : Option Addr} {n c : Nat} {xs : List LB} (h : BindsR S w (.slice A n c) xs) {k : Nat} (hk : k < n) :
    ∃ (b off : Nat) (x : LB) (v u : Value), A = some ⟨b, off, none⟩ ∧ b < w.heap.size ∧ xs[k]? = some x ∧ StrsR S w v x.ns ∧ StrsR S w u x.vs ∧ x.ok ∧
      w.cell? ⟨b, off + k * 2, none⟩ = some v ∧ w.cell? ⟨b, off + k * 2 + 1, none⟩ = some u := by
  obtain ⟨b, off, x, cs, hA, hb, hx, _, hc, v, u, rfl, ht, hp, ho⟩ := SliceR.at_ h hk
  exact ⟨b, off, x, v, u, hA, hb, hx, ht, hp, ho, hc 0 _ rfl, hc 1 _ rfl⟩
/-- A binding as a value. -/
def BindR (S : Nat → Prop) (w : World) (v : Value) (b : LB) : Prop := ∃ x y : Value, v = .agg #[x, y] ∧ StrsR S w x b.ns ∧ StrsR S w y b.vs ∧ b.ok
theorem BindR.ext {S : Nat → Prop} {w w' : World} {v : Value} {b : LB} (h : BindR S w v b) (he : Ext w w') : BindR S w' v b := by
  obtain ⟨x, y, h1, h2, h3, h4⟩ := h; exact ⟨x, y, h1, h2.ext he, h3.ext he, h4⟩
theorem BindR.sub {S S' : Nat → Prop} {w : World} {v : Value} {b : LB} (h : BindR S w v b) (hS : ∀ i, S i → S' i) : BindR S' w v b := by
  obtain ⟨x, y, h1, h2, h3, h4⟩ := h; exact ⟨x, y, h1, h2.sub hS, h3.sub hS, h4⟩
theorem BindR.form {S : Nat → Prop} {w : World} {v : Value} {b : LB} (h : BindR S w v b) : ∃ A c B d, v = .agg #[.slice A b.ns.length c, .slice B b.vs.length d] := by
  obtain ⟨x, y, rfl, h2, h3, _⟩ := h
  obtain ⟨A, c, rfl, _⟩ := SliceR.form h2
  obtain ⟨B, d, rfl, _⟩ := SliceR.form h3
  exact ⟨_, _, _, _, rfl⟩

/-- A row: one slice of words. -/
def RowE (S : Nat → Prop) (w : World) (cs : List Value) (r : List ByteArray) : Prop := ∃ v, cs = [v] ∧ StrsR S w v r
def kRow : Kind (List ByteArray) := ⟨1, RowE, by decide, fun h hS he hsz => by obtain ⟨v, h1, h2⟩ := h; exact ⟨v, h1, h2.impL hS he hsz⟩,
  fun {_ _ l x} h => by obtain ⟨v, rfl, ht⟩ := h; intro y hy; simp at hy; subst hy; exact ListK.one (k := kStr) ht, fun h => by obtain ⟨v, rfl, _⟩ := h; rfl⟩
def RowsR (S : Nat → Prop) : World → Value → List (List ByteArray) → Prop := SliceR S 1 (RowE S)
theorem RowsR.impL {S S' : Nat → Prop} {w w' : World} {v : Value} {xs : List (List ByteArray)} (h : RowsR S w v xs) (hS : ∀ b, S b → b < w.heap.size → S' b) (he : Agree S w w') (hsz : w.heap.size ≤ w'.heap.size) : RowsR S' w' v xs := ListK.imp (k := kRow) h hS he hsz
theorem RowsR.ext {S : Nat → Prop} {w w' : World} {v : Value} {xs : List (List ByteArray)} (h : RowsR S w v xs) (he : Ext w w') : RowsR S w' v xs := h.impL (fun _ h _ => h) (.of_ext he) he.size
theorem RowsR.sub {S S' : Nat → Prop} {w : World} {v : Value} {xs : List (List ByteArray)} (h : RowsR S w v xs) (hS : ∀ b, S b → S' b) : RowsR S' w v xs := h.impL (fun b hb _ => hS b hb) (.refl _ _) (Nat.le_refl _)
theorem RowsR.at_ {S : Nat → Prop} {w : World} {A : Option Addr} {n c : Nat} {xs : List (List ByteArray)} (h : RowsR S w (.slice A n c) xs) {k : Nat} (hk : k < n) :
    ∃ (b off : Nat) (x : List ByteArray) (v : Value), A = some ⟨b, off, none⟩ ∧ b < w.heap.size ∧ xs[k]? = some x ∧ StrsR S w v x ∧ w.cell? ⟨b, off + k, none⟩ = some v := by
  obtain ⟨b, off, x, cs, hA, hb, hx, _, hc, v, rfl, ht⟩ := SliceR.at_ h hk
  exact ⟨b, off, x, v, hA, hb, hx, ht, by simpa using hc 0 _ rfl⟩

end Go.Proofs.YtfjdijakgjhieaaGreat

namespace Go.Proofs.YtfjdijakgjhieaaGreat
set_option linter.unusedSimpArgs false
set_option linter.unusedVariables false
open Go.RowKit

end Go.Proofs.YtfjdijakgjhieaaGreat

namespace Go.Proofs.YtfjdijakgjhieaaGreat
set_option linter.unusedSimpArgs false
set_option linter.unusedVariables false
open Go.RowKit

theorem strs_small {S : Nat → Prop} {w : World} {v : Value} {xs : List ByteArray} (h : StrsR S w v xs) : ∀ s ∈ xs, s.size ≤ maxLen := fun s hs => by
  obtain ⟨A, c, rfl, _⟩ := SliceR.form h
  obtain ⟨i, hi⟩ := List.getElem?_of_mem hs
  obtain ⟨b, off, x, _, _, hx, hsz, _⟩ := StrsR.at_ h (k := i) (List.getElem?_eq_some_iff.1 hi).1
  rw [hi] at hx; injection hx with hx
  rw [hx]; exact hsz
end Go.Proofs.YtfjdijakgjhieaaGreat

namespace Go.Proofs.YtfjdijakgjhieaaGreat
set_option linter.unusedSimpArgs false
set_option linter.unusedVariables false
open Go.RowKit

theorem termVars_take {ts : List GT} {k : Nat} {t : GT} (h : ts[k]? = some t) : termVars (ts.take (k + 1)) = termVars (ts.take k) ++ (if t.v = true then [t.n] else []) := by
  unfold termVars
  rw [List.take_add_one, h, List.filter_append, List.map_append]
  cases hv : t.v <;> simp [hv]
theorem flatVars_take {ps : List GP} {k : Nat} {p : GP} (h : ps[k]? = some p) : flatVars (ps.take (k + 1)) = flatVars (ps.take k) ++ termVars p.atom.args := by
  unfold flatVars
  rw [List.take_add_one, h, List.flatMap_append]
  simp
theorem termVars_most (ts : List GT) : (termVars ts).length ≤ ts.length := by
  unfold termVars; rw [List.length_map]; exact List.length_filter_le _ _
theorem flatVars_most : ∀ (ps : List GP), (∀ p ∈ ps, p.atom.args.length ≤ 1000) → (flatVars ps).length ≤ 1000 * ps.length
  | [], _ => by simp [flatVars]
  | p :: ps, h => by
    have h1 := flatVars_most ps (fun q hq => h q (List.mem_cons_of_mem _ hq))
    have h2 := termVars_most p.atom.args
    have h3 := h p List.mem_cons_self
    have e : flatVars (p :: ps) = termVars p.atom.args ++ flatVars ps := by simp [flatVars]
    rw [e, List.length_append, List.length_cons]; omega

theorem OwnK.row {base : Nat} {e : TypeId} {S : Nat → Prop} {w : World} {v : Value} {xs : List ByteArray} (h : OwnK kStr base e S w v xs) (hne : xs ≠ []) :
    ∃ g cap, v = .slice (some ⟨g, 0, none⟩) xs.length cap ∧ base ≤ g ∧ g < w.heap.size ∧ xs.length ≤ cap ∧ cap ≤ maxLen ∧ Sort.Holds encStr w g 0 (xs.map fun s => s.data.toList).toArray := by
  have hl : StrsR Any w v xs := h.list (S' := Any) (fun _ _ => trivial) (fun _ _ => trivial)
  obtain ⟨rows, T, h1, h2, _⟩ := h
  rcases h1.2 with ⟨rfl, h0⟩ | ⟨g, cap, cur, rfl, hb, hg, hc1, hc2, hsz, htk⟩
  · exact absurd (List.length_eq_zero_iff.1 h0) hne
  · have hlt : g < w.heap.size := (Array.getElem?_eq_some_iff.1 hg).1
    refine ⟨g, cap, rfl, hb, hlt, hc1, hc2, fun j hj => ⟨?_, by simp [World.frozen?, hg]⟩⟩
    have hj' : j < xs.length := by simpa using hj
    obtain ⟨b, off, x, hA, _, hx, _, hc⟩ := StrsR.at_ hl hj'
    cases hA
    obtain ⟨hj2, rfl⟩ := List.getElem?_eq_some_iff.1 hx
    rw [hc]
    simp [getElem!_pos, hj']
theorem strs_of_holds {B g cap : Nat} {w : World} {cs more : List (List UInt8)} (hH : Sort.Holds encStr w g 0 (cs ++ more).toArray) (hg : B ≤ g ∧ g < w.heap.size) (hc : cs.length ≤ cap ∧ cap ≤ maxLen) (hs : ∀ x ∈ cs.map strOf, x.size ≤ maxLen) :
    StrsR (From B) w (.slice (some ⟨g, 0, none⟩) cs.length cap) (cs.map strOf) := by
  refine ⟨some ⟨g, 0, none⟩, cap, by rw [List.length_map], by rw [List.length_map]; exact hc.1, hc.2, fun _ => ⟨g, 0, rfl, hg.2, hg.1, fun i x hx => ⟨[.string x], rfl, fun j u hu => ?_, rfl, hs x (List.mem_of_getElem? hx)⟩⟩⟩
  have hj : j = 0 := by
    cases j with
    | zero => rfl
    | succ j => simp at hu
  subst hj
  simp only [List.getElem?_cons_zero, Option.some.injEq] at hu
  subst hu
  obtain ⟨hi, rfl⟩ := List.getElem?_eq_some_iff.1 hx
  have hi' : i < cs.length := by simpa using hi
  have h1 := (hH i (by simp; omega)).1
  have e : (cs ++ more).toArray[i]! = cs[i] := by simp [getElem!_pos, List.getElem_append_left hi', show i < cs.length + more.length by omega]
  rw [e] at h1
  rw [show 0 + (i * 1 + 0) = 0 + i by omega, h1, List.getElem_map]
  rfl
theorem ext_putRow {w wr : World} (hx : Ext w wr) {g n : Nat} (hg : w.heap.size ≤ g) (d : Array (List UInt8)) (os : Array Obj) : Ext w (Sort.grow (Sort.putRow encStr (Sort.ahead wr n) g 0 d) os) := by
  refine ⟨hx.os, hx.tape, hx.output, ?_, fun k hk => ?_⟩
  · have := hx.size
    rw [Sort.size_grow, Sort.size_putRow]
    show _ ≤ wr.heap.size + _
    omega
  · have h1 := hx.size
    rw [Sort.heap_grow_old _ _ (by rw [Sort.size_putRow]; show k < wr.heap.size; omega), ← hx.block k hk]
    show ((Sort.ahead wr n).heap.modify g _)[k]? = _
    rw [Array.getElem?_modify, if_neg (by omega)]
    rfl

set_option maxRecDepth 100000 in
set_option maxHeartbeats 4000000 in
theorem bodyVars_any (ps : List GP) (u : Value) (w : World) {S : Nat → Prop} (hu : PartsR S w u ps) (hps : ∀ p ∈ ps, p.atom.args.length ≤ 1000) (hpl : ps.length ≤ 4) :
    Calls Tryz.prog 69 #[u] w fun e w' => (∃ v', e = .returned v' ∧ StrsR (From w.heap.size) w' v' (varsN ps)) ∧ Ext w w' := by
  obtain ⟨B, d, rfl, hd1, hd2⟩ := SliceR.form hu
  obtain ⟨i0, hi0⟩ : ∃ i, Tryz.prog.info? 9 = some i := ⟨_, by rfl⟩
  have hz0 : i0.zero = some (.string ⟨#[]⟩) := by have := hi0; revert this; intro h; cases h; rfl
  have hz1 : i0.size = 1 := by have := hi0; revert this; intro h; cases h; rfl
  have hz2 : i0.bytes = 16 := by have := hi0; revert this; intro h; cases h; rfl
  have HU := Lib.hid hu
  have HPS := Lib.hid hps
  clear hu hps
  go_enter Tryz.func69, Tryz.ntmps69
  go_wp2
  go_loopw [3, 10] (fun o i wr => ∃ k : Nat, k ≤ ps.length ∧ i = .int .i64 k ∧ Hid (OwnK kStr w.heap.size 9 None wr o (flatVars (ps.take k))) ∧ Ext w wr) (fun _ i _ => ps.length - (intOf i).toNat)
  case atStart => exact ⟨0, Nat.zero_le _, rfl, Lib.hid OwnK.nil, Ext.refl _⟩
  case round =>
    obtain ⟨k, hk, rfl, ho, hx⟩ := hrel
    have hk0 : (0 : Int) ≤ (k : Int) := by omega
    by_cases hlt : k < ps.length
    · have hk1 : (k : Int) < (ps.length : Int) := by omega
      obtain ⟨bp, op, p, vp, rfl, hbp, hpk, hpn, hpt, hp0, hp1, hp2⟩ := PartsR.at_ HU.out hlt
      obtain ⟨G, cg, rfl, hcg1, hcg2⟩ := SliceR.form hpt
      have r0 := (hx.cells.1 bp (op + k * 3) hbp).trans hp0
      have r1 := (hx.cells.1 bp (op + k * 3 + 1) hbp).trans hp1
      have r2 := (hx.cells.1 bp (op + k * 3 + 2) hbp).trans hp2
      have HST := Lib.hid (flatVars_take hpk)
      have HPT := Lib.hid hpt
      have HAR := Lib.hid (HPS.out p (List.mem_of_getElem? hpk))
      have HFL := Lib.hid (show (flatVars (ps.take k)).length ≤ 4000 from by
        have h1 := flatVars_most (ps.take k) (fun q hq => HPS.out q (List.mem_of_mem_take hq))
        rw [List.length_take] at h1; omega)
      clear hp0 hp1 hp2 hpk hpt
      go_wp2
      rename World => w0
      go_loopw [3, 18] (fun o i wz => ∃ r : Nat, r ≤ p.atom.args.length ∧ i = .int .i64 r ∧ Hid (OwnK kStr w.heap.size 9 None wz o (flatVars (ps.take k) ++ termVars (p.atom.args.take r))) ∧ Ext w wz) (fun _ i _ => p.atom.args.length - (intOf i).toNat)
      case atStart => exact ⟨0, Nat.zero_le _, rfl, Lib.hid (by rw [show termVars (p.atom.args.take 0) = [] from rfl, List.append_nil]; exact ho.out.alloc _), hx.alloc _⟩
      case round =>
        obtain ⟨r, hr, rfl, hor, hxr⟩ := hrel
        have hr0 : (0 : Int) ≤ (r : Int) := by omega
        by_cases hlr : r < p.atom.args.length
        · have hr1 : (r : Int) < (p.atom.args.length : Int) := by omega
          obtain ⟨bt, ot, t, rfl, hbt, htk, htn, ht0, ht1⟩ := TermsR.at_ (HPT.out.ext hxr) hlr
          have HTV := Lib.hid (termVars_take htk)
          have HLR := Lib.hid (show (flatVars (ps.take k) ++ termVars (p.atom.args.take r)).length ≤ 5000 from by
            have h1 := termVars_most (p.atom.args.take r)
            have h2 := HFL.out
            have h3 := HAR.out
            rw [List.length_take] at h1
            rw [List.length_append]; omega)
          clear htk
          rcases Bool.eq_false_or_eq_true t.v with hv | hv
          · rw [hv] at ht0
            have HT := Lib.hid (show flatVars (ps.take k) ++ termVars (p.atom.args.take (r + 1)) = (flatVars (ps.take k) ++ termVars (p.atom.args.take r)) ++ [t.n] from by rw [HTV.out, if_pos hv, List.append_assoc])
            have HOW := Lib.hid (show ∀ o1 o2, OwnK kStr w.heap.size 9 None ((wr.alloc o1).alloc o2) _ (flatVars (ps.take k) ++ termVars (p.atom.args.take r)) from fun o1 o2 => (hor.out.alloc o1).alloc o2)
            have hw0 : w.heap.size ≤ wr.heap.size := hxr.size
            clear hv HTV
            go_wp2_with (at_builtin; go_loud (refine wpList_appL (k := kStr) (S := None) (T := None) (base := w.heap.size) (xs := flatVars (ps.take k) ++ termVars (p.atom.args.take r)) (ys := [t.n]) rfl (.tmp 24) (.tmp 27) 56 (by rfl) i0 _ 16 Tryz.underlying56 hi0 hz0 hz1 hz2 (by rfl) (by rfl) (HOW.out _ _) _ 1 1 (by rfl) (ElemsK.one (k := kStr) (x := t.n) (l := [.string t.n]) (Blk.at_new (by simp)) ⟨rfl, htn⟩) (fun _ h => h.elim) (maxOf (by have := HLR.out; simp only [List.length_append, List.length_cons, List.length_nil] at this ⊢; omega)) (by have := HLR.out; omega) (by go_size) ?_; intro v6 w6 hap))
            go_roundw
            case rel => exact ⟨r + 1, by omega, by go_num, Lib.hid (by rw [HT.out]; exact hap.own), hap.toExt ((hxr.alloc _).alloc _) (Nat.le_refl _)⟩
            case measure => simp [intOf]; omega
          · rw [hv] at ht0
            have HT := Lib.hid (show flatVars (ps.take k) ++ termVars (p.atom.args.take (r + 1)) = flatVars (ps.take k) ++ termVars (p.atom.args.take r) from by rw [HTV.out, hv]; simp)
            clear hv HTV
            go_wp2
            go_roundw
            case rel => exact ⟨r + 1, by omega, by go_num, Lib.hid (by rw [HT.out]; exact hor.out.alloc _), hxr.alloc _⟩
            case measure => simp [intOf]; omega
        · have HE := Lib.hid (show flatVars (ps.take (k + 1)) = flatVars (ps.take k) ++ termVars (p.atom.args.take r) from by rw [HST.out, List.take_of_length_le (l := p.atom.args) (i := r) (by omega)])
          go_wp2
          go_roundw
          case rel => exact ⟨k + 1, by omega, by go_num, Lib.hid (by rw [HE.out]; exact hor.out), hxr⟩
          case measure => simp [intOf]; omega
    · have HE := Lib.hid (show ps.take k = ps from List.take_of_length_le (by omega))
      have h1 := ho.out
      rw [HE.out] at h1
      have hsm : ∀ x ∈ varsN ps, x.size ≤ maxLen := fun x hx' => strs_small (h1.list (S' := Any) (fun _ _ => trivial) (fun _ _ => trivial)) x (flatVars_mem.2 hx')
      have hlen : (flatVars ps).length ≤ 4000 := by
        have := flatVars_most ps HPS.out; omega
      by_cases hne : flatVars ps = []
      · have hv : varsN ps = [] := by
          apply List.eq_nil_iff_forall_not_mem.2
          intro x hx'
          have := flatVars_mem.2 hx'
          rw [hne] at this; cases this
        rw [hne] at h1
        obtain ⟨A, c, rfl, hc1, hc2⟩ := h1.form
        have HV := Lib.hid hv
        clear h1 hne hv hsm
        go_wp2_with (first | (go_at_call 102; refine (Tryz.slices_Sort_string_none _ _ _).mono ?_; rintro e w1 ⟨rfl, e1⟩; obtain rfl : wr = w1 := e1.symm) | (go_at_call 103; refine (Tryz.slices_Compact_string_empty _ _ _).mono ?_; rintro e w2 ⟨rfl, e2⟩; obtain rfl : wr = w2 := e2.symm) | fail)
        go_ret
        exact ⟨⟨_, rfl, by rw [HV.out]; exact ⟨A, c, rfl, Nat.zero_le _, hc2, fun h => absurd h (Nat.lt_irrefl 0)⟩⟩, hx⟩
      · obtain ⟨g, cap, rfl, hg1, hg2, hc1, hc2, hH⟩ := OwnK.row h1 hne
        obtain ⟨zs, hzs⟩ : ∃ zs, zs = (flatVars ps).map fun s => s.data.toList := ⟨_, rfl⟩
        have hzl : zs.length = (flatVars ps).length := by rw [hzs, List.length_map]
        have hsl : (sortW zs).length = zs.length := List.length_mergeSort zs
        rw [← hzs] at hH
        have HSO := Lib.hid (Tryz.slices_Sort_string g 0 cap zs wr hH hg2 (by omega))
        have HW1 := Lib.hid (fun (q : Nat) (os : Array Obj) => show Sort.Holds encStr (Sort.grow (Sort.putRow encStr (Sort.ahead wr q) g 0 (sortW zs).toArray) os) g 0 (sortW zs).toArray from
          Sort.holds_grow _ _ _ _ _ _ (by rw [Sort.size_putRow]; exact hg2) (Sort.holds_putRow _ _ _ _ zs.toArray _ (Sort.holds_ahead _ _ _ _ _ _ hH) (by simp [hsl])))
        have HCO := Lib.hid (fun (W : World) (hW : Sort.Holds encStr W g 0 (sortW zs).toArray) => Tryz.slices_Compact_string g 0 cap (sortW zs) W hW (by omega) (by omega))
        have HX1 := Lib.hid (fun (q : Nat) (os : Array Obj) => ext_putRow (n := q) hx hg1 (sortW zs).toArray os)
        rw [hsl, hzl] at HCO
        rw [hzl] at HSO
        have HCV := Lib.hid (show (Lib.compact (sortW zs)).map strOf = varsN ps from by rw [hzs]; exact compact_vars ps)
        have HCL := Lib.hid (Lib.compact_length_le (sortW zs))
        have HZ := Lib.hid (show (sortW zs).length ≤ cap ∧ (sortW zs).length = (flatVars ps).length from ⟨by omega, by omega⟩)
        have HSM := Lib.hid hsm
        have HG := Lib.hid hg2
        clear h1 hne hsm hH hzs hzl hsl
        go_wp2_with (first | (go_at_call 102; refine HSO.out.mono ?_; rintro e w1 ⟨rfl, q1, os1, e1⟩; have HE1 := Lib.hid e1; clear e1; have HH1 := Lib.hid (HE1.out ▸ HW1.out q1 os1)) | (go_at_call 103; refine (HCO.out _ HH1.out).mono ?_; rintro e w2 ⟨rfl, q2, e2⟩; have HE2 := Lib.hid e2; clear e2) | fail)
        go_ret
        have hx1 : Ext w w1 := by rw [HE1.out]; exact HX1.out q1 os1
        have hx2 : Ext w w2 := by
          have := ext_putRow (n := q2) hx1 hg1 (Lib.compact (sortW zs) ++ List.replicate ((flatVars ps).length - (Lib.compact (sortW zs)).length) []).toArray #[]
          rw [Sort.grow_empty] at this
          rw [HE2.out]; exact this
        have hgw : g < w2.heap.size := by
          rw [HE2.out, Sort.size_putRow]
          show g < w1.heap.size
          rw [HE1.out, Sort.size_grow, Sort.size_putRow]
          have := HG.out
          show g < wr.heap.size + _
          omega
        have hh2 : Sort.Holds encStr w2 g 0 (Lib.compact (sortW zs) ++ List.replicate ((flatVars ps).length - (Lib.compact (sortW zs)).length) []).toArray := by
          rw [HE2.out]
          refine Sort.holds_putRow _ _ _ _ (sortW zs).toArray _ (Sort.holds_ahead _ _ _ _ _ _ HH1.out) ?_
          have h1 := HCL.out
          have h2 := HZ.out.2
          simp; omega
        refine ⟨⟨_, rfl, ?_⟩, hx2⟩
        rw [← HCV.out]
        exact strs_of_holds hh2 ⟨hg1, hgw⟩ ⟨Nat.le_trans HCL.out HZ.out.1, hc2⟩ (by rw [HCV.out]; exact HSM.out)

end Go.Proofs.YtfjdijakgjhieaaGreat

namespace Go.Proofs.YtfjdijakgjhieaaGreat
open Go.RowKit

def isT (x y : GT) : Bool := decide (y.v = x.v ∧ y.n = x.n)
def hasT (xs : List GT) (x : GT) : Bool := xs.any (isT x)
def notT (x y : GT) : Bool := !isT x y
theorem hasT_not (xs : List GT) (x : GT) : hasT xs x = !xs.all (notT x) := by
  unfold hasT notT
  induction xs with
  | nil => rfl
  | cons y xs ih => rw [List.any_cons, List.all_cons, ih]; cases isT x y <;> rfl

theorem isT_eq (x y : GT) : isT x y = ((x.v == y.v) && (x.n.toList == y.n.toList)) := by
  unfold isT
  cases h : x.v == y.v
  · have : ¬ y.v = x.v := fun e => by rw [e] at h; simp at h
    simp [this]
  · have e : y.v = x.v := (eq_of_beq h).symm
    by_cases h2 : y.n = x.n
    · simp [e, h2]
    · have : (x.n.toList == y.n.toList) = false := str_ne' (fun e => h2 e.symm)
      simp [this, h2]
theorem eq_term (x y : GT) (w : World) : (binOp .eql 33 (.agg #[.bool x.v, .string x.n]) (.agg #[.bool y.v, .string y.n])).run Tryz.prog w = .ok (.bool (isT x y)) w := by
  rw [isT_eq]
  have hu : Tryz.prog.underlying 33 = some (.struct (Tryz.prog.fieldsOf 33)) := by kernel_rfl
  rw [run_eql_struct, run_equalIn_struct _ 9999 _ _ _ hu (by kernel_rfl)]
  simp [Program.fieldsOf, Tryz.underlying33, Op.eqFields, go_sem]
  by_cases h1 : x.v = y.v <;> by_cases h2 : x.n.toList = y.n.toList <;> simp [h1, h2]
theorem guard_term (x y : GT) (p q : Operand) (w : World) : (eqGuard .eql 33 p q (.agg #[.bool x.v, .string x.n]) (.agg #[.bool y.v, .string y.n])).run Tryz.prog w = .ok () w := run_eqGuard_agg _ _ _ _ _ _ _ (by kernel_rfl)

set_option maxRecDepth 100000 in
set_option maxHeartbeats 1000000 in
theorem indexTerm_any (v : Value) (xs : List GT) (x : GT) (w : World) {S : Nat → Prop} (hv : TermsR S w v xs) :
    Calls Tryz.prog 195 #[v, .agg #[.bool x.v, .string x.n]] w fun e w' => (∃ z : Int, e = .returned (.int .i64 z) ∧ (xs.all (notT x) = true → z < 0) ∧ (xs.all (notT x) = false → 0 ≤ z)) ∧ Ext w w' := by
  obtain ⟨A, c, rfl, hc1, hc2⟩ := SliceR.form hv
  have HV := Lib.hid (hv.ext ((Ext.refl w).alloc (.cells #[.bool x.v, .string x.n] 33)))
  have HB := Lib.hid (Blk.new w 33 #[.bool x.v, .string x.n])
  clear hv
  go_enter Tryz.func195, Tryz.ntmps195
  go_wp2
  go_loopw [8] (fun i wr => ∃ k : Nat, k ≤ xs.length ∧ i = .int .i64 k ∧ Hid ((xs.take k).all (notT x) = true) ∧ Ext (w.alloc (.cells #[.bool x.v, .string x.n] 33)) wr) (fun i _ => xs.length - (intOf i).toNat)
  case atStart => exact ⟨0, Nat.zero_le _, rfl, rfl, Ext.refl _⟩
  case round =>
    obtain ⟨k, hk, rfl, hp, hx⟩ := hrel
    by_cases hlt : k < xs.length
    · obtain ⟨b, off, y, rfl, hb, hxk, hxs, hc0, hc1⟩ := TermsR.at_ (HV.out.ext hx) hlt
      have hb1 := HB.out.ext hx
      have q0 := hb1.cell 0
      have q1 := hb1.cell 1
      have hk0 : (0 : Int) ≤ (k : Int) := Int.natCast_nonneg _
      have hk1 : (k : Int) < (xs.length : Int) := by omega
      clear hb1
      have he := eq_term x y
      have hg := guard_term x y
      have HK := Lib.hid hxk
      clear hxk
      cases ht : isT x y
      · have HP := Lib.hid (show (xs.take (k + 1)).all (notT x) = true from by rw [all_snoc _ _ k y HK.out, hp.out]; unfold notT; rw [ht]; rfl)
        rw [ht] at he
        clear ht
        go_wp2_with fail
        go_quiet (fail)
        go_wp2
        go_roundw
        case rel => exact ⟨k + 1, by omega, by go_num, HP, hx.drewN _⟩
        case measure => simp [intOf]; omega
      · have HZ := Lib.hid (all_false (notT x) _ k y HK.out (by unfold notT; rw [ht]; rfl))
        rw [ht] at he
        clear ht
        go_wp2_with fail
        go_quiet (fail)
        go_wp2
        go_ret
        exact ⟨⟨k, rfl, fun h => (by rw [HZ.out] at h; cases h), fun _ => Int.natCast_nonneg _⟩, ((Ext.refl _).alloc _).trans' (hx.drewN _)⟩
    · have HZ := Lib.hid (all_whole _ _ k hlt hp.out)
      go_wp2
      go_ret
      exact ⟨⟨-1, rfl, fun _ => by decide, fun h => (by rw [HZ.out] at h; cases h)⟩, ((Ext.refl _).alloc _).trans' hx⟩

set_option maxHeartbeats 1000000 in
theorem containsTerm_any (v : Value) (xs : List GT) (x : GT) (w : World) {S : Nat → Prop} (hv : TermsR S w v xs) :
    Calls Tryz.prog 177 #[v, .agg #[.bool x.v, .string x.n]] w fun e w' => e = .returned (.bool (hasT xs x)) ∧ Ext w w' := by
  obtain ⟨A, c, rfl, hc1, hc2⟩ := SliceR.form hv
  have HV := Lib.hid (hv.ext ((Ext.refl w).alloc (.cells #[.bool x.v, .string x.n] 33)))
  rw [hasT_not]
  clear hv
  cases ha : xs.all (notT x)
  · have HA := Lib.hid ha
    clear ha
    go_enter Tryz.func177, Tryz.ntmps177
    go_wp2_with (go_at_call 195; refine (indexTerm_any _ xs x _ HV.out).mono ?_; rintro e w1 ⟨⟨z, rfl, h1, h2⟩, hx1⟩; have hz := h2 HA.out; clear h1 h2)
    go_ret
    exact ⟨ret_bool (by first | (simp; done) | (simp; omega)), ((Ext.refl _).alloc _).trans' hx1⟩
  · have HA := Lib.hid ha
    clear ha
    go_enter Tryz.func177, Tryz.ntmps177
    go_wp2_with (go_at_call 195; refine (indexTerm_any _ xs x _ HV.out).mono ?_; rintro e w1 ⟨⟨z, rfl, h1, h2⟩, hx1⟩; have hz := h1 HA.out; clear h1 h2)
    go_ret
    exact ⟨ret_bool (by first | (simp; done) | (simp; omega)), ((Ext.refl _).alloc _).trans' hx1⟩

theorem has_var (xs : List GT) (x : ByteArray) : hasT xs ⟨true, x⟩ = memS x ((xs.filter (·.v)).map (·.n)) := by
  unfold hasT memS
  induction xs with
  | nil => rfl
  | cons y xs ih =>
    rw [List.any_cons, ih, List.filter_cons]
    obtain ⟨b, n⟩ := y
    cases b
    · simp [isT]
    · simp [isT]

def boundP (x : ByteArray) (p : GP) : Bool := !p.no && memS x (varsOf p.atom)
def freeP (x : ByteArray) (p : GP) : Bool := !boundP x p
theorem bound_free (body : List GP) (x : ByteArray) : boundIn body x = !body.all (freeP x) := by
  unfold boundIn freeP
  induction body with
  | nil => rfl
  | cons y xs ih => rw [List.any_cons, List.all_cons, ih, show (!y.no && memS x (varsOf y.atom)) = boundP x y from rfl]; cases boundP x y <;> rfl

set_option maxRecDepth 100000 in
set_option maxHeartbeats 1000000 in
theorem isBound_any (v : Value) (body : List GP) (x : ByteArray) (w : World) {S : Nat → Prop} (hv : PartsR S w v body) :
    Calls Tryz.prog 144 #[v, .string x] w fun e w' => e = .returned (.bool (boundIn body x)) ∧ Ext w w' := by
  obtain ⟨A, c, rfl, hc1, hc2⟩ := SliceR.form hv
  have HV := Lib.hid hv
  clear hv
  rw [bound_free]
  go_enter Tryz.func144, Tryz.ntmps144
  go_wp2
  go_loopw [9] (fun i wr => ∃ k : Nat, k ≤ body.length ∧ i = .int .i64 k ∧ Hid ((body.take k).all (freeP x) = true) ∧ Ext w wr) (fun i _ => body.length - (intOf i).toNat)
  case atStart => exact ⟨0, Nat.zero_le _, rfl, rfl, Ext.refl _⟩
  case round =>
    obtain ⟨k, hk, rfl, hp, hx⟩ := hrel
    by_cases hlt : k < body.length
    · obtain ⟨b, off, y, z, rfl, hb, hxk, hxs, htx, p0, p1, p2⟩ := PartsR.at_ (HV.out.ext hx) hlt
      obtain ⟨C, e, rfl, he1, he2⟩ := SliceR.form htx
      have HK := Lib.hid hxk
      have HW := Lib.hid (containsTerm_any _ y.atom.args ⟨true, x⟩ _ (htx.ext ((Ext.refl wr).alloc (.cells #[.bool y.no, .string y.atom.n, .slice C y.atom.args.length e] 37))))
      clear hxk htx
      cases hno : y.no
      · cases hm : memS x (varsOf y.atom)
        · have hw := (bool_ways HW.out).2 (by rw [has_var]; exact hm)
          have HP := Lib.hid (show (body.take (k + 1)).all (freeP x) = true from by rw [all_snoc _ _ k y HK.out, hp.out]; unfold freeP boundP; rw [hno, hm]; rfl)
          rw [hno] at p0 hw
          have HW1 := Lib.hid hw
          clear hw HW
          go_wp2_with (go_at_call 177; refine HW1.out.mono ?_; rintro e w1 ⟨rfl, hx1⟩)
          go_roundw
          case rel => exact ⟨k + 1, by omega, by go_num, HP, (hx.alloc _).trans' hx1⟩
          case measure => simp [intOf]; omega
        · have hw := (bool_ways HW.out).1 (by rw [has_var]; exact hm)
          have HZ := Lib.hid (all_false (freeP x) _ k y HK.out (by unfold freeP boundP; rw [hno, hm]; rfl))
          rw [hno] at p0 hw
          have HW1 := Lib.hid hw
          clear hw HW
          go_wp2_with (go_at_call 177; refine HW1.out.mono ?_; rintro e w1 ⟨rfl, hx1⟩)
          go_ret
          exact ⟨by rw [HZ.out]; rfl, (hx.alloc _).trans' hx1⟩
      · have HP := Lib.hid (show (body.take (k + 1)).all (freeP x) = true from by rw [all_snoc _ _ k y HK.out, hp.out]; unfold freeP boundP; rw [hno]; rfl)
        rw [hno] at p0
        clear HW
        go_wp2
        go_roundw
        case rel => exact ⟨k + 1, by omega, by go_num, HP, hx.alloc _⟩
        case measure => simp [intOf]; omega
    · have HZ := Lib.hid (all_whole _ _ k hlt hp.out)
      go_wp2
      go_ret
      exact ⟨by rw [HZ.out]; rfl, hx⟩

def tightT (body : List GP) (t : GT) : Bool := !t.v || boundIn body t.n
theorem all_vars (body : List GP) (a : GA) : (varsOf a).all (boundIn body) = a.args.all (tightT body) := by
  unfold varsOf tightT
  induction a.args with
  | nil => rfl
  | cons y xs ih =>
    rw [List.all_cons, ← ih, List.filter_cons]
    cases y.v <;> simp

@[go_sem] theorem as_wv (v : Value) (w : World) : (Instr.typeAssert (.iface 214 v) 178 175 true).run Tryz.prog w = .ok (.tuple #[.string ⟨#[]⟩, .bool false]) w := by kernel_rfl
theorem kindOf_ways (s : ByteArray) (w : World) :
    (Calls Tryz.prog 143 #[.agg #[.bool false, .string s]] w fun e w' => e = .returned (.iface 214 (.string s)) ∧ Ext w w') ∧ (Calls Tryz.prog 143 #[.agg #[.bool true, .string s]] w fun e w' => e = .returned (.iface 175 (.string s)) ∧ Ext w w') :=
  ⟨kindOf_any ⟨false, s⟩ w, kindOf_any ⟨true, s⟩ w⟩

set_option maxRecDepth 100000 in
set_option maxHeartbeats 1000000 in
theorem allBound_any (v u : Value) (body : List GP) (a : GA) (w : World) {S T : Nat → Prop} (hv : PartsR S w v body) (hu : TermsR T w u a.args) :
    Calls Tryz.prog 110 #[v, .agg #[.string a.n, u]] w fun e w' => e = .returned (.bool ((varsOf a).all (boundIn body))) ∧ Ext w w' := by
  obtain ⟨A, c, rfl, hc1, hc2⟩ := SliceR.form hv
  obtain ⟨B, d, rfl, hd1, hd2⟩ := SliceR.form hu
  have HV := Lib.hid (hv.ext ((Ext.refl w).alloc (.cells #[.string a.n, .slice B a.args.length d] 26)))
  have HU := Lib.hid (hu.ext ((Ext.refl w).alloc (.cells #[.string a.n, .slice B a.args.length d] 26)))
  clear hv hu
  rw [all_vars]
  go_enter Tryz.func110, Tryz.ntmps110
  go_wp2
  go_loopw [12] (fun i wr => ∃ k : Nat, k ≤ a.args.length ∧ i = .int .i64 k ∧ Hid ((a.args.take k).all (tightT body) = true) ∧ Ext (w.alloc (.cells #[.string a.n, .slice B a.args.length d] 26)) wr) (fun i _ => a.args.length - (intOf i).toNat)
  case atStart => exact ⟨0, Nat.zero_le _, rfl, rfl, Ext.refl _⟩
  case round =>
    obtain ⟨k, hk, rfl, hp, hx⟩ := hrel
    by_cases hlt : k < a.args.length
    · obtain ⟨b, off, y, rfl, hb, hxk, hxs, p0, p1⟩ := TermsR.at_ (HU.out.ext hx) hlt
      have HK := Lib.hid hxk
      clear hxk
      cases hv : y.v
      · have HP := Lib.hid (show (a.args.take (k + 1)).all (tightT body) = true from by rw [all_snoc _ _ k y HK.out, hp.out]; unfold tightT; rw [hv]; rfl)
        rw [hv] at p0
        go_wp2_with (go_at_call 143; refine (kindOf_ways y.n _).1.mono ?_; rintro e w1 ⟨rfl, hx1⟩)
        go_roundw
        case rel => exact ⟨k + 1, by omega, by go_num, HP, (hx.alloc _).trans' hx1⟩
        case measure => simp [intOf]; omega
      · rw [hv] at p0
        have HB := Lib.hid (fun W (hW : Ext wr W) => bool_ways (isBound_any _ body y.n W ((HV.out.ext hx).ext hW)))
        cases hm : boundIn body y.n
        · have HZ := Lib.hid (all_false (tightT body) _ k y HK.out (by unfold tightT; rw [hv, hm]; rfl))
          have HM := Lib.hid hm
          clear hv hm
          go_wp2_with (first
            | (go_at_call 143; refine (kindOf_ways y.n _).2.mono ?_; rintro e w1 ⟨rfl, hx1⟩; have HX1 := Lib.hid (((Ext.refl wr).alloc _).trans' hx1); clear hx1)
            | (go_at_call 145; refine (variableText_any y.n _).mono ?_; rintro e w2 ⟨rfl, rfl⟩)
            | (go_at_call 144; refine ((HB.out _ HX1.out).2 HM.out).mono ?_; rintro e w3 ⟨rfl, hx3⟩))
          go_ret
          exact ⟨by rw [HZ.out]; rfl, ((Ext.refl _).alloc _).trans' ((hx.trans' HX1.out).trans' hx3)⟩
        · have HP := Lib.hid (show (a.args.take (k + 1)).all (tightT body) = true from by rw [all_snoc _ _ k y HK.out, hp.out]; unfold tightT; rw [hv, hm]; rfl)
          have HM := Lib.hid hm
          clear hv hm
          go_wp2_with (first
            | (go_at_call 143; refine (kindOf_ways y.n _).2.mono ?_; rintro e w1 ⟨rfl, hx1⟩; have HX1 := Lib.hid (((Ext.refl wr).alloc _).trans' hx1); clear hx1)
            | (go_at_call 145; refine (variableText_any y.n _).mono ?_; rintro e w2 ⟨rfl, rfl⟩)
            | (go_at_call 144; refine ((HB.out _ HX1.out).1 HM.out).mono ?_; rintro e w3 ⟨rfl, hx3⟩))
          go_roundw
          case rel => exact ⟨k + 1, by omega, by go_num, HP, (hx.trans' HX1.out).trans' hx3⟩
          case measure => simp [intOf]; omega
    · have HZ := Lib.hid (all_whole _ _ k hlt hp.out)
      go_wp2
      go_ret
      exact ⟨by rw [HZ.out]; rfl, ((Ext.refl _).alloc _).trans' hx⟩

def tightP (body : List GP) (p : GP) : Bool := (varsOf p.atom).all (boundIn body)
set_option maxRecDepth 100000 in
set_option maxHeartbeats 1000000 in
theorem bodyLoose_any (v : Value) (body : List GP) (w : World) {S : Nat → Prop} (hv : PartsR S w v body) :
    Calls Tryz.prog 82 #[v] w fun e w' => e = .returned (.bool (!body.all (tightP body))) ∧ Ext w w' := by
  obtain ⟨A, c, rfl, hc1, hc2⟩ := SliceR.form hv
  have HV := Lib.hid hv
  clear hv
  go_enter Tryz.func82, Tryz.ntmps82
  go_wp2
  go_loopw [7] (fun i wr => ∃ k : Nat, k ≤ body.length ∧ i = .int .i64 k ∧ Hid ((body.take k).all (tightP body) = true) ∧ Ext w wr) (fun i _ => body.length - (intOf i).toNat)
  case atStart => exact ⟨0, Nat.zero_le _, rfl, rfl, Ext.refl _⟩
  case round =>
    obtain ⟨k, hk, rfl, hp, hx⟩ := hrel
    by_cases hlt : k < body.length
    · obtain ⟨b, off, y, z, rfl, hb, hxk, hxs, htx, p0, p1, p2⟩ := PartsR.at_ (HV.out.ext hx) hlt
      obtain ⟨C, e, rfl, he1, he2⟩ := SliceR.form htx
      have HK := Lib.hid hxk
      have hw := bool_ways (allBound_any _ _ body y.atom _ ((HV.out.ext hx).ext ((Ext.refl wr).alloc (.cells #[.bool y.no, .string y.atom.n, .slice C y.atom.args.length e] 37))) (htx.ext ((Ext.refl wr).alloc (.cells #[.bool y.no, .string y.atom.n, .slice C y.atom.args.length e] 37))))
      clear hxk htx
      cases hm : tightP body y
      · have HZ := Lib.hid (all_false (tightP body) _ k y HK.out hm)
        have HW := Lib.hid (hw.2 hm)
        clear hw hm
        go_wp2_with (go_at_call 110; refine HW.out.mono ?_; rintro e w1 ⟨rfl, hx1⟩)
        go_ret
        exact ⟨by rw [HZ.out]; rfl, (hx.alloc _).trans' hx1⟩
      · have HP := Lib.hid (show (body.take (k + 1)).all (tightP body) = true from by rw [all_snoc _ _ k y HK.out, hp.out, hm]; rfl)
        have HW := Lib.hid (hw.1 hm)
        clear hw hm
        go_wp2_with (go_at_call 110; refine HW.out.mono ?_; rintro e w1 ⟨rfl, hx1⟩)
        go_roundw
        case rel => exact ⟨k + 1, by omega, by go_num, HP, (hx.alloc _).trans' hx1⟩
        case measure => simp [intOf]; omega
    · have HZ := Lib.hid (all_whole _ _ k hlt hp.out)
      go_wp2
      go_ret
      exact ⟨by rw [HZ.out]; rfl, hx⟩

set_option maxRecDepth 100000 in
set_option maxHeartbeats 1000000 in
theorem bodyOk_any (v : Value) (body : List GP) (w : World) {S : Nat → Prop} (hv : PartsR S w v body) :
    Calls Tryz.prog 81 #[v] w fun e w' => e = .returned (.bool (decide (body.length ≤ 4) && body.all partOkB)) ∧ Ext w w' := by
  obtain ⟨A, c, rfl, hc1, hc2⟩ := SliceR.form hv
  have HV := Lib.hid hv
  clear hv
  by_cases h4 : body.length ≤ 4
  · have HF := Lib.hid (show (decide (body.length ≤ 4) && body.all partOkB) = body.all partOkB from by simp [h4])
    go_enter Tryz.func81, Tryz.ntmps81
    go_wp2
    go_loopw [10] (fun i wr => ∃ k : Nat, k ≤ body.length ∧ i = .int .i64 k ∧ Hid ((body.take k).all partOkB = true) ∧ Ext w wr) (fun i _ => body.length - (intOf i).toNat)
    case atStart => exact ⟨0, Nat.zero_le _, rfl, rfl, Ext.refl _⟩
    case round =>
      obtain ⟨k, hk, rfl, hp, hx⟩ := hrel
      by_cases hlt : k < body.length
      · obtain ⟨b, off, y, z, rfl, hb, hxk, hxs, htx, p0, p1, p2⟩ := PartsR.at_ (HV.out.ext hx) hlt
        obtain ⟨C, e, rfl, he1, he2⟩ := SliceR.form htx
        have HK := Lib.hid hxk
        have hw := bool_ways (atomOk_any y.atom _ _ hxs (htx.ext ((Ext.refl wr).alloc (.cells #[.bool y.no, .string y.atom.n, .slice C y.atom.args.length e] 37))))
        clear hxk htx
        cases hm : atomOkB y.atom
        · have HZ := Lib.hid (all_false partOkB _ k y HK.out hm)
          have HW := Lib.hid (hw.2 hm)
          clear hw hm
          go_wp2_with (go_at_call 104; refine HW.out.mono ?_; rintro e w1 ⟨rfl, hx1⟩)
          go_ret
          exact ⟨by rw [HF.out, HZ.out]; rfl, (hx.alloc _).trans' hx1⟩
        · have HP := Lib.hid (show (body.take (k + 1)).all partOkB = true from by rw [all_snoc _ _ k y HK.out, hp.out, show partOkB y = true from hm]; rfl)
          have HW := Lib.hid (hw.1 hm)
          clear hw hm
          go_wp2_with (go_at_call 104; refine HW.out.mono ?_; rintro e w1 ⟨rfl, hx1⟩)
          go_roundw
          case rel => exact ⟨k + 1, by omega, by go_num, HP, (hx.alloc _).trans' hx1⟩
          case measure => simp [intOf]; omega
      · have HZ := Lib.hid (all_whole _ _ k hlt hp.out)
        go_wp2
        go_ret
        exact ⟨by rw [HF.out, HZ.out]; rfl, hx⟩
  · have HF := Lib.hid (show (decide (body.length ≤ 4) && body.all partOkB) = false from by simp [h4])
    go_enter Tryz.func81, Tryz.ntmps81
    go_wp2
    go_ret
    exact ⟨by rw [HF.out]; rfl, Ext.refl _⟩

end Go.Proofs.YtfjdijakgjhieaaGreat
