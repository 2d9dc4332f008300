/- The walks of the reference's l3Atom, l3Less, l3Put, l3Copy. -/
import Derived.Test.YthndnkafckapnaaGreatDoorApp
import Derived.Test.YthndnkafckapnaaGreatDoorSpecD
import Derived.Test.YthndnkafckapnaaGreatDoorTo
import Derived.Deep.RegionHeld3
namespace Go.Proofs.YthndnkafckapnaaGreatDoor
open Go.RowKit

set_option maxRecDepth 100000 in
set_option maxHeartbeats 1000000 in
theorem l3Atom_any (a : GA) (v : Value) (w : World) {S : Nat → Prop} (hv : TermsR S w v a.args) (hn : a.args.length ≤ 4194304) :
    Calls Tryz.prog 101 #[.agg #[.string a.n, v]] w fun e w' => (∃ v', e = .returned (.agg #[.string a.n, v']) ∧ TermsR (From w.heap.size) w' v' a.args) ∧ Ext w w' := by
  obtain ⟨A, c, rfl, hc1, hc2⟩ := SliceR.form hv
  obtain ⟨i0, hi0, hz0, hz1, hz2⟩ := info_parts term_info
  have HV := Lib.hid (hv.ext (((Ext.refl w).alloc (.cells #[.string a.n, .slice A a.args.length c] 67)).alloc (.cells #[.string ⟨#[]⟩, .slice none 0 0] 67)))
  have HB := Lib.hid (Blk.new w 67 #[.string a.n, .slice A a.args.length c])
  have HB2 := Lib.hid (Blk.new (w.alloc (.cells #[.string a.n, .slice A a.args.length c] 67)) 67 #[.string ⟨#[]⟩, .slice none 0 0])
  simp only [World.size_alloc] at HB2
  clear hv
  go_enter Tryz.func101, Tryz.ntmps101
  go_wp2
  go_region_held3 (fun w' => w'.cell? ⟨w.heap.size, 0, none⟩ = some (.string a.n) ∧ w'.cell? ⟨w.heap.size, 1, none⟩ = some (.slice A a.args.length c))
    (first | go_keep | exact ⟨hb1.cell 0, hb1.cell 1⟩)
    ((refine step_appK (k := kTerm) (S := None) (T := None) (base := w.heap.size + 2) (by rfl) (.tmp 5) (.tmp 7) 65 (by rfl) i0 _ 24 Tryz.underlying65 hi0 hz0 hz1 hz2 (by rfl) (by rfl) (by first | exact OwnK.empty (by simp) (by omega) | exact (OwnK.empty (by simp) (by omega)).drew) A a.args.length c (by rfl) (by first | exact (ListK.elems (k := kTerm) (S := S) HV.out).ext ((Ext.refl _).drew.alloc _) | exact (ListK.elems (k := kTerm) (S := S) HV.out).ext ((Ext.refl _).alloc _).drew) (fun _ h _ => h) (fun _ _ h => h) (maxOf (by simp; omega)) (by simp; omega) (by go_size) ?_; intro v1 w1 hap; obtain ⟨A1, c1, rfl, hd1, hd2⟩ := hap.own.form; have hb1 := (HB.out.ext (by repeat (first | exact Ext.refl _ | apply Ext.drew | apply Ext.alloc))).below hap.below (by omega); have hb2 := (HB2.out.ext (by repeat (first | exact Ext.refl _ | apply Ext.drew | apply Ext.alloc))).below hap.below (by omega); have q0 := hb2.cell 0; have q1 := hb2.cell 1; have f0 := hb2.frozen 0; have f1 := hb2.frozen 1; have hl := hb2.lt))
  go_wp2
  simp only [List.nil_append] at hap
  refine bodyPost_ret (v := .agg #[.string a.n, .slice A1 a.args.length c1]) (by simp [results, Tryz.results101, go_sem, q0, q1]) rfl ⟨⟨_, rfl, ?_⟩, ?_⟩
  · have h1 := hap.own.list (S' := From (w.heap.size + 2)) (fun _ h => h.elim) (fun _ h => h)
    exact TermsR.imp (S := From (w.heap.size + 2)) (w := w1) h1 (fromLe (by omega)) (((Agree.refl _ _).setCell (by simp) _).setCell (by simp) _) (by go_size)
  · exact Ext.setNew (a := w) (Ext.setNew (hap.toExt (by repeat (first | exact Ext.refl _ | apply Ext.drew | apply Ext.alloc)) (by omega)) (by simp) _) (by simp) _

/-- Facts that are not among others. -/
def lessA (xs ys : List GA) : List GA := xs.filter fun x => !hasA ys x
theorem lessA_take {xs ys : List GA} {k : Nat} {x : GA} (h : xs[k]? = some x) : lessA (xs.take (k + 1)) ys = lessA (xs.take k) ys ++ if hasA ys x = true then [] else [x] := by
  obtain ⟨hk, rfl⟩ := List.getElem?_eq_some_iff.1 h
  unfold lessA
  rw [List.take_succ_eq_append_getElem hk, List.filter_append]
  congr 1
  cases h : hasA ys xs[k] <;> simp [h]
theorem lessA_len (xs ys : List GA) : (lessA xs ys).length ≤ xs.length := List.length_filter_le _ _
theorem wTerms_len (l : List GT) : l.length ≤ wTerms l := Nat.le_add_right _ _
theorem wAtoms_len (l : List GA) : l.length ≤ wAtoms l := Nat.le_add_right _ _
theorem wAtom_args (a : GA) : a.args.length ≤ wAtom a := Nat.le_trans (wTerms_len _) (Nat.le_add_left _ _)

set_option maxRecDepth 100000 in
set_option maxHeartbeats 2000000 in
theorem l3Less_any (v u : Value) (xs ys : List GA) (w : World) {S T : Nat → Prop} (hv : AtomsR S w v xs) (hu : AtomsR T w u ys) (hn : wAtoms xs ≤ 4194304) :
    Calls Tryz.prog 92 #[v, u] w fun e w' => (∃ v', e = .returned v' ∧ AtomsR (From w.heap.size) w' v' (lessA xs ys) ∧ OwnK kAtom w.heap.size 67 (From w.heap.size) w' v' (lessA xs ys)) ∧ Ext w w' := by
  obtain ⟨A, c, rfl, hc1, hc2⟩ := SliceR.form hv
  obtain ⟨B, d, rfl, hd1, hd2⟩ := SliceR.form hu
  obtain ⟨i0, hi0, hz0, hz1, hz2⟩ := info_parts atom_info
  have HV := Lib.hid hv
  have HU := Lib.hid hu
  have HN := Lib.hid hn
  have hlen : xs.length ≤ 4194304 := Nat.le_trans (wAtoms_len _) hn
  clear hv hu hn
  go_enter Tryz.func92, Tryz.ntmps92
  go_wp2
  go_loopw [5, 6] (fun v i wr => ∃ k : Nat, k ≤ xs.length ∧ i = .int .i64 k ∧ Hid (OwnK kAtom w.heap.size 67 (From w.heap.size) wr v (lessA (xs.take k) ys)) ∧ Ext w wr) (fun _ i _ => xs.length - (intOf i).toNat)
  case atStart => exact ⟨0, Nat.zero_le _, rfl, OwnK.empty rfl (Nat.le_refl _), (Ext.refl _).alloc _⟩
  case round =>
    obtain ⟨k, hk, rfl, ho, hx⟩ := hrel
    obtain ⟨A0, c0, rfl, ha0, hb0⟩ := ho.out.form
    have hlk := lessA_len (xs.take k) ys
    rw [List.length_take, Nat.min_eq_left hk] at hlk
    have hsz := hx.size
    by_cases hlt : k < xs.length
    · obtain ⟨b, off, x, v1, rfl, hb, hxk, hxs, ht, hc0, hc1⟩ := AtomsR.at_ (HV.out.ext hx) hlt
      obtain ⟨A1, c1, rfl, ha1, hb1⟩ := SliceR.form ht
      have HX := Lib.hid (show x.args.length ≤ 4194304 from Nat.le_trans (Nat.le_trans (wAtom_args x) (wAtoms_mem (List.mem_of_getElem? hxk))) HN.out)
      have HT := Lib.hid ht
      cases hh : hasA ys x
      · have HK := Lib.hid (show lessA (xs.take (k + 1)) ys = lessA (xs.take k) ys ++ [x] from by rw [lessA_take hxk, hh]; rfl)
        have H2 := Lib.hid hh
        clear hxk hh ht
        go_wp2_with (first
          | (go_at_call 44; refine ((bool_ways (l3Has_any _ _ ys x _ (HU.out.ext hx) HT.out)).2 H2.out).mono ?_; rintro e w1 ⟨rfl, hx1⟩; obtain ⟨hcc, hcf⟩ := hx1.cells)
          | (go_at_call 101; refine (l3Atom_any x _ _ (HT.out.ext hx1) HX.out).mono ?_; rintro e w2 ⟨⟨v2, rfl, ht2⟩, hx2⟩; obtain ⟨A2, c2, rfl, ha2, hb2⟩ := SliceR.form ht2; have HT2 := Lib.hid ht2; clear ht2)
          | (at_builtin; refine wpList_appK (k := kAtom) (T := From w1.heap.size) rfl (.tmp 21) (.tmp 27) 23 (by rfl) i0 _ 40 Tryz.underlying23 hi0 hz0 hz1 hz2 (by rfl) (by rfl) ((ho.out.ext (hx1.trans' hx2)).ext ((Ext.refl _).alloc _)) _ 1 1 (by rfl) (ElemsK.one (k := kAtom) (x := x) (Blk.new _ _ _) ⟨_, rfl, hxs, HT2.out.ext ((Ext.refl _).alloc _)⟩) (fun _ hb _ => Nat.le_trans (hx.trans' hx1).size hb) (fun g hg hT => absurd (Nat.lt_of_lt_of_le (ho.out.at_ g hg).2 hx1.size) (Nat.not_lt.2 hT)) (maxOf (by omega)) (by omega) (Nat.le_trans ((hx.trans' hx1).trans' hx2).size (by go_size)) ?_; intro v3 w3 hap))
        go_roundw
        case rel => exact ⟨k + 1, by omega, by go_num, Lib.hid (by rw [HK.out]; exact hap.own), hap.toExt (((hx.trans' hx1).trans' hx2).alloc _) (Nat.le_refl _)⟩
        case measure => simp [intOf]; omega
      · have HK := Lib.hid (show lessA (xs.take (k + 1)) ys = lessA (xs.take k) ys from by rw [lessA_take hxk, hh]; simp)
        have H2 := Lib.hid hh
        clear hxk hh ht
        go_wp2_with (go_at_call 44; refine ((bool_ways (l3Has_any _ _ ys x _ (HU.out.ext hx) HT.out)).1 H2.out).mono ?_; rintro e w1 ⟨rfl, hx1⟩)
        go_roundw
        case rel => exact ⟨k + 1, by omega, by go_num, Lib.hid (by rw [HK.out]; exact ho.out.ext hx1), hx.trans' hx1⟩
        case measure => simp [intOf]; omega
    · have HK := Lib.hid (show xs.take k = xs from List.take_of_length_le (by omega))
      go_wp2
      go_ret
      have h1 := ho.out.list (S' := From w.heap.size) (fun _ h => h) (fun _ h => h)
      have h2 := ho.out
      rw [HK.out] at h1 h2
      exact ⟨⟨_, rfl, (by rw [HK.out]; exact h1), (by rw [HK.out]; exact h2)⟩, hx⟩

end Go.Proofs.YthndnkafckapnaaGreatDoor
