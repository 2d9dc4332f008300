/- Part of the texts of a proof: own texts joined in the order of their building; what they say stands at each theorem. -/
import Derived.Test.YtmihponoillihaaGreatDoorBas02
import Derived.Test.YtmihponoillihaaGreatDoorBas01
set_option linter.unusedSimpArgs false
set_option linter.unusedVariables false
namespace Go.Proofs.YtmihponoillihaaGreatDoor
open Go.RowKit

/-- Facts with one more. -/
def putA (xs : List GA) (a : GA) : List GA := if hasA xs a = true then xs else xs.take (placeA xs a) ++ [a] ++ xs.drop (placeA xs a)
theorem placeA_le (xs : List GA) (a : GA) : placeA xs a ≤ xs.length := by unfold placeA; exact (List.takeWhile_sublist _).length_le

set_option maxRecDepth 100000 in
set_option maxHeartbeats 4000000 in
theorem l3Put_own (v u : Value) (xs : List GA) (a : GA) (w : World) {S T : Nat → Prop} (hv : AtomsR S w v xs) (hu : TermsR T w u a.args) (hs : a.n.size ≤ maxLen) (hn : xs.length ≤ 4194304) :
 Calls Tryz.prog 74 #[v, .agg #[.string a.n, u]] w fun e w' => (∃ v', e = .returned v' ∧ (OwnK kAtom w.heap.size 54 (fun b => S b ∨ T b) w' v' (putA xs a) ∨ (v' = v ∧ putA xs a = xs))) ∧ Ext w w' := by
 obtain ⟨A, c, rfl, hc1, hc2⟩ := SliceR.form hv
 obtain ⟨B, d, rfl, hd1, hd2⟩ := SliceR.form hu
 obtain ⟨i0, hi0, hz0, hz1, hz2⟩ := info_parts atom_info
 have HB := Lib.hid (Blk.new w 54 #[.string a.n, .slice B a.args.length d])
 have HV := Lib.hid (hv.ext ((Ext.refl w).alloc (.cells #[.string a.n, .slice B a.args.length d] 54)))
 have HU := Lib.hid (hu.ext ((Ext.refl w).alloc (.cells #[.string a.n, .slice B a.args.length d] 54)))
 clear hv hu
 cases hh : hasA xs a
 · have HP := Lib.hid (show putA xs a = xs.take (placeA xs a) ++ [a] ++ xs.drop (placeA xs a) from by unfold putA; rw [hh]; rfl)
   have H2 := Lib.hid hh
   have hpl := placeA_le xs a
   obtain ⟨k, hk⟩ : ∃ k, k = placeA xs a := ⟨_, rfl⟩
   rw [← hk] at hpl HP
   have HK := Lib.hid hk
   have HC := Lib.hid (show ∀ W, Ext (w.alloc (.cells #[.string a.n, .slice B a.args.length d] 54)) W → Calls Tryz.prog 131 #[.slice A xs.length c, .agg #[.string a.n, .slice B a.args.length d]] W fun e w' => e = .returned (.tuple #[.int .i64 k, .bool false]) ∧ Ext W w' from fun W hW =>
    (l3At_any _ _ xs a W (HV.out.ext hW) (HU.out.ext hW)).mono fun e w' ⟨h1, h2⟩ => ⟨by rw [h1, H2.out, HK.out], h2⟩)
   have hk0 : (0 : Int) ≤ (k : Int) := by omega
   have hk1 : (k : Int) ≤ (c : Int) := by omega
   have hk2 : (k : Int) ≤ (xs.length : Int) := by omega
   clear hh hk
   go_enter Tryz.func74, Tryz.ntmps74
   go_wp2_with (go_at_call 131; refine (HC.out _ (Ext.refl _)).mono ?_; rintro e w1 ⟨rfl, hx1⟩; have hb1 := HB.out.ext hx1; have q0 := hb1.cell 0; have q1 := hb1.cell 1; have hl1 := hb1.lt)
   have HX1 := Lib.hid (((Ext.refl w).alloc (.cells #[.string a.n, .slice B a.args.length d] 54)).trans' hx1)
   have HB1 := Lib.hid hb1
   have HE1 := Lib.hid (show ∀ W, Ext w1 W → ElemsK kAtom (fun b => (S b ∨ T b) ∧ b < w1.heap.size) W (.slice A k c) (xs.take k) from fun W hW =>
    ElemsK.ext (((ListK.elems (k := kAtom) (SliceR.fst (HV.out.ext hx1) k hpl)).sub (fun b hb hlt => ⟨.inl hb, hlt⟩))) hW)
   have HE2 := Lib.hid (show ∀ W, Ext w1 W → kAtom.E (fun b => (S b ∨ T b) ∧ b < w1.heap.size) W [.string a.n, .slice B a.args.length d] a from fun W hW =>
    ⟨_, rfl, hs, (TermsR.impL (w := w1) (HU.out.ext hx1) (fun b hb hlt => ⟨.inr hb, hlt⟩) (Agree.of_ext hW) hW.size)⟩)
   have HE3 := Lib.hid (show ∀ W, Ext w1 W → ElemsK kAtom (fun b => (S b ∨ T b) ∧ b < w1.heap.size) W (.slice (if c = k then A else A.map (·.add (k * 2))) (xs.length - k) (c - k)) (xs.drop k) from fun W hW =>
    ElemsK.ext (((ListK.elems (k := kAtom) (SliceR.drop (HV.out.ext hx1) k hpl)).sub (fun b hb hlt => ⟨.inl hb, hlt⟩))) hW)
   have hlk : (xs.take k).length = k := by rw [List.length_take]; omega
   have HLK := Lib.hid hlk
   clear hx1 hb1 hlk
   go_region_held3 (fun w' => w'.cell? ⟨w.heap.size, 0, none⟩ = some (.string a.n) ∧ w'.cell? ⟨w.heap.size, 1, none⟩ = some (.slice B a.args.length d))
    (first | exact ⟨(HB1.out.ext HX4.out).cell 0, (HB1.out.ext HX4.out).cell 1⟩ | exact ⟨(HB1.out.ext HX3.out).cell 0, (HB1.out.ext HX3.out).cell 1⟩ | exact ⟨(HB1.out.ext HX2.out).cell 0, (HB1.out.ext HX2.out).cell 1⟩ | go_keep)
    (first
     | (refine step_appL (o := ⟨some 19, _, _, _, _, _⟩) (k := kAtom) (S := fun b => (S b ∨ T b) ∧ b < w1.heap.size) (T := fun b => (S b ∨ T b) ∧ b < w1.heap.size) (base := w1.heap.size) (v := .slice (some ⟨_, 0, none⟩) 0 0) (xs := []) (ys := xs.take k) (by rfl) (.tmp 15) (.tmp 18) 30 (by rfl) i0 _ 40 Tryz.underlying30 hi0 hz0 hz1 hz2 (by rfl) (by rfl)
         (by first | exact OwnK.drew (OwnK.empty rfl (Nat.le_refl _)) | exact OwnK.drew (OwnK.alloc (OwnK.empty rfl (Nat.le_refl _)) _) | exact OwnK.drew (OwnK.empty (w := w1.alloc _) (by simp) (by simp))) A k c (by rfl) (HE1.out _ (by first | exact Ext.drew (Ext.alloc (Ext.refl _) _) | exact Ext.drew (Ext.alloc (Ext.alloc (Ext.refl _) _) _))) (fun b hb => ⟨hb, hb.2⟩) (maxOf (by simp; omega)) (by simp; omega) (by go_size) ?_
        intro v1 w2 hap1; obtain ⟨A1, n1, c1, rfl, hn1, hd11, hd12⟩ := hap1.own.form2; have HX2 := Lib.hid (hap1.toExt (w0 := w1) (by first | exact Ext.drew (Ext.alloc (Ext.refl _) _) | exact Ext.drew (Ext.alloc (Ext.alloc (Ext.refl _) _) _)) (Nat.le_refl _)); have HA1 := Lib.hid hap1; clear hap1)
     | (refine step_appL (o := ⟨some 22, _, _, _, _, _⟩) (k := kAtom) (S := fun b => (S b ∨ T b) ∧ b < w1.heap.size) (T := fun b => (S b ∨ T b) ∧ b < w1.heap.size) (base := w1.heap.size) (xs := [] ++ xs.take k) (ys := [a]) (by rfl) (.tmp 19) (.tmp 21) 30 (by rfl) i0 _ 40 Tryz.underlying30 hi0 hz0 hz1 hz2 (by rfl) (by rfl)
         (by first | exact HA1.out.own | exact OwnK.alloc HA1.out.own _) _ 1 1 (by rfl) (ElemsK.one (k := kAtom) (x := a) (by first | exact Blk.at_new rfl | exact HA1.out.blk2 (Blk.drew (Blk.at_new (w := w1.alloc _) (by simp))) (by simp [Value.ownBlock]) | exact HA1.out.blk2 (Blk.drew (Blk.alloc (Blk.at_new rfl) _)) (by simp [Value.ownBlock])) (HE2.out _ (by first | exact HX2.out | exact Ext.alloc HX2.out _))) (fun b hb => ⟨hb, hb.2⟩) (maxOf (by simp; omega)) (by simp; omega) (by have := HX2.out.size; go_size) ?_
        intro v2 w3 hap2; obtain ⟨A2, n2, c2, rfl, hn2, hd21, hd22⟩ := hap2.own.form2; have HX3 := Lib.hid (hap2.toExt (w0 := w1) (by first | exact HX2.out | exact Ext.alloc HX2.out _) (Nat.le_refl _)); have HA2 := Lib.hid hap2; clear hap2)
     | (refine step_appL (o := ⟨some 26, _, _, _, _, _⟩) (k := kAtom) (S := fun b => (S b ∨ T b) ∧ b < w1.heap.size) (T := fun b => (S b ∨ T b) ∧ b < w1.heap.size) (base := w1.heap.size) (xs := ([] ++ xs.take k) ++ [a]) (ys := xs.drop k) (by rfl) (.tmp 22) (.tmp 25) 30 (by rfl) i0 _ 40 Tryz.underlying30 hi0 hz0 hz1 hz2 (by rfl) (by rfl)
         (by exact HA2.out.own) _ _ _ (by rfl) (HE3.out _ HX3.out) (fun b hb => ⟨hb, hb.2⟩) (maxOf (by simp; omega)) (by simp; omega) (by have := HX3.out.size; go_size) ?_
        intro v3 w4 hap3; obtain ⟨A3, n3, c3, rfl, hn3, hd31, hd32⟩ := hap3.own.form2; have HX4 := Lib.hid (hap3.toExt (w0 := w1) HX3.out (Nat.le_refl _)); have HA3 := Lib.hid hap3; clear hap3))
   all_goals go_wp2
   all_goals
    go_ret
    refine ⟨⟨_, rfl, ?_⟩, HX1.out.trans' HX4.out⟩
    rw [HP.out]
    have h := HA3.out.own.sub (base' := w.heap.size) (S' := fun b => S b ∨ T b) (Nat.le_of_lt hl1) (fun b hb => hb.1)
    simp only [List.nil_append] at h
    exact .inl h
 · have HP := Lib.hid (show putA xs a = xs from by unfold putA; rw [if_pos hh])
   have H2 := Lib.hid hh
   obtain ⟨k, hk⟩ : ∃ k, k = placeA xs a := ⟨_, rfl⟩
   have HK := Lib.hid hk
   have HC := Lib.hid (show Calls Tryz.prog 131 #[.slice A xs.length c, .agg #[.string a.n, .slice B a.args.length d]] (w.alloc (.cells #[.string a.n, .slice B a.args.length d] 54)) fun e w' => e = .returned (.tuple #[.int .i64 k, .bool true]) ∧ Ext (w.alloc (.cells #[.string a.n, .slice B a.args.length d] 54)) w' from
    (l3At_any _ _ xs a _ HV.out HU.out).mono fun e w' ⟨h1, h2⟩ => ⟨by rw [h1, H2.out, HK.out], h2⟩)
   clear hh hk
   go_enter Tryz.func74, Tryz.ntmps74
   go_wp2_with (go_at_call 131; refine HC.out.mono ?_; rintro e w1 ⟨rfl, hx1⟩)
   go_ret
   exact ⟨⟨_, rfl, .inr ⟨rfl, HP.out⟩⟩, ((Ext.refl _).alloc _).trans' hx1⟩

end Go.Proofs.YtmihponoillihaaGreatDoor

namespace Go.Proofs.YtmihponoillihaaGreatDoor
open Go.RowKit

/-- A slice value whose elements lie apart from each other, and from the slice's own block; all may be written. -/
def SliceO {α : Type} (k : Kind α) (S : Nat → Prop) (w : World) (v : Value) (xs : List α) : Prop :=
 ∃ A c, v = .slice A xs.length c ∧ xs.length ≤ c ∧ c ≤ maxLen ∧
   (0 < xs.length → ∃ (b off : Nat) (F : Nat → Nat → Prop), A = some ⟨b, off, none⟩ ∧ b < w.heap.size ∧ S b ∧
    (∀ j, j < xs.length * k.size → w.frozen? ⟨b, off + j, none⟩ = false) ∧
    (∀ i n, F i n → S n ∧ n ≠ b ∧ n < w.heap.size) ∧ (∀ i j n, F i n → F j n → i = j) ∧
    ∀ (i : Nat) (x : α), xs[i]? = some x → ∃ cs : List Value, cs.length = k.size ∧ (∀ (j : Nat) (u : Value), cs[j]? = some u → w.cell? ⟨b, off + (i * k.size + j), none⟩ = some u) ∧ k.E (F i) w cs x)

section
variable {α : Type} {k : Kind α} {S S' : Nat → Prop} {w w' : World} {v : Value} {xs : List α}
theorem SliceO.imp (h : SliceO k S w v xs) (hS : ∀ b, S b → b < w.heap.size → S' b) (he : Agree S w w') (hsz : w.heap.size ≤ w'.heap.size) : SliceO k S' w' v xs := by
 obtain ⟨A, c, hv, h1, h2, h3⟩ := h
 refine ⟨A, c, hv, h1, h2, fun h0 => ?_⟩
 obtain ⟨b, off, F, ha, hb, hs, hfr, hF, hdis, hc⟩ := h3 h0
 refine ⟨b, off, F, ha, Nat.lt_of_lt_of_le hb hsz, hS b hs hb, fun j hj => (World.frozen?_of_block (w := w) (a := ⟨b, _, none⟩) (he b hs hb)).trans (hfr j hj), fun i n hn => ⟨hS n (hF i n hn).1 (hF i n hn).2.2, (hF i n hn).2.1, Nat.lt_of_lt_of_le (hF i n hn).2.2 hsz⟩, hdis, fun i x hx => ?_⟩
 obtain ⟨cs, hl, hcs, hEx⟩ := hc i x hx
 exact ⟨cs, hl, fun j u hu => (World.cell?_of_block (w := w) (a := ⟨b, _, none⟩) (he b hs hb)).trans (hcs j u hu), k.imp hEx (fun _ h _ => h) (fun n hn hlt => he n (hF i n hn).1 hlt) hsz⟩
theorem SliceO.ext (h : SliceO k S w v xs) (he : Ext w w') : SliceO k S w' v xs := h.imp (fun _ h _ => h) (.of_ext he) he.size
theorem SliceO.nil (c : Nat) (hc : c ≤ maxLen) (A : Option Addr) : SliceO k S w (.slice A 0 c) ([] : List α) := ⟨A, c, rfl, Nat.zero_le _, hc, fun h => absurd h (by simp)⟩
theorem SliceO.form (h : SliceO k S w v xs) : ∃ A c, v = .slice A xs.length c ∧ xs.length ≤ c ∧ c ≤ 9223372036854775807 := by
 obtain ⟨A, c, hv, h1, h2, _⟩ := h; exact ⟨A, c, hv, h1, h2⟩
theorem SliceO.low (h : SliceO k S w v xs) : SliceO k (fun b => S b ∧ b < w.heap.size) w v xs := h.imp (fun _ hb hlt => ⟨hb, hlt⟩) (.refl _ _) (Nat.le_refl _)
/-- To be read. -/
theorem SliceO.read {E' : (Nat → Prop) → World → List Value → α → Prop} (h : SliceO k S w v xs) (hE : ∀ T l x, k.E T w l x → (∀ b, T b → S b) → E' S w l x) : SliceR S k.size (E' S) w v xs := by
 obtain ⟨A, c, hv, h1, h2, h3⟩ := h
 refine ⟨A, c, hv, h1, h2, fun h0 => ?_⟩
 obtain ⟨b, off, F, ha, hb, hs, _, hF, _, hc⟩ := h3 h0
 refine ⟨b, off, ha, hb, hs, fun i x hx => ?_⟩
 obtain ⟨cs, hl, hcs, hEx⟩ := hc i x hx
 exact ⟨cs, hl, hcs, hE _ _ _ hEx (fun n hn => (hF i n hn).1)⟩
end

/-- An own slice under construction, whose elements lie apart. -/
def OwnO {α : Type} (k : Kind α) (base : Nat) (e : TypeId) (S : Nat → Prop) (w : World) (v : Value) (xs : List α) : Prop :=
 ∃ (rows : List Value) (F : Nat → Nat → Prop), w.ownsRow base e k.size v xs.length rows ∧ rows.length = xs.length * k.size ∧
   (∀ (i : Nat) (x : α), xs[i]? = some x → ∃ l : List Value, l.length = k.size ∧ (∀ (j : Nat) (u : Value), l[j]? = some u → rows[i * k.size + j]? = some u) ∧ k.E (F i) w l x) ∧
   (∀ i n, F i n → S n ∧ n < w.heap.size) ∧ (∀ i j n, F i n → F j n → i = j) ∧ (∀ g, v.ownBlock = some g → ∀ i, ¬ F i g)

section
variable {α : Type} {k : Kind α} {S S' T : Nat → Prop} {w w' : World} {v : Value} {xs ys : List α} {base : Nat} {e : TypeId}
theorem OwnO.nil : OwnO k base e S w (.slice none 0 0) [] := ⟨[], fun _ _ => False, World.ownsRow_nil _ _ _ _, by simp, fun i x h => by simp at h, fun _ _ h => h.elim, fun _ _ _ h => h.elim, fun _ _ _ h => h⟩
theorem OwnO.at_ (h : OwnO k base e S w v xs) : ∀ g, v.ownBlock = some g → base ≤ g ∧ g < w.heap.size := by
 obtain ⟨rows, F, h1, _⟩ := h
 exact h1.lt
theorem OwnO.form2 (h : OwnO k base e S w v xs) : ∃ A n c, v = .slice A n c ∧ Hid (n = xs.length) ∧ n ≤ c ∧ c ≤ 9223372036854775807 := by
 obtain ⟨rows, F, h1, _⟩ := h
 rcases h1.2 with ⟨rfl, h0⟩ | ⟨g, cap, cur, rfl, _, _, h2, h3, _⟩
 · exact ⟨none, 0, 0, rfl, Lib.hid h0.symm, by omega, by omega⟩
 · exact ⟨_, _, _, rfl, Lib.hid rfl, h2, h3⟩
theorem OwnO.agree (h : OwnO k base e S w v xs) (h1 : Agree S w w') (h2 : ∀ g, v.ownBlock = some g → w'.heap[g]? = w.heap[g]?) (hsz : w.heap.size ≤ w'.heap.size) : OwnO k base e S w' v xs := by
 obtain ⟨rows, F, k1, k2, k3, k4, k5, k6⟩ := h
 refine ⟨rows, F, ⟨k1.1, ?_⟩, k2, fun i x hx => ?_, fun i n hn => ⟨(k4 i n hn).1, Nat.lt_of_lt_of_le (k4 i n hn).2 hsz⟩, k5, k6⟩
 · rcases k1.2 with h0 | ⟨g, cap, cur, rfl, hb, hc, h3⟩
   · exact .inl h0
   · exact .inr ⟨g, cap, cur, rfl, hb, (h2 g rfl).trans hc, h3⟩
 · obtain ⟨l, m1, m2, m3⟩ := k3 i x hx
   exact ⟨l, m1, m2, k.imp m3 (fun _ h _ => h) (fun n hn hlt => h1 n (k4 i n hn).1 hlt) hsz⟩
theorem OwnO.ext (h : OwnO k base e S w v xs) (he : Ext w w') : OwnO k base e S w' v xs := h.agree (.of_ext he) (fun g hg => he.block g (h.at_ g hg).2) he.size
theorem OwnO.slice (h : OwnO k base e S w v xs) (hS : ∀ b, S b → S' b) (hS' : ∀ b, base ≤ b → S' b) : SliceO k S' w v xs := by
 obtain ⟨rows, F, k1, k2, k3, k4, k5, k6⟩ := h
 rcases k1.2 with ⟨rfl, h0⟩ | ⟨g, cap, cur, rfl, hb, hc, h2, h3, h4, h5⟩
 · have : xs = [] := List.eq_nil_of_length_eq_zero h0
   subst this
   exact SliceO.nil 0 (Nat.zero_le _) none
 · have hblk : Blk w g e cur := hc
   refine ⟨_, cap, rfl, h2, h3, fun _ => ⟨g, 0, F, rfl, hblk.lt, hS' g hb, fun j _ => hblk.frozen _, fun i n hn => ⟨hS n (k4 i n hn).1, fun e => k6 g rfl i (e ▸ hn), (k4 i n hn).2⟩, k5, fun i x hx => ?_⟩⟩
   obtain ⟨l, m1, m2, m3⟩ := k3 i x hx
   refine ⟨l, m1, fun j u hu => ?_, m3⟩
   have h6 := m2 j u hu
   rw [← h5, List.getElem?_take] at h6
   split at h6
   · rw [hblk.cell, Nat.zero_add]
     simpa using h6
   · cases h6

/-- What an append of one element leaves. -/
structure AppedO (k : Kind α) (base : Nat) (e : TypeId) (S : Nat → Prop) (w : World) (v : Value) (zs : List α) (v' : Value) (w' : World) : Prop where
 own : OwnO k base e S w' v' zs
 below : Below base w w'
 grown : w.grownBy w' v.ownBlock
 at_ : v'.ownBlock = v.ownBlock ∨ v'.ownBlock = some w.heap.size

theorem AppedO.toExt {w0 w w' : World} {v v' : Value} {zs : List α} (h : AppedO k base e S w v zs v' w') (hx : Ext w0 w) (hb : w0.heap.size ≤ base) : Ext w0 w' := Below.trans hx (h.below.mono hb)
theorem run_appO {P : Program} (w : World) (t ty : TypeId) (i : TypeInfo) (z : Value) (bytes : Nat) (ht : P.underlying t = some (.slice e)) (hi : P.info? e = some i) (hz : i.zero = some z)
 (hsize : i.size = k.size) (hby : i.bytes = bytes) (hzs : z.cells.size = k.size)
 (hown : OwnO k base e S w v xs) (l : List Value) (x : α) (gb : Nat) (tb : TypeId) (hE : k.E T w l x) (hb : Blk w gb tb l.toArray) (hT : ∀ b, T b → b < w.heap.size → S' b) (hS : ∀ b, S b → S' b) (hdis : ∀ b, T b → ¬ S b) (hTv : ∀ g, v.ownBlock = some g → ¬ T g)
 (h63 : xs.length + 1 ≤ maxLen) (hbytes : (xs.length + 1) * bytes ≤ 140737488355328) (hbase : base ≤ w.heap.size) :
 ∃ v' w', (Builtin.append_ #[t, t] ty #[v, .slice (some ⟨gb, 0, none⟩) 1 1]).run P w = .ok v' w' ∧ AppedO k base e S' w v (xs ++ [x]) v' w' := by
 obtain ⟨rows, F, k1, k2, k3, k4, k5, k6⟩ := id hown
 have hlt := k1.lt
 have hl := k.len hE
 obtain ⟨v', w', hr, h1, h2, h3, h4⟩ := run_append_own_at (P := P) w base t ty e i z k.size bytes ht hi hz hsize hby hzs k.pos v xs.length rows k1 ⟨gb, 0, none⟩ 1 1 l (by rw [hl]; omega)
  (fun j u hj => by rw [addr_add, Nat.zero_add, hb.cell]; simpa using hj) (fun u hu => k.one hE u hu) h63 hbytes hbase
 have hbl := grown_below h2 (fun g hg => (hlt g hg).1) hbase
 have hlen : (xs ++ [x]).length = xs.length + 1 := by simp
 refine ⟨v', w', hr, ⟨rows ++ l, fun i n => (i < xs.length ∧ F i n) ∨ (i = xs.length ∧ T n ∧ n < w.heap.size), by rw [hlen]; exact h1, by rw [List.length_append, k2, hl, hlen, Nat.add_mul, Nat.one_mul], fun i y hy => ?_, fun i n hn => ?_, fun i j n hi hj => ?_, fun g hg i hn => ?_⟩, hbl, h2, h4⟩
 · rcases Nat.lt_or_ge i xs.length with hix | hix
   · rw [List.getElem?_append_left hix] at hy
     obtain ⟨l', m1, m2, m3⟩ := k3 i y hy
     refine ⟨l', m1, fun j u hu => ?_, k.imp m3 (fun b hb _ => .inl ⟨hix, hb⟩) (fun b hb hlt' => h2.block b hlt' (fun e => k6 b e.symm i hb)) h2.size⟩
     have := m2 j u hu
     rw [List.getElem?_append_left (List.getElem?_eq_some_iff.1 this).1]
     exact this
   · rw [List.getElem?_append_right hix] at hy
     have hi0 : i = xs.length := by
      have := (List.getElem?_eq_some_iff.1 hy).1
      simp at this; omega
     subst hi0
     simp at hy
     subst hy
     refine ⟨l, hl, fun j u hu => ?_, k.imp hE (fun b hb hlt' => .inr ⟨rfl, hb, hlt'⟩) (fun b hb hlt' => h2.block b hlt' (fun e => hTv b e.symm hb)) h2.size⟩
     rw [← k2, List.getElem?_append_right (Nat.le_add_right _ _), Nat.add_sub_cancel_left]
     exact hu
 · rcases hn with ⟨_, hn⟩ | ⟨_, hn, hlt'⟩
   · exact ⟨hS n (k4 i n hn).1, Nat.lt_of_lt_of_le (k4 i n hn).2 h2.size⟩
   · exact ⟨hT n hn hlt', Nat.lt_of_lt_of_le hlt' h2.size⟩
 · rcases hi with ⟨hi1, hi2⟩ | ⟨hi1, hi2, _⟩ <;> rcases hj with ⟨hj1, hj2⟩ | ⟨hj1, hj2, _⟩
   · exact k5 i j n hi2 hj2
   · exact absurd (k4 i n hi2).1 (hdis n hj2)
   · exact absurd (k4 j n hj2).1 (hdis n hi2)
   · omega
 · rcases h4 with h4 | h4
   · rw [h4] at hg
     rcases hn with ⟨_, hn⟩ | ⟨_, hn, _⟩
     · exact k6 g hg i hn
     · exact hTv g hg hn
   · rw [h4] at hg; injection hg with hg
     rcases hn with ⟨_, hn⟩ | ⟨_, hn, hlt'⟩
     · have := (k4 i g hn).2; omega
     · omega

theorem wp_appO {P : Program} (w : World) {o : Oper} {a : Act} {K : Act → World → Prop} {Q : Exit → Act → World → Prop} (s x' : Operand) (t : TypeId)
 (ho : o.op = .call { callee := .builtin .append, args := #[s, x'], argTypes := #[t, t] })
 (i : TypeInfo) (z : Value) (bytes : Nat) (ht : P.underlying t = some (.slice e)) (hi : P.info? e = some i) (hz : i.zero = some z)
 (hsize : i.size = k.size) (hby : i.bytes = bytes) (hzs : z.cells.size = k.size)
 (hs : a.eval s = v) (hown : OwnO k base e S w v xs) (gb : Nat) (hx : a.eval x' = .slice (some ⟨gb, 0, none⟩) 1 1) (l : List Value) (x : α) (tb : TypeId) (hE : k.E T w l x) (hb : Blk w gb tb l.toArray) (hT : ∀ b, T b → b < w.heap.size → S' b) (hS : ∀ b, S b → S' b) (hdis : ∀ b, T b → ¬ S b) (hTv : ∀ g, v.ownBlock = some g → ¬ T g)
 (h63 : xs.length + 1 ≤ maxLen) (hbytes : (xs.length + 1) * bytes ≤ 140737488355328) (hbase : base ≤ w.heap.size)
 (h : ∀ v' w', AppedO k base e S' w v (xs ++ [x]) v' w' → K (a.put o.dst v') w') : o.wp P a w K Q := by
 obtain ⟨v', w', hr, h2⟩ := run_appO (P := P) w t o.type i z bytes ht hi hz hsize hby hzs hown l x gb tb hE hb hT hS hdis hTv h63 hbytes hbase
 unfold Oper.wp execOp
 simp only [ho, resolve, invoke, builtin, Sem.run_bind, Sem.run_pure, Result.andThen_ok, List.map_toArray, List.map_cons, List.map_nil, hs, hx, hr]
 exact h v' w' h2

theorem wpList_appO {P : Program} {w : World} {ops : Array Oper} {rest : List Oper} {o : Oper} {a : Act} {Q : Exit → Act → World → Prop} (hgd : o.guard = none) (s x' : Operand) (t : TypeId)
 (ho : o.op = .call { callee := .builtin .append, args := #[s, x'], argTypes := #[t, t] })
 (i : TypeInfo) (z : Value) (bytes : Nat) (ht : P.underlying t = some (.slice e)) (hi : P.info? e = some i) (hz : i.zero = some z)
 (hsize : i.size = k.size) (hby : i.bytes = bytes) (hzs : z.cells.size = k.size)
 (hs : a.eval s = v) (hown : OwnO k base e S w v xs) (gb : Nat) (hx : a.eval x' = .slice (some ⟨gb, 0, none⟩) 1 1) (l : List Value) (x : α) (tb : TypeId) (hE : k.E T w l x) (hb : Blk w gb tb l.toArray) (hT : ∀ b, T b → b < w.heap.size → S' b) (hS : ∀ b, S b → S' b) (hdis : ∀ b, T b → ¬ S b) (hTv : ∀ g, v.ownBlock = some g → ¬ T g)
 (h63 : xs.length + 1 ≤ maxLen) (hbytes : (xs.length + 1) * bytes ≤ 140737488355328) (hbase : base ≤ w.heap.size)
 (h : ∀ v' w', AppedO k base e S' w v (xs ++ [x]) v' w' → wpList P ops Q rest (a.put o.dst v') w') : wpList P ops Q (o :: rest) a w :=
 wpList_plain hgd fun _ hK => wp_appO w s x' t ho i z bytes ht hi hz hsize hby hzs hs hown gb hx l x tb hE hb hT hS hdis hTv h63 hbytes hbase fun v' w' h2 => hK _ _ (h v' w' h2)
end

/-! ### The kinds -/
def TermsO (S : Nat → Prop) : World → Value → List GT → Prop := SliceO kTerm S
def AtomEO (S : Nat → Prop) (w : World) (cs : List Value) (a : GA) : Prop := ∃ v, cs = [.string a.n, v] ∧ a.n.size ≤ maxLen ∧ TermsO S w v a.args
theorem TermsO.imp {S S' : Nat → Prop} {w w' : World} {v : Value} {xs : List GT} (h : TermsO S w v xs) (hS : ∀ b, S b → b < w.heap.size → S' b) (he : Agree S w w') (hsz : w.heap.size ≤ w'.heap.size) : TermsO S' w' v xs := SliceO.imp h hS he hsz
theorem TermsO.read {S : Nat → Prop} {w : World} {v : Value} {xs : List GT} (h : TermsO S w v xs) : TermsR S w v xs := SliceO.read (E' := fun _ => TermE) h (fun _ _ _ h _ => h)
theorem OwnK.termsO {base : Nat} {e : TypeId} {S : Nat → Prop} {w : World} {v : Value} {xs : List GT} (h : OwnK kTerm base e S w v xs) : TermsO (From base) w v xs := by
 obtain ⟨rows, T, k1, k2, _, _⟩ := h
 have h1 : OwnO kTerm base e None w v xs := ⟨rows, fun _ _ => False, k1, k2.1, fun i x hx => k2.2 i x hx, fun _ _ h => h.elim, fun _ _ _ h => h.elim, fun _ _ _ h => h⟩
 exact OwnO.slice h1 (fun _ h => h.elim) (fun _ h => h)
def kAtomO : Kind GA := ⟨2, AtomEO, by decide, fun h hS he hsz => by obtain ⟨v, h1, h2, h3⟩ := h; exact ⟨v, h1, h2, h3.imp hS he hsz⟩,
 fun {_ _ l x} h => by
  obtain ⟨v, rfl, _, ht⟩ := h
  obtain ⟨A, c, rfl, _⟩ := SliceO.form ht
  intro u hu; simp at hu; rcases hu with rfl | rfl <;> rfl, fun h => by obtain ⟨v, rfl, _⟩ := h; rfl⟩
def AtomsO (S : Nat → Prop) : World → Value → List GA → Prop := SliceO kAtomO S
theorem AtomEO.read {S T : Nat → Prop} {w : World} {l : List Value} {a : GA} (h : AtomEO T w l a) (hS : ∀ b, T b → S b) : AtomE S w l a := by
 obtain ⟨v, h1, h2, h3⟩ := h
 exact ⟨v, h1, h2, TermsR.sub h3.read hS⟩
theorem AtomsO.read {S : Nat → Prop} {w : World} {v : Value} {xs : List GA} (h : AtomsO S w v xs) : AtomsR S w v xs := SliceO.read (k := kAtomO) (E' := AtomE) h (fun _ _ _ h hS => AtomEO.read h hS)

end Go.Proofs.YtmihponoillihaaGreatDoor

namespace Go.Proofs.YtmihponoillihaaGreatDoor
open Go.RowKit

section
variable {α : Type} {k : Kind α} {S S' T : Nat → Prop} {w w' : World} {v u : Value} {xs : List α}
theorem SliceO.set (h : SliceO k S w v xs) {p : Addr} (hp : ¬ S p.block) (u : Value) : SliceO k S (w.setCell p u) v xs :=
 h.imp (fun _ h _ => h) ((Agree.refl _ _).setCell hp u) (by simp [World.setCell])
theorem SliceO.setAt (h : SliceO k S w v xs) {b o : Nat} (hp : ¬ S b) (u : Value) : SliceO k S (w.setCell ⟨b, o, none⟩ u) v xs := h.set (p := ⟨b, o, none⟩) hp u
theorem SliceO.one {v : Value} {xs : List α} (h : SliceO k S w v xs) : v.oneCell' = true := by obtain ⟨A, c, rfl, _⟩ := h.form; rfl
theorem ListK.one {v : Value} {xs : List α} (h : ListK k S w v xs) : v.oneCell' = true := by obtain ⟨A, c, rfl, _⟩ := SliceR.form h; rfl
end

theorem AtomsR.impL {S S' : Nat → Prop} {w w' : World} {v : Value} {xs : List GA} (h : AtomsR S w v xs) (hS : ∀ b, S b → b < w.heap.size → S' b) (he : Agree S w w') (hsz : w.heap.size ≤ w'.heap.size) : AtomsR S' w' v xs := ListK.imp (k := kAtom) h hS he hsz
def kPart : Kind GP := ⟨3, PartE, by decide, fun h hS he hsz => by obtain ⟨v, h1, h2, h3⟩ := h; exact ⟨v, h1, h2, h3.impL hS he hsz⟩,
 fun {_ _ l x} h => by obtain ⟨v, rfl, _, ht⟩ := h; intro u hu; simp at hu; rcases hu with rfl | rfl | rfl <;> first | rfl | exact ListK.one (k := kTerm) ht, fun h => by obtain ⟨v, rfl, _⟩ := h; rfl⟩
theorem PartsR.impL {S S' : Nat → Prop} {w w' : World} {v : Value} {xs : List GP} (h : PartsR S w v xs) (hS : ∀ b, S b → b < w.heap.size → S' b) (he : Agree S w w') (hsz : w.heap.size ≤ w'.heap.size) : PartsR S' w' v xs := ListK.imp (k := kPart) h hS he hsz
def kRule : Kind GR := ⟨3, RuleE, by decide, fun h hS he hsz => by obtain ⟨v, u, h1, h2, h3, h4⟩ := h; exact ⟨v, u, h1, h2, h3.impL hS he hsz, h4.impL hS he hsz⟩,
 fun {_ _ l x} h => by obtain ⟨v, u, rfl, _, ht, hp⟩ := h; intro y hy; simp at hy; rcases hy with rfl | rfl | rfl <;> first | rfl | exact ListK.one (k := kTerm) ht | exact ListK.one (k := kPart) hp, fun h => by obtain ⟨v, u, rfl, _⟩ := h; rfl⟩
theorem RulesR.impL {S S' : Nat → Prop} {w w' : World} {v : Value} {xs : List GR} (h : RulesR S w v xs) (hS : ∀ b, S b → b < w.heap.size → S' b) (he : Agree S w w') (hsz : w.heap.size ≤ w'.heap.size) : RulesR S' w' v xs := ListK.imp (k := kRule) h hS he hsz
def kChange : Kind GC := ⟨2, ChangeE, by decide, fun h hS he hsz => by obtain ⟨v, u, h1, h2, h3⟩ := h; exact ⟨v, u, h1, h2.impL hS he hsz, h3.impL hS he hsz⟩,
 fun {_ _ l x} h => by obtain ⟨v, u, rfl, ht, hp⟩ := h; intro y hy; simp at hy; rcases hy with rfl | rfl <;> first | exact ListK.one (k := kAtom) ht | exact ListK.one (k := kAtom) hp, fun h => by obtain ⟨v, u, rfl, _⟩ := h; rfl⟩
def ChangesR (S : Nat → Prop) : World → Value → List GC → Prop := SliceR S 2 (ChangeE S)
theorem ChangesR.impL {S S' : Nat → Prop} {w w' : World} {v : Value} {xs : List GC} (h : ChangesR S w v xs) (hS : ∀ b, S b → b < w.heap.size → S' b) (he : Agree S w w') (hsz : w.heap.size ≤ w'.heap.size) : ChangesR S' w' v xs := ListK.imp (k := kChange) h hS he hsz
theorem ChangesR.ext {S : Nat → Prop} {w w' : World} {v : Value} {xs : List GC} (h : ChangesR S w v xs) (he : Ext w w') : ChangesR S w' v xs := h.impL (fun _ h _ => h) (.of_ext he) he.size
theorem ChangesR.sub {S S' : Nat → Prop} {w : World} {v : Value} {xs : List GC} (h : ChangesR S w v xs) (hS : ∀ b, S b → S' b) : ChangesR S' w v xs := h.impL (fun b hb _ => hS b hb) (.refl _ _) (Nat.le_refl _)
theorem ChangesR.at_ {S : Nat → Prop} {w : World} {A : Option Addr} {n c : Nat} {xs : List GC} (h : ChangesR S w (.slice A n c) xs) {k : Nat} (hk : k < n) :
 ∃ (b off : Nat) (x : GC) (v u : Value), A = some ⟨b, off, none⟩ ∧ b < w.heap.size ∧ xs[k]? = some x ∧ AtomsR S w v x.comes ∧ AtomsR S w u x.goes ∧
   w.cell? ⟨b, off + k * 2, none⟩ = some v ∧ w.cell? ⟨b, off + k * 2 + 1, none⟩ = some u := by
 obtain ⟨b, off, x, cs, hA, hb, hx, _, hc, v, u, rfl, ht, hp⟩ := SliceR.at_ h hk
 exact ⟨b, off, x, v, u, hA, hb, hx, ht, hp, hc 0 _ rfl, hc 1 _ rfl⟩

def ChangeEO (S : Nat → Prop) (w : World) (cs : List Value) (c : GC) : Prop := ∃ (v u : Value) (S1 S2 : Nat → Prop), cs = [v, u] ∧ AtomsO S1 w v c.comes ∧ AtomsO S2 w u c.goes ∧ (∀ b, S1 b → S b) ∧ (∀ b, S2 b → S b) ∧ ∀ b, S1 b → ¬ S2 b
theorem ChangeEO.imp {S S' : Nat → Prop} {w w' : World} {cs : List Value} {x : GC} (h : ChangeEO S w cs x) (hS : ∀ b, S b → b < w.heap.size → S' b) (he : Agree S w w') (hsz : w.heap.size ≤ w'.heap.size) : ChangeEO S' w' cs x := by
 obtain ⟨v, u, S1, S2, h1, h3, h4, h5, h6, h7⟩ := h
 exact ⟨v, u, fun b => S1 b ∧ b < w.heap.size, fun b => S2 b ∧ b < w.heap.size, h1, SliceO.imp h3 (fun b hb hlt => ⟨hb, hlt⟩) (fun b hb hlt => he b (h5 b hb) hlt) hsz,
  SliceO.imp h4 (fun b hb hlt => ⟨hb, hlt⟩) (fun b hb hlt => he b (h6 b hb) hlt) hsz, fun b hb => hS b (h5 b hb.1) hb.2, fun b hb => hS b (h6 b hb.1) hb.2, fun b hb hc => h7 b hb.1 hc.1⟩
def kChangeO : Kind GC := ⟨2, ChangeEO, by decide, ChangeEO.imp,
 fun {_ _ l x} h => by obtain ⟨v, u, _, _, rfl, ht, hp, _⟩ := h; intro y hy; simp at hy; rcases hy with rfl | rfl <;> first | exact SliceO.one ht | exact SliceO.one hp, fun h => by obtain ⟨v, u, _, _, rfl, _⟩ := h; rfl⟩
def ChangesO (S : Nat → Prop) : World → Value → List GC → Prop := SliceO kChangeO S
theorem ChangeEO.read {S T : Nat → Prop} {w : World} {l : List Value} {a : GC} (h : ChangeEO T w l a) (hS : ∀ b, T b → S b) : ChangeE S w l a := by
 obtain ⟨v, u, S1, S2, h1, h3, h4, h5, h6, h7⟩ := h
 exact ⟨v, u, h1, AtomsR.sub h3.read (fun b hb => hS b (h5 b hb)), AtomsR.sub h4.read (fun b hb => hS b (h6 b hb))⟩
theorem ChangesO.read {S : Nat → Prop} {w : World} {v : Value} {xs : List GC} (h : ChangesO S w v xs) : ChangesR S w v xs := SliceO.read (k := kChangeO) (E' := ChangeE) h (fun _ _ _ h hS => ChangeEO.read h hS)

end Go.Proofs.YtmihponoillihaaGreatDoor

namespace Go.Proofs.YtmihponoillihaaGreatDoor
open Go.RowKit

/-! ### Patterns and words -/
/-- A slot: the place of a variable, or a word. -/
structure GS where
 v : Option Nat
 w : ByteArray
def isNo (s : ByteArray) : Bool := decide (s.size = 0)
def sameA (a b : GA) : Bool := decide (a.n = b.n ∧ a.args.map (·.n) = b.args.map (·.n))
def without (left i : Nat) : Nat := if left.testBit i then left ^^^ 2 ^ i else left
def okFact (a : GA) : Prop := ∀ t ∈ a.args, t.v = false ∧ isNo t.n = false
theorem same_iff {a b : GA} : sameA a b = true ↔ a.n = b.n ∧ a.args.map (·.n) = b.args.map (·.n) := by
 unfold sameA; exact decide_eq_true_iff
end Go.Proofs.YtmihponoillihaaGreatDoor

namespace Go.Proofs.YtmihponoillihaaGreatDoor
open Go.RowKit

set_option maxHeartbeats 1000000 in
theorem plain_any (s : ByteArray) (w : World) (hs : s.size ≤ maxLen) :
 Calls Tryz.prog 119 #[.string s] w fun e w' => e = .returned (.bool (plainB s.data.toList)) ∧ w' = w := by
 unfold maxLen at hs
 go_enter Tryz.func119, Tryz.ntmps119
 go_wp2
 go_loop [3] (fun i => ∃ k : Nat, k ≤ s.size ∧ i = .int .i64 k ∧ Hid (plainB (s.data.toList.take k) = true)) (fun i => s.size - (intOf i).toNat)
 case atStart => exact ⟨0, Nat.zero_le _, rfl, rfl⟩
 case round =>
  obtain ⟨k, hk, rfl, hp⟩ := hrel
  by_cases hlt : k < s.size
  · have HT := Lib.hid (take_snoc' s k hlt)
    have hc : s[k].toNat < 256 := s[k].toNat_lt
    cases hd : lowDig s[k]
    · have HF := Lib.hid (show plainB s.data.toList = false from by
        have : plainB (s.data.toList.take (k + 1)) = false := by rw [HT.out, plainB_snoc, hd, Bool.and_false]
        exact plainB_false this)
      rcases lowDig_no hd with h | h | h
      all_goals
       clear hd
       go_wp2
       go_ret
       exact ⟨by rw [HF.out]; rfl, rfl⟩
    · have HP := Lib.hid (show plainB (s.data.toList.take (k + 1)) = true from by rw [HT.out, plainB_snoc, hd, hp.out]; rfl)
      rcases lowDig_yes hd with h | h
      all_goals
       clear hd
       go_wp2
       go_round
       case rel => exact ⟨k + 1, by omega, by go_num, HP⟩
       case measure => simp [intOf]; omega
  · have HF := Lib.hid (show plainB s.data.toList = true from by
      have hkk : k = s.size := by omega
      have hp1 := hp.out
      rw [hkk, take_all] at hp1
      exact hp1)
    go_wp2
    go_ret
    exact ⟨by rw [HF.out]; rfl, rfl⟩

theorem capB_nil {s : ByteArray} (h : s.size = 0) : capB s = false := by
 have : s.data.toList = [] := by apply List.eq_nil_of_length_eq_zero; simpa using h
 unfold capB; rw [this]
theorem list_nil {s : ByteArray} (h : s.size = 0) : s.toList = [] := by
 rw [ByteArray.toList_eq]; apply List.eq_nil_of_length_eq_zero; simpa using h
theorem list_ne {s : ByteArray} (h : ¬ s.size = 0) : s.toList.isEmpty = false := by
 rw [ByteArray.toList_eq]
 cases h2 : s.data.toList with
 | nil => exact absurd (by have := congrArg List.length h2; simpa using this) h
 | cons => rfl

set_option maxHeartbeats 1000000 in
theorem capital_any (s : ByteArray) (w : World) (hs : s.size ≤ maxLen) :
 Calls Tryz.prog 290 #[.string s] w fun e w' => e = .returned (.bool (capB s)) ∧ w' = w := by
 unfold maxLen at hs
 by_cases h0 : s.size = 0
 · have HF := Lib.hid (capB_nil h0)
   have h1 : s.toList = [] := list_nil h0
   have h2 : (!s.toList.isEmpty) = false := by rw [h1]; rfl
   have H0 := Lib.hid h0
   clear h0
   go_enter Tryz.func290, Tryz.ntmps290
   go_wp2
   go_ret
   exact ⟨by rw [HF.out]; rfl, rfl⟩
 · have hp : 0 < s.size := Nat.pos_of_ne_zero h0
   have h1 : s.toList.isEmpty = false := list_ne h0
   have hc : s[0].toNat < 256 := s[0].toNat_lt
   cases hu : upper s[0]
   · have HF := Lib.hid ((capB_cons hp).trans hu)
     have hr : s[0].toNat < 65 ∨ 90 < s[0].toNat := by have h9 := of_decide_eq_false hu; clear h1; omega
     clear hu h0
     rcases hr with hr | hr
     all_goals
      go_enter Tryz.func290, Tryz.ntmps290
      go_wp2
      go_ret
      exact ⟨by rw [HF.out]; exact ret_bool (by first | (simp; done) | (simp; omega)), rfl⟩
   · have HF := Lib.hid ((capB_cons hp).trans hu)
     obtain ⟨hr1, hr2⟩ := of_decide_eq_true hu
     clear hu h0
     go_enter Tryz.func290, Tryz.ntmps290
     go_wp2
     go_ret
     exact ⟨by rw [HF.out]; exact ret_bool (by first | (simp; done) | (simp; omega)), rfl⟩

def tailB (s : ByteArray) : Bool := plainB (s.data.toList.drop 1)
theorem varOkB_eq (s : ByteArray) : varOkB s = (decide (s.size ≤ 8) && capB s && plainB (s.data.toList.drop 1)) := by
 unfold varOkB; rw [Bool.and_comm (capB s)]
theorem capB_pos {s : ByteArray} (h : capB s = true) : 0 < s.size := by
 rcases Nat.eq_zero_or_pos s.size with h0 | h0
 · rw [capB_nil h0] at h; cases h
 · exact h0

set_option maxHeartbeats 1000000 in
theorem variableOk_any (s : ByteArray) (w : World) (hs : s.size ≤ maxLen) :
 Calls Tryz.prog 303 #[.string s] w fun e w' => e = .returned (.bool (varOkB s)) ∧ w' = w := by
 have hm : s.size ≤ 9223372036854775807 := hs
 by_cases h8 : s.size ≤ 8
 · have hw := bool_ways (capital_any s w hs)
   have hd8 : decide ((s.size : Int) ≤ 8) = true := by simp; omega
   cases hc : capB s
   · have HF := Lib.hid (show varOkB s = false from by rw [varOkB_eq, hc]; simp)
     have HW := Lib.hid (hw.2 hc)
     clear hw hc
     go_enter Tryz.func303, Tryz.ntmps303
     go_wp2_with (go_at_call 290; refine HW.out.mono ?_; rintro e w1 ⟨rfl, rfl⟩)
     go_ret
     exact ⟨by rw [HF.out]; rfl, rfl⟩
   · have hp := capB_pos hc
     have HW := Lib.hid (hw.1 hc)
     have hq := plain_any (s.extract 1 s.size) w (by rw [tail_size _ _ hp]; exact Nat.le_trans (Nat.sub_le _ _) hs)
     have hq2 : Calls Tryz.prog 119 #[.string (s.extract 1 s.size)] w fun e w' => e = .returned (.bool (tailB s)) ∧ w' = w := by rw [tail_list] at hq; exact hq
     have HQ := Lib.hid hq2
     have HF := Lib.hid (show varOkB s = tailB s from by rw [varOkB_eq, hc]; unfold tailB; simp [h8])
     clear hw hc hq hq2
     go_enter Tryz.func303, Tryz.ntmps303
     go_wp2_with (first | (go_at_call 290; refine HW.out.mono ?_; rintro e w1 ⟨rfl, rfl⟩) | (go_at_call 119; refine HQ.out.mono ?_; rintro e w1 ⟨rfl, rfl⟩))
     go_ret
     exact ⟨by rw [HF.out]; rfl, rfl⟩
 · have HF := Lib.hid (show varOkB s = false from by rw [varOkB_eq]; simp [h8])
   have hd8 : decide ((s.size : Int) ≤ 8) = false := by simp; omega
   go_enter Tryz.func303, Tryz.ntmps303
   go_wp2
   go_ret
   exact ⟨by rw [HF.out]; exact ret_bool (by first | (simp; done) | (simp; omega)), rfl⟩

set_option maxHeartbeats 1000000 in
theorem nameOk_any (s : ByteArray) (w : World) (hs : s.size ≤ maxLen) :
 Calls Tryz.prog 62 #[.string s] w fun e w' => e = .returned (.bool (nameOkB s)) ∧ w' = w := by
 have hm : s.size ≤ 9223372036854775807 := hs
 by_cases h1 : 1 ≤ s.size
 · by_cases h8 : s.size ≤ 8
   · have hw := bool_ways (plain_any s w hs)
     cases hc : plainB s.data.toList
     · have HF := Lib.hid (show nameOkB s = false from by unfold nameOkB lettersB; rw [hc]; rfl)
       have HW := Lib.hid (hw.2 hc)
       clear hw hc
       go_enter Tryz.func62, Tryz.ntmps62
       go_wp2_with (go_at_call 119; refine HW.out.mono ?_; rintro e w1 ⟨rfl, rfl⟩)
       go_ret
       exact ⟨by rw [HF.out]; rfl, rfl⟩
     · have HF := Lib.hid (show nameOkB s = !(isNot s) from by unfold nameOkB lettersB; rw [hc, inB_yes (by omega) (by omega)]; rfl)
       have HW := Lib.hid (hw.1 hc)
       clear hw hc
       go_enter Tryz.func62, Tryz.ntmps62
       go_wp2_with (go_at_call 119; refine HW.out.mono ?_; rintro e w1 ⟨rfl, rfl⟩)
       go_ret
       exact ⟨by rw [HF.out]; rfl, rfl⟩
   · have HF := Lib.hid (show nameOkB s = false from by unfold nameOkB lettersB; rw [inB_high (by omega)]; simp)
     go_enter Tryz.func62, Tryz.ntmps62
     go_wp2
     go_ret
     exact ⟨by rw [HF.out]; first | rfl | exact ret_bool (by first | (simp; done) | (simp; omega)), rfl⟩
 · have HF := Lib.hid (show nameOkB s = false from by unfold nameOkB lettersB; rw [inB_low (by omega)]; simp)
   go_enter Tryz.func62, Tryz.ntmps62
   go_wp2
   go_ret
   exact ⟨by rw [HF.out]; first | rfl | exact ret_bool (by first | (simp; done) | (simp; omega)), rfl⟩

end Go.Proofs.YtmihponoillihaaGreatDoor

namespace Go.Proofs.YtmihponoillihaaGreatDoor
open Go.RowKit

@[go_sem] theorem as_ww (v : Value) (w : World) : (Instr.typeAssert (.iface 363 v) 299 363 true).run Tryz.prog w = .ok (.tuple #[v, .bool true]) w := by kernel_rfl
@[go_sem] theorem as_vw (v : Value) (w : World) : (Instr.typeAssert (.iface 296 v) 299 363 true).run Tryz.prog w = .ok (.tuple #[.string ⟨#[]⟩, .bool false]) w := by kernel_rfl
@[go_sem] theorem as_vv (v : Value) (w : World) : (Instr.typeAssert (.iface 296 v) 299 296 true).run Tryz.prog w = .ok (.tuple #[v, .bool true]) w := by kernel_rfl

set_option maxHeartbeats 1000000 in
theorem kindOf_any (t : GT) (w : World) :
 Calls Tryz.prog 240 #[.agg #[.bool t.v, .string t.n]] w fun e w' => e = .returned (.iface (if t.v = true then 296 else 363) (.string t.n)) ∧ Ext w w' := by
 obtain ⟨v, s⟩ := t
 cases v
 · go_enter Tryz.func240, Tryz.ntmps240
   go_wp2
   go_ret
   exact ⟨rfl, (Ext.refl _).alloc _⟩
 · go_enter Tryz.func240, Tryz.ntmps240
   go_wp2
   go_ret
   exact ⟨rfl, (Ext.refl _).alloc _⟩

set_option maxHeartbeats 400000 in
theorem wordText_any (s : ByteArray) (w : World) : Calls Tryz.prog 302 #[.string s] w fun e w' => e = .returned (.string s) ∧ w' = w := by
 go_enter Tryz.func302, Tryz.ntmps302
 go_wp2
 go_ret
 exact ⟨rfl, rfl⟩
set_option maxHeartbeats 400000 in
theorem variableText_any (s : ByteArray) (w : World) : Calls Tryz.prog 242 #[.string s] w fun e w' => e = .returned (.string s) ∧ w' = w := by
 go_enter Tryz.func242, Tryz.ntmps242
 go_wp2
 go_ret
 exact ⟨rfl, rfl⟩

set_option maxRecDepth 100000 in
set_option maxHeartbeats 1000000 in
theorem termOk_any (t : GT) (w : World) (hs : t.n.size ≤ maxLen) :
 Calls Tryz.prog 239 #[.agg #[.bool t.v, .string t.n]] w fun e w' => e = .returned (.bool (termOkB t)) ∧ Ext w w' := by
 have hk := kindOf_any t
 obtain ⟨v, s⟩ := t
 cases v
 · have HF := Lib.hid (show termOkB ⟨false, s⟩ = nameOkB s from rfl)
   have HK : ∀ w : World, Calls Tryz.prog 240 #[.agg #[.bool false, .string s]] w fun e w' => e = .returned (.iface 363 (.string s)) ∧ Ext w w' := hk
   have HK := Lib.hid HK
   clear hk
   go_enter Tryz.func239, Tryz.ntmps239
   go_wp2_with (first
    | (go_at_call 240; refine (HK.out _).mono ?_; rintro e w1 ⟨rfl, hx1⟩)
    | (go_at_call 302; refine (wordText_any s _).mono ?_; rintro e w2 ⟨rfl, rfl⟩)
    | (go_at_call 62; refine (nameOk_any s _ hs).mono ?_; rintro e w2 ⟨rfl, rfl⟩))
   go_ret
   exact ⟨by rw [HF.out]; rfl, ((Ext.refl _).alloc _).trans' hx1⟩
 · have HF := Lib.hid (show termOkB ⟨true, s⟩ = varOkB s from rfl)
   have HK : ∀ w : World, Calls Tryz.prog 240 #[.agg #[.bool true, .string s]] w fun e w' => e = .returned (.iface 296 (.string s)) ∧ Ext w w' := hk
   have HK := Lib.hid HK
   clear hk
   go_enter Tryz.func239, Tryz.ntmps239
   go_wp2_with (first
    | (go_at_call 240; refine (HK.out _).mono ?_; rintro e w1 ⟨rfl, hx1⟩)
    | (go_at_call 242; refine (variableText_any s _).mono ?_; rintro e w2 ⟨rfl, rfl⟩)
    | (go_at_call 303; refine (variableOk_any s _ hs).mono ?_; rintro e w2 ⟨rfl, rfl⟩))
   go_ret
   exact ⟨by rw [HF.out]; rfl, ((Ext.refl _).alloc _).trans' hx1⟩

set_option maxRecDepth 100000 in
set_option maxHeartbeats 1000000 in
theorem atomOk_any (a : GA) (v : Value) (w : World) {S : Nat → Prop} (hs : a.n.size ≤ maxLen) (hv : TermsR S w v a.args) :
 Calls Tryz.prog 179 #[.agg #[.string a.n, v]] w fun e w' => e = .returned (.bool (atomOkB a)) ∧ Ext w w' := by
 obtain ⟨A, c, rfl, hc1, hc2⟩ := SliceR.form hv
 have HV := Lib.hid (hv.ext ((Ext.refl w).alloc (.cells #[.string a.n, .slice A a.args.length c] 54)))
 clear hv
 have hw := bool_ways (nameOk_any a.n (w.alloc (.cells #[.string a.n, .slice A a.args.length c] 54)) hs)
 cases hn : nameOkB a.n
 · have HF := Lib.hid (show atomOkB a = false from by unfold atomOkB; rw [hn]; rfl)
   have HW := Lib.hid (hw.2 hn)
   clear hw hn
   go_enter Tryz.func179, Tryz.ntmps179
   go_wp2_with (go_at_call 62; refine HW.out.mono ?_; rintro e w1 ⟨rfl, rfl⟩)
   go_ret
   exact ⟨by rw [HF.out]; rfl, (Ext.refl _).alloc _⟩
 · have HW := Lib.hid (hw.1 hn)
   by_cases h3 : a.args.length ≤ 3
   · have HF := Lib.hid (show atomOkB a = a.args.all termOkB from by unfold atomOkB; rw [hn]; simp [h3])
     clear hw hn
     go_enter Tryz.func179, Tryz.ntmps179
     go_wp2_with (go_at_call 62; refine HW.out.mono ?_; rintro e w1 ⟨rfl, rfl⟩)
     go_loopw [18] (fun i wr => ∃ k : Nat, k ≤ a.args.length ∧ i = .int .i64 k ∧ Hid ((a.args.take k).all termOkB = true) ∧ Ext (w.alloc (.cells #[.string a.n, .slice A a.args.length c] 54)) wr) (fun i _ => a.args.length - (intOf i).toNat)
     case atStart => exact ⟨0, Nat.zero_le _, rfl, rfl, Ext.refl _⟩
     case round =>
      obtain ⟨k, hk, rfl, hp, hx⟩ := hrel
      by_cases hlt : k < a.args.length
      · obtain ⟨b, off, x, rfl, hb, hxk, hxs, hc0, hc1⟩ := TermsR.at_ (HV.out.ext hx) hlt
        have HK := Lib.hid hxk
        have hw := bool_ways (termOk_any x (wr.alloc (.cells #[.bool x.v, .string x.n] 71)) hxs)
        clear hxk
        cases ht : termOkB x
        · have HZ := Lib.hid (all_false termOkB _ k x HK.out ht)
          have HW := Lib.hid (hw.2 ht)
          clear hw ht
          go_wp2_with (go_at_call 239; refine HW.out.mono ?_; rintro e w1 ⟨rfl, hx1⟩)
          go_ret
          exact ⟨by rw [HF.out, HZ.out]; rfl, ((Ext.refl _).alloc _).trans' ((hx.alloc _).trans' hx1)⟩
        · have HP := Lib.hid (show (a.args.take (k + 1)).all termOkB = true from by rw [all_snoc _ _ k x HK.out, hp.out, ht]; rfl)
          have HW := Lib.hid (hw.1 ht)
          clear hw ht
          go_wp2_with (go_at_call 239; refine HW.out.mono ?_; rintro e w1 ⟨rfl, hx1⟩)
          go_roundw
          case rel => exact ⟨k + 1, by omega, by go_num, HP, (hx.alloc _).trans' hx1⟩
          case measure => simp [intOf]; omega
      · have HZ := Lib.hid (all_whole _ _ k hlt hp.out)
        go_wp2
        go_ret
        exact ⟨by rw [HF.out, HZ.out]; rfl, ((Ext.refl _).alloc _).trans' hx⟩
   · have HF := Lib.hid (show atomOkB a = false from by unfold atomOkB; simp [h3])
     clear hw hn
     go_enter Tryz.func179, Tryz.ntmps179
     go_wp2_with (go_at_call 62; refine HW.out.mono ?_; rintro e w1 ⟨rfl, rfl⟩)
     go_ret
     exact ⟨by rw [HF.out]; rfl, (Ext.refl _).alloc _⟩

set_option maxHeartbeats 400000 in
theorem isFact1_any (t : GT) (w : World) :
 Calls Tryz.prog 196 #[.agg #[.bool t.v, .string t.n]] w fun e w' => e = .returned (.bool t.v) ∧ Ext w w' := by
 go_enter Tryz.func196, Tryz.ntmps196
 go_wp2
 go_ret
 exact ⟨rfl, (Ext.refl _).alloc _⟩



set_option maxRecDepth 100000 in
set_option maxHeartbeats 1000000 in
theorem indexVar_any (v : Value) (xs : List GT) (w : World) {S : Nat → Prop} (hv : TermsR S w v xs) :
 Calls Tryz.prog 272 #[v, .func (.func 196) #[] #[]] w fun e w' => (∃ z : Int, e = .returned (.int .i64 z) ∧ (xs.all noVar = true → z < 0) ∧ (xs.all noVar = false → 0 ≤ z)) ∧ Ext w w' := by
 obtain ⟨A, c, rfl, hc1, hc2⟩ := SliceR.form hv
 have HV := Lib.hid hv
 clear hv
 go_enter Tryz.func272, Tryz.ntmps272
 go_wp2
 go_loopw [8] (fun i wr => ∃ k : Nat, k ≤ xs.length ∧ i = .int .i64 k ∧ Hid ((xs.take k).all noVar = true) ∧ Ext w wr) (fun i _ => xs.length - (intOf i).toNat)
 case atStart => exact ⟨0, Nat.zero_le _, rfl, rfl, Ext.refl _⟩
 case round =>
  obtain ⟨k, hk, rfl, hp, hx⟩ := hrel
  by_cases hlt : k < xs.length
  · obtain ⟨b, off, x, rfl, hb, hxk, hxs, hc0, hc1⟩ := TermsR.at_ (HV.out.ext hx) hlt
    have HK := Lib.hid hxk
    have hw := bool_ways (isFact1_any x wr)
    clear hxk
    cases ht : x.v
    · have HP := Lib.hid (show (xs.take (k + 1)).all noVar = true from by rw [all_snoc _ _ k x HK.out, hp.out, noVar_yes ht]; rfl)
      have HW := Lib.hid (hw.2 ht)
      clear hw ht
      go_wp2_with (go_at_call 196; refine HW.out.mono ?_; rintro e w1 ⟨rfl, hx1⟩)
      go_roundw
      case rel => exact ⟨k + 1, by omega, by go_num, HP, hx.trans' hx1⟩
      case measure => simp [intOf]; omega
    · have HZ := Lib.hid (all_false noVar _ k x HK.out (noVar_no ht))
      have HW := Lib.hid (hw.1 ht)
      clear hw ht
      go_wp2_with (go_at_call 196; refine HW.out.mono ?_; rintro e w1 ⟨rfl, hx1⟩)
      go_ret
      exact ⟨⟨k, rfl, fun h => (by rw [HZ.out] at h; cases h), fun _ => Int.natCast_nonneg _⟩, hx.trans' hx1⟩
  · have HZ := Lib.hid (all_whole _ _ k hlt hp.out)
    go_wp2
    go_ret
    exact ⟨⟨-1, rfl, fun _ => by decide, fun h => (by rw [HZ.out] at h; cases h)⟩, hx⟩

set_option maxHeartbeats 1000000 in
theorem containsVar_any (v : Value) (xs : List GT) (w : World) {S : Nat → Prop} (hv : TermsR S w v xs) :
 Calls Tryz.prog 195 #[v, .func (.func 196) #[] #[]] w fun e w' => e = .returned (.bool (!xs.all noVar)) ∧ Ext w w' := by
 obtain ⟨A, c, rfl, hc1, hc2⟩ := SliceR.form hv
 have HV := Lib.hid hv
 clear hv
 cases ha : xs.all noVar
 · have HA := Lib.hid ha
   clear ha
   go_enter Tryz.func195, Tryz.ntmps195
   go_wp2_with (go_at_call 272; refine (indexVar_any _ xs _ HV.out).mono ?_; rintro e w1 ⟨⟨z, rfl, h1, h2⟩, hx1⟩; have hz := h2 HA.out; clear h1 h2)
   go_ret
   exact ⟨ret_bool (by first | (simp; done) | (simp; omega)), hx1⟩
 · have HA := Lib.hid ha
   clear ha
   go_enter Tryz.func195, Tryz.ntmps195
   go_wp2_with (go_at_call 272; refine (indexVar_any _ xs _ HV.out).mono ?_; rintro e w1 ⟨⟨z, rfl, h1, h2⟩, hx1⟩; have hz := h1 HA.out; clear h1 h2)
   go_ret
   exact ⟨ret_bool (by first | (simp; done) | (simp; omega)), hx1⟩

set_option maxRecDepth 100000 in
set_option maxHeartbeats 1000000 in
theorem isFact_any (a : GA) (v : Value) (w : World) {S : Nat → Prop} (hs : a.n.size ≤ maxLen) (hv : TermsR S w v a.args) :
 Calls Tryz.prog 139 #[.agg #[.string a.n, v]] w fun e w' => e = .returned (.bool (factB a)) ∧ Ext w w' := by
 obtain ⟨A, c, rfl, hc1, hc2⟩ := SliceR.form hv
 have HV := Lib.hid (hv.ext ((Ext.refl w).alloc (.cells #[.string a.n, .slice A a.args.length c] 54)))
 clear hv
 have hw := bool_ways (atomOk_any a _ _ hs HV.out)
 cases hn : atomOkB a
 · have HF := Lib.hid (show factB a = false from by unfold factB; rw [hn]; rfl)
   have HW := Lib.hid (hw.2 hn)
   clear hw hn
   go_enter Tryz.func139, Tryz.ntmps139
   go_wp2_with (go_at_call 179; refine HW.out.mono ?_; rintro e w1 ⟨rfl, hx1⟩)
   go_ret
   exact ⟨by rw [HF.out]; rfl, ((Ext.refl _).alloc _).trans' hx1⟩
 · have HF := Lib.hid (show factB a = a.args.all noVar from by unfold factB; rw [hn]; rfl)
   have HW := Lib.hid (hw.1 hn)
   clear hw hn
   cases ha : a.args.all noVar
   · have HA := Lib.hid ha
     clear ha
     go_enter Tryz.func139, Tryz.ntmps139
     go_wp2_with (first
      | (go_at_call 179; refine HW.out.mono ?_; rintro e w1 ⟨rfl, hx1⟩; obtain ⟨hcc, hcf⟩ := hx1.cells)
      | (go_at_call 195; refine ((bool_ways (containsVar_any _ a.args _ (HV.out.ext hx1))).1 (by rw [HA.out]; rfl)).mono ?_; rintro e w2 ⟨rfl, hx2⟩))
     go_ret
     exact ⟨by rw [HF.out, HA.out]; rfl, (((Ext.refl _).alloc _).trans' hx1).trans' hx2⟩
   · have HA := Lib.hid ha
     clear ha
     go_enter Tryz.func139, Tryz.ntmps139
     go_wp2_with (first
      | (go_at_call 179; refine HW.out.mono ?_; rintro e w1 ⟨rfl, hx1⟩; obtain ⟨hcc, hcf⟩ := hx1.cells)
      | (go_at_call 195; refine ((bool_ways (containsVar_any _ a.args _ (HV.out.ext hx1))).2 (by rw [HA.out]; rfl)).mono ?_; rintro e w2 ⟨rfl, hx2⟩))
     go_ret
     exact ⟨by rw [HF.out, HA.out]; rfl, (((Ext.refl _).alloc _).trans' hx1).trans' hx2⟩

end Go.Proofs.YtmihponoillihaaGreatDoor
