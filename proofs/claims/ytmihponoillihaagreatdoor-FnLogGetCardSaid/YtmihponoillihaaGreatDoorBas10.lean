/- Part of the texts of a proof: own texts joined in the order of their building; what they say stands at each theorem. -/
import Derived.Test.YtmihponoillihaaGreatDoorBas09
import Derived.Deep.RegionHeld3
import Derived.Test.YtmihponoillihaaGreatDoorBas07
import Derived.BigQuiet
import Derived.Deep.QuietTactic
set_option linter.unusedSimpArgs false
set_option linter.unusedVariables false
namespace Go.Proofs.YtmihponoillihaaGreatDoor
open Go.RowKit

theorem flat_take_le {α β : Type} (f : α → List β) (l : List α) (k : Nat) : ((l.take k).flatMap f).length ≤ (l.flatMap f).length := by
 conv => rhs; rw [← List.take_append_drop k l, List.flatMap_append, List.length_append]
 exact Nat.le_add_right _ _
theorem more_take_le (a : GA) (l : List GA) (b : LB) (k : Nat) : (moreOf a (l.take k) b).length ≤ (moreOf a l b).length := by
 unfold moreOf
 conv => rhs; rw [← List.take_append_drop k l, List.filterMap_append, List.length_append]
 exact Nat.le_add_right _ _
theorem part_len {a f : GA} {xs : List GA} {out : List LB} {bd : LB} {q r : Nat} (hq : out[q]? = some bd) (hr : xs[r]? = some f) (hm : (matchN a f bd).2 = true) :
 ((out.take q).flatMap (moreOf a xs) ++ moreOf a (xs.take r) bd).length + 1 ≤ (out.flatMap (moreOf a xs)).length := by
 have h1 := flat_take_le (moreOf a xs) out (q + 1)
 rw [flat_take _ hq, List.length_append] at h1
 have h2 := more_take_le a xs bd (r + 1)
 rw [moreOf_take a hr, hm, List.length_append] at h2
 simp only [if_true, List.length_cons, List.length_nil] at h2
 rw [List.length_append]
 omega
/-- A binding that is boxed. -/
structure Boxed (N M : Nat) (wr wf : World) (bx : Nat) (x y : Value) (b : LB) : Prop where
 blk : Blk wf bx 356 #[x, y]
 ext : Ext wr wf
 ns : StrsR (fun i => (N ≤ i ∧ i < M) ∨ wr.heap.size ≤ i) wf x b.ns
 vs : StrsR (fun i => (N ≤ i ∧ i < M) ∨ wr.heap.size ≤ i) wf y b.vs
 ok : b.ok
theorem boxed_one {N M L : Nat} {wr w5 : World} {x y : Value} {b : LB} (hx : Ext wr w5) (hL : L = wr.heap.size) (h1 : StrsR (fun i => (N ≤ i ∧ i < M) ∧ i < L ∨ L ≤ i) w5 x b.ns) (h2 : StrsR (fun i => (N ≤ i ∧ i < M) ∧ i < L ∨ L ≤ i) w5 y b.vs) (h3 : b.ok) :
 Boxed N M wr (w5.alloc (.cells #[x, y] 356)) w5.heap.size x y b :=
 ⟨Blk.new _ _ _, hx.alloc _, (h1.sub (fun i hi => hi.elim (fun h => .inl h.1) (fun h => .inr (hL ▸ h)))).ext ((Ext.refl _).alloc _), (h2.sub (fun i hi => hi.elim (fun h => .inl h.1) (fun h => .inr (hL ▸ h)))).ext ((Ext.refl _).alloc _), h3⟩
theorem boxed_two {N M L : Nat} {wr w5 : World} {x y z0 z1 : Value} {b : LB} (hb : Blk w5 wr.heap.size 356 #[z0, z1]) (hx : Ext wr w5) (hL : L = wr.heap.size + 1) (hM : M ≤ wr.heap.size) (h1 : StrsR (fun i => (N ≤ i ∧ i < M) ∧ i < L ∨ L ≤ i) w5 x b.ns) (h2 : StrsR (fun i => (N ≤ i ∧ i < M) ∧ i < L ∨ L ≤ i) w5 y b.vs) (h3 : b.ok) :
 Boxed N M wr ((w5.setCell ⟨wr.heap.size, 0, none⟩ x).setCell ⟨wr.heap.size, 1, none⟩ y) wr.heap.size x y b := by
 have hA : Agree (fun i => (N ≤ i ∧ i < M) ∧ i < L ∨ L ≤ i) w5 ((w5.setCell ⟨wr.heap.size, 0, none⟩ x).setCell ⟨wr.heap.size, 1, none⟩ y) :=
  ((Agree.refl _ _).setCell (fun h => by rcases h with h | h <;> simp only at h <;> omega) x).setCell (fun h => by rcases h with h | h <;> simp only at h <;> omega) y
 refine ⟨by simpa using (hb.set_ 0 x).set_ 1 y, (hx.setNew (Nat.le_refl _) x).setNew (Nat.le_refl _) y, h1.impL (fun i hi _ => hi.elim (fun h => .inl h.1) (fun h => .inr (by omega))) hA (by go_size), h2.impL (fun i hi _ => hi.elim (fun h => .inl h.1) (fun h => .inr (by omega))) hA (by go_size), h3⟩

set_option maxRecDepth 100000 in
set_option maxHeartbeats 8000000 in
theorem l4All_any (xs : List GA) (ps : List GP) (v u : Value) (w : World) {S T : Nat → Prop} (hv : AtomsR S w v xs) (hu : PartsR T w u ps) (hps : ∀ p ∈ ps, p.atom.args.length ≤ 1000) (hpl : ps.length ≤ 4) (hxl : xs.length ≤ 900) :
 Calls Tryz.prog 295 #[v, u] w fun e w' => (∃ v', e = .returned v' ∧ BindsR (From w.heap.size) w' v' (allN xs ps)) ∧ Ext w w' := by
 obtain ⟨A, c, rfl, hc1, hc2⟩ := SliceR.form hv
 obtain ⟨B, d, rfl, hd1, hd2⟩ := SliceR.form hu
 obtain ⟨i0, hi0, hz0, hz1, hz2, hz3⟩ : ∃ i0, Tryz.prog.info? 356 = some i0 ∧ i0.zero = some (.agg #[.slice none 0 0, .slice none 0 0]) ∧ i0.size = 2 ∧ (Value.agg #[.slice none 0 0, .slice none 0 0]).cells.size = 2 ∧ i0.bytes = 48 := ⟨_, rfl, rfl, rfl, rfl, rfl⟩
 have HV := Lib.hid hv
 have HU := Lib.hid hu
 have HPS := Lib.hid hps
 clear hv hu hps
 go_enter Tryz.func295, Tryz.ntmps295
 go_wp2
 go_loopw [5, 6] (fun o i wr => ∃ k : Nat, k ≤ ps.length ∧ i = .int .i64 k ∧ Hid (OwnK kBind w.heap.size 356 (From w.heap.size) wr o ((ps.take k).foldl (allStep xs) [⟨[], []⟩])) ∧ Ext w wr) (fun _ i _ => ps.length - (intOf i).toNat)
 case atStart => exact ⟨0, Nat.zero_le _, rfl, Lib.hid ⟨[.slice none 0 0, .slice none 0 0], fun _ => False, ⟨rfl, .inr ⟨w.heap.size, 1, #[.slice none 0 0, .slice none 0 0], rfl, Nat.le_refl _, Blk.new w _ _, Nat.le_refl _, by unfold maxLen; omega, rfl, rfl⟩⟩, RowsE.one rfl ⟨_, _, rfl, ListK.nil (k := kStr) 0 (Nat.zero_le _) none, ListK.nil (k := kStr) 0 (Nat.zero_le _) none, rfl⟩, fun _ h => h.elim, fun _ _ h => h⟩, (Ext.refl _).alloc _⟩
 case round =>
  obtain ⟨k, hk, rfl, ho, hx⟩ := hrel
  have hk0 : (0 : Int) ≤ (k : Int) := by omega
  obtain ⟨A0, n0, c0, rfl, hn0, ha0, hb0⟩ := ho.out.form2
  by_cases hlt : k < ps.length
  · have hk1 : (k : Int) < (ps.length : Int) := by omega
    obtain ⟨bp, op, p, vp, rfl, hbp, hpk, hpn, hpt, hp0, hp1, hp2⟩ := PartsR.at_ HU.out hlt
    obtain ⟨G, cg, rfl, hcg1, hcg2⟩ := SliceR.form hpt
    have r0 := (hx.cells.1 bp (op + k * 3) hbp).trans hp0
    have r1 := (hx.cells.1 bp (op + k * 3 + 1) hbp).trans hp1
    have r2 := (hx.cells.1 bp (op + k * 3 + 2) hbp).trans hp2
    have HPT := Lib.hid hpt
    have HPL := Lib.hid (HPS.out p (List.mem_of_getElem? hpk))
    have HPK := Lib.hid hpk
    clear hp0 hp1 hp2 hpk hpt
    cases hno : p.no
    · rw [hno] at r0
      have HN := Lib.hid (show (ps.take (k + 1)).foldl (allStep xs) [⟨[], []⟩] = ((ps.take k).foldl (allStep xs) [⟨[], []⟩]).flatMap (moreOf p.atom xs) from by rw [foldl_take _ _ HPK.out]; unfold allStep; simp [hno])
      have HMO := Lib.hid (show (((ps.take (k + 1)).foldl (allStep xs) [⟨[], []⟩]).length) ≤ 1000000000000 from allFold_most xs _ hxl (by rw [List.length_take]; omega))
      have HNS := Lib.hid (show ∀ b ∈ (ps.take k).foldl (allStep xs) [⟨[], []⟩], b.ns.length ≤ 4000 from fun b hb => Nat.le_trans (allFold_ns xs (m := 1000) _ _ 0 (fun b hb => by simp at hb; subst hb; simp) (fun q hq => HPS.out q (List.mem_of_mem_take hq)) b hb) (by rw [List.length_take]; omega))
      obtain ⟨out, hout⟩ : ∃ out, out = (ps.take k).foldl (allStep xs) [⟨[], []⟩] := ⟨_, rfl⟩
      rw [← hout] at ho hn0 HN HNS
      have HB := Lib.hid (show BindsR (fun b => w.heap.size ≤ b ∧ b < wr.heap.size) wr (.slice A0 n0 c0) out from by rw [hn0.out] at *; exact ListK.low (k := kBind) (ho.out.list (S' := From w.heap.size) (fun _ h => h) (fun _ h => h)))
      have HO0 := Lib.hid hout
      clear hout hno
      obtain rfl := hn0.out
      obtain ⟨N0, hN0⟩ : ∃ N0, N0 = wr.heap.size := ⟨_, rfl⟩
      have hN1 : w.heap.size ≤ N0 := by rw [hN0]; exact hx.size
      rw [← hN0] at HB
      have HN0 := Lib.hid hN0
      clear hN0
      rename World => w0
      go_wp2
      go_loopw [7, 8] (fun o j wq => ∃ q : Nat, q ≤ out.length ∧ j = .int .i64 q ∧ Hid (OwnK kBind N0 356 (From w.heap.size) wq o ((out.take q).flatMap (moreOf p.atom xs))) ∧ Ext w0 wq) (fun _ j _ => out.length - (intOf j).toNat)
      case atStart => exact ⟨0, Nat.zero_le _, rfl, Lib.hid (OwnK.empty rfl (Nat.le_of_eq HN0.out)), (Ext.refl _).alloc _⟩
      case round =>
       obtain ⟨q, hq, rfl, hoq, hxq⟩ := hrel
       obtain ⟨A1, n1, c1, rfl, hn1, ha1, hb1⟩ := hoq.out.form2
       have hq0 : (0 : Int) ≤ (q : Int) := by omega
       by_cases hlq : q < out.length
       · have hlq1 : (q : Int) < (out.length : Int) := by omega
         obtain ⟨bb, off, bd, x, y, rfl, hbb, hbk, hxs, hys, hok, hc0, hc1⟩ := BindsR.at_ HB.out hlq
         obtain ⟨X, cx, rfl, hcx1, hcx2⟩ := SliceR.form hxs
         obtain ⟨Y, cy, rfl, hcy1, hcy2⟩ := SliceR.form hys
         have HXS := Lib.hid hxs
         have HYS := Lib.hid hys
         have HOK := Lib.hid hok
         have HBK := Lib.hid hbk
         have HC0 := Lib.hid hc0
         have HC1 := Lib.hid hc1
         have HNB := Lib.hid (HNS.out bd (List.mem_of_getElem? hbk))
         clear hxs hys hok hbk hc0 hc1
         go_wp2
         go_loopw [7, 9] (fun o j wz => ∃ r : Nat, r ≤ xs.length ∧ j = .int .i64 r ∧ Hid (OwnK kBind N0 356 (From w.heap.size) wz o ((out.take q).flatMap (moreOf p.atom xs) ++ moreOf p.atom (xs.take r) bd)) ∧ Ext w0 wz) (fun _ j _ => xs.length - (intOf j).toNat)
         case atStart => exact ⟨0, Nat.zero_le _, rfl, Lib.hid (by simpa [moreOf] using hoq.out), hxq⟩
         case round =>
          obtain ⟨r, hr, rfl, hor, hxr⟩ := hrel
          obtain ⟨A2, n2, c2, rfl, hn2, ha2, hb2⟩ := hor.out.form2
          have hr0 : (0 : Int) ≤ (r : Int) := by omega
          by_cases hlr : r < xs.length
          · have hlr1 : (r : Int) < (xs.length : Int) := by omega
            obtain ⟨ba, oa, f, vf, rfl, hba, hfk, hfn, hft, hf0, hf1⟩ := AtomsR.at_ HV.out hlr
            obtain ⟨F, cf, rfl, hcf1, hcf2⟩ := SliceR.form hft
            have hxo := hxr
            have hxw := Ext.trans' hx hxo
            have p1 := (hxo.cells.1 bp (op + k * 3 + 1) (Nat.lt_of_lt_of_le hbp hx.size)).trans r1
            have p2 := (hxo.cells.1 bp (op + k * 3 + 2) (Nat.lt_of_lt_of_le hbp hx.size)).trans r2
            have s0 := (hxo.cells.1 bb (off + q * 2) hbb).trans HC0.out
            have s1 := (hxo.cells.1 bb (off + q * 2 + 1) hbb).trans HC1.out
            have t0 := (hxw.cells.1 ba (oa + r * 2) hba).trans hf0
            have t1 := (hxw.cells.1 ba (oa + r * 2 + 1) hba).trans hf1
            have HMA := Lib.hid (fun (W : World) (hW : Ext wr W) => l4Match_any p.atom f bd _ _ _ _ W (HPT.out.ext (hxw.trans' hW)) (hft.ext (hxw.trans' hW)) (HXS.out.ext (hxo.trans' hW)) (HYS.out.ext (hxo.trans' hW)) HOK.out (by have := HNB.out; have := HPL.out; omega))
            have HSW := Lib.hid (fun (W : World) (hW : Ext wr W) => (show W.cell? ⟨bp, op + k * 3 + 1, none⟩ = some (.string p.atom.n) ∧ W.cell? ⟨bp, op + k * 3 + 2, none⟩ = some (.slice G p.atom.args.length cg) ∧ W.cell? ⟨bb, off + q * 2, none⟩ = some (.slice X bd.ns.length cx) ∧ W.cell? ⟨bb, off + q * 2 + 1, none⟩ = some (.slice Y bd.vs.length cy) ∧ W.cell? ⟨ba, oa + r * 2, none⟩ = some (.string f.n) ∧ W.cell? ⟨ba, oa + r * 2 + 1, none⟩ = some (.slice F f.args.length cf) from
             ⟨(hW.cells.1 bp _ (Nat.lt_of_lt_of_le hbp hxw.size)).trans p1, (hW.cells.1 bp _ (Nat.lt_of_lt_of_le hbp hxw.size)).trans p2, (hW.cells.1 bb _ (Nat.lt_of_lt_of_le hbb hxo.size)).trans s0, (hW.cells.1 bb _ (Nat.lt_of_lt_of_le hbb hxo.size)).trans s1, (hW.cells.1 ba _ (Nat.lt_of_lt_of_le hba hxw.size)).trans t0, (hW.cells.1 ba _ (Nat.lt_of_lt_of_le hba hxw.size)).trans t1⟩))
            have HFT := Lib.hid hft
            have HFK := Lib.hid hfk
            clear hft hfk hf0 hf1
            go_wp2_with fail
            go_region_held3 (fun w' => w'.cell? ⟨bp, op + k * 3 + 1, none⟩ = some (.string p.atom.n) ∧ w'.cell? ⟨bp, op + k * 3 + 2, none⟩ = some (.slice G p.atom.args.length cg) ∧ w'.cell? ⟨bb, off + q * 2, none⟩ = some (.slice X bd.ns.length cx) ∧ w'.cell? ⟨bb, off + q * 2 + 1, none⟩ = some (.slice Y bd.vs.length cy) ∧ w'.cell? ⟨ba, oa + r * 2, none⟩ = some (.string f.n) ∧ w'.cell? ⟨ba, oa + r * 2 + 1, none⟩ = some (.slice F f.args.length cf))
             (first | exact HSW.out _ (Ext.refl wr).drew | exact HSW.out _ ((Ext.refl wr).drew.alloc _) | exact HSW.out _ HX5.out | exact HSW.out _ (HX5.out.alloc _) | exact HSW.out _ ((HX5.out.setNew (Nat.le_refl _) _).setNew (Nat.le_refl _) _))
             ((go_at_call 336; refine (HMA.out _ (by first | exact (Ext.refl wr).drew | exact (Ext.refl wr).drew.alloc _)).mono ?_; rintro e w5 ⟨⟨v5, u5, rfl, hv5, hu5, hok5⟩, hx5⟩
               have HX5 := Lib.hid (show Ext wr w5 from (by first | exact (Ext.refl wr).drew.trans' hx5 | exact ((Ext.refl wr).drew.alloc _).trans' hx5))
               obtain ⟨X5, e5, rfl, hx51, hx52⟩ := SliceR.form hv5
               obtain ⟨Y5, g5, rfl, hy51, hy52⟩ := SliceR.form hu5
               have HV5 := Lib.hid hv5
               have HU5 := Lib.hid hu5
               clear hv5 hu5
               try (have hbx := (Blk.new wr 356 #[.slice none 0 0, .slice none 0 0]).drew.ext hx5
                    have j0 := hbx.cell 0
                    have j1 := hbx.cell 1
                    have j2 := hbx.frozen 0
                    have j3 := hbx.frozen 1
                    have hl52 := hbx.lt
                    simp at j0 j1)))
            all_goals
             first
             | have HBO := Lib.hid (boxed_one HX5.out (L := wr.drew.heap.size) rfl HV5.out HU5.out hok5)
             | have HBO := Lib.hid (boxed_two hbx HX5.out (by simp) (by rw [HN0.out]; exact hxo.size) HV5.out HU5.out hok5)
             have u0 := HBO.out.blk.cell 0
             have u1 := HBO.out.blk.cell 1
             have hul := HBO.out.blk.lt
             cases hm : (matchN p.atom f bd).2
             · have HMT := Lib.hid (show moreOf p.atom (xs.take (r + 1)) bd = moreOf p.atom (xs.take r) bd from by rw [moreOf_take p.atom HFK.out, hm]; simp)
               clear hm
               go_wp2
               go_roundw
               case rel => exact ⟨r + 1, by omega, by go_num, Lib.hid (by rw [HMT.out]; exact hor.out.ext HBO.out.ext), hxr.trans' HBO.out.ext⟩
               case measure => simp [intOf]; omega
             · have HMT := Lib.hid (show moreOf p.atom (xs.take (r + 1)) bd = moreOf p.atom (xs.take r) bd ++ [(matchN p.atom f bd).1] from by rw [moreOf_take p.atom HFK.out, hm]; simp)
               have hlen : ((out.take q).flatMap (moreOf p.atom xs) ++ moreOf p.atom (xs.take r) bd).length + 1 ≤ 1000000000000 := Nat.le_trans (part_len HBK.out HFK.out hm) (by rw [← HN.out]; exact HMO.out)
               have HNB0 : N0 ≤ wr.heap.size := by rw [HN0.out]; exact hxo.size
               clear hm
               have HP1 := Lib.hid (show ∀ o, OwnK kBind N0 356 (From w.heap.size) (World.alloc _ o) (.slice A2 n2 c2) ((out.take q).flatMap (moreOf p.atom xs) ++ moreOf p.atom (xs.take r) bd) from fun o => (hor.out.ext HBO.out.ext).alloc o)
               have HP2 := Lib.hid (fun (g : Nat) (hg : g = _) => ElemsK.one (k := kBind) (x := (matchN p.atom f bd).1) (S := fun i => (w.heap.size ≤ i ∧ i < N0) ∨ wr.heap.size ≤ i) (Blk.at_new (t := 356) hg) ⟨_, _, rfl, HBO.out.ns.ext ((Ext.refl _).alloc _), HBO.out.vs.ext ((Ext.refl _).alloc _), HBO.out.ok⟩)
               have HP3 := Lib.hid (show ∀ g, (Value.slice A2 n2 c2).ownBlock = some g → ¬ ((w.heap.size ≤ g ∧ g < N0) ∨ wr.heap.size ≤ g) from fun g hg hT => by have := hor.out.at_ g hg; rcases hT with h | h <;> omega)
               have HP4 := Lib.hid (show ∀ b, ((w.heap.size ≤ b ∧ b < N0) ∨ wr.heap.size ≤ b) → From w.heap.size b from fun b hb => hb.elim (fun h => h.1) (fun h => Nat.le_trans hxw.size h))
               have HP5 := Lib.hid (Nat.le_trans HNB0 HBO.out.ext.size)
               go_wp2_with (at_builtin; go_loud (refine wpList_appK (k := kBind) (S := From w.heap.size) (T := fun i => (w.heap.size ≤ i ∧ i < N0) ∨ wr.heap.size ≤ i) (base := N0) rfl (.tmp 56) (.tmp 58) 352 (by rfl) i0 _ 48 Tryz.underlying352 hi0 hz0 hz1 hz3 hz2 (by rfl) (HP1.out _) _ 1 1 (by rfl) (HP2.out _ (by simp)) (fun b hb _ => HP4.out b hb) HP3.out (by unfold maxLen; omega) (by omega) (Nat.le_trans HP5.out (by go_size)) ?_; intro v1 w3 hap))
               go_roundw
               case rel => exact ⟨r + 1, by omega, by go_num, Lib.hid (by rw [HMT.out, ← List.append_assoc]; exact hap.own), hap.toExt (hxr.trans' (HBO.out.ext.alloc _)) (Nat.le_of_eq HN0.out.symm)⟩
               case measure => simp [intOf]; omega
          · have HE := Lib.hid (show xs.take r = xs from List.take_of_length_le (by omega))
            have HQ := Lib.hid (flat_take (moreOf p.atom xs) HBK.out)
            go_wp2
            go_roundw
            case rel => exact ⟨q + 1, by omega, by go_num, Lib.hid (by rw [HQ.out]; have h := hor.out; rw [HE.out] at h; exact h), hxr⟩
            case measure => simp [intOf]; omega
       · have HE := Lib.hid (show out.take q = out from List.take_of_length_le (by omega))
         have hol := hoq.out
         rw [HE.out, ← HN.out] at hol
         go_wp2
         go_roundw
         case rel => exact ⟨k + 1, by omega, by go_num, Lib.hid (hol.sub hN1 (fun _ h => h)), hx.trans' hxq⟩
         case measure => simp [intOf]; omega
    · rw [hno] at r0
      have HN := Lib.hid (show (ps.take (k + 1)).foldl (allStep xs) [⟨[], []⟩] = (ps.take k).foldl (allStep xs) [⟨[], []⟩] from by rw [foldl_take _ _ HPK.out]; unfold allStep; simp [hno])
      clear hno
      go_wp2
      go_roundw
      case rel => exact ⟨k + 1, by omega, by go_num, Lib.hid (by rw [HN.out]; exact ho.out), hx⟩
      case measure => simp [intOf]; omega
  · have HE := Lib.hid (show ps.take k = ps from List.take_of_length_le (by omega))
    have hol := ho.out
    rw [HE.out] at hol
    have HL := Lib.hid (hol.list (S' := From w.heap.size) (fun _ h => h) (fun _ h => h))
    have HMO := Lib.hid (allFold_most xs ps hxl hpl)
    rw [HE.out] at hn0
    obtain rfl := hn0.out
    clear hol
    go_wp2_with (go_at_call 337; refine (l4Without_any xs ps _ _ _ _ _ (HV.out.ext hx) (HU.out.ext hx) HL.out (fun p hp => Nat.le_trans (HPS.out p hp) (by omega)) HMO.out).mono ?_; rintro e w1 ⟨⟨v1, rfl, ho1⟩, hx1⟩)
    go_ret
    exact ⟨⟨_, rfl, ho1.list (S' := From w.heap.size) (fun _ h => h.1) (fun g hg => Nat.le_trans hx.size hg)⟩, hx.trans' hx1⟩

end Go.Proofs.YtmihponoillihaaGreatDoor

namespace Go.Proofs.YtmihponoillihaaGreatDoor
open Go.RowKit

theorem atomsOf_take {l : List GR} {k : Nat} {x : GR} (h : l[k]? = some x) : atomsOf (l.take (k + 1)) = atomsOf (l.take k) ++ ([x.head] ++ x.body.map (·.atom)) := by
 obtain ⟨hk, rfl⟩ := List.getElem?_eq_some_iff.1 h
 unfold atomsOf
 rw [List.take_succ_eq_append_getElem hk, List.map_append, List.flatten_append]
 simp [ruleAtoms]
theorem atomsOf_few : ∀ {l : List GR}, (∀ r ∈ l, r.body.length ≤ 4) → (atomsOf l).length ≤ 5 * l.length
 | [], _ => Nat.le_refl _
 | r :: l, h => by
   have h1 := atomsOf_few (l := l) (fun x hx => h x (List.mem_cons_of_mem _ hx))
   have h2 := h r (by simp)
   have e : atomsOf (r :: l) = ruleAtoms r ++ atomsOf l := by simp [atomsOf]
   rw [e, List.length_append]
   unfold ruleAtoms
   simp only [List.length_cons, List.length_map]
   omega

set_option maxRecDepth 100000 in
set_option maxHeartbeats 4000000 in
theorem l2Atoms_any (v : Value) (l : List GR) (w : World) {S : Nat → Prop} (hv : RulesR S w v l) (hl : l.length ≤ 8) (hb : ∀ r ∈ l, r.body.length ≤ 4) :
 Calls Tryz.prog 286 #[v] w fun e w' => (∃ v', e = .returned v' ∧ AtomsR Any w' v' (atomsOf l)) ∧ Ext w w' := by
 obtain ⟨A, c, rfl, hc1, hc2⟩ := SliceR.form hv
 obtain ⟨i0, hi0, hz0, hz1, hz2⟩ := info_parts atom_info
 have HV := Lib.hid (show RulesR (fun b => b < w.heap.size) w (.slice A l.length c) l from ListK.sub (k := kRule) (ListK.low (k := kRule) hv) (fun b hb => hb.2))
 have HBD := Lib.hid hb
 clear hv hb
 go_enter Tryz.func286, Tryz.ntmps286
 go_wp2
 go_loopw [3, 4] (fun o i wr => ∃ k : Nat, k ≤ l.length ∧ i = .int .i64 k ∧ Hid (OwnK kAtom w.heap.size 54 (fun b => b < w.heap.size) wr o (atomsOf (l.take k))) ∧ Ext w wr) (fun _ i _ => l.length - (intOf i).toNat)
 case atStart => exact ⟨0, Nat.zero_le _, rfl, OwnK.empty rfl (Nat.le_refl _), (Ext.refl _).alloc _⟩
 case round =>
  obtain ⟨k, hk, rfl, ho, hx⟩ := hrel
  have hk0 : (0 : Int) ≤ (k : Int) := by omega
  have hsz := hx.size
  have hfew : (atomsOf (l.take k)).length ≤ 40 := by
   have h := atomsOf_few (l := l.take k) (fun r hr => HBD.out r (List.mem_of_mem_take hr))
   rw [List.length_take] at h; omega
  obtain ⟨B, n0, d, rfl, hn0, hd1, hd2⟩ := ho.out.form2
  by_cases hlt : k < l.length
  · obtain ⟨b, off, x, v1, u1, rfl, hb, hxk, hxs, ht, hu, p0, p1, p2⟩ := RulesR.at_ HV.out hlt
    obtain ⟨C, e, rfl, he1, he2⟩ := SliceR.form ht
    obtain ⟨D, f, rfl, hf1, hf2⟩ := SliceR.form hu
    have r0 := (hx.cells.1 b (off + k * 3) hb).trans p0
    have r1 := (hx.cells.1 b (off + k * 3 + 1) hb).trans p1
    have r2 := (hx.cells.1 b (off + k * 3 + 2) hb).trans p2
    have P2 := Lib.hid p2
    clear p0 p1 p2
    have hb4 := HBD.out x (List.mem_of_getElem? hxk)
    have HT := Lib.hid ht
    have HU := Lib.hid hu
    have HST := Lib.hid (atomsOf_take hxk)
    have hk1 : (k : Int) < (l.length : Int) := by omega
    clear hxk ht hu
    go_wp2_with (first
     | (at_builtin; refine wpList_appK (k := kAtom) (S := fun b => b < w.heap.size) (T := fun b => b < w.heap.size) (base := w.heap.size) (xs := atomsOf (l.take k)) (ys := [x.head]) rfl (.tmp 13) (.tmp 19) 30 (by rfl) i0 _ 40 Tryz.underlying30 hi0 hz0 hz1 hz2 (by rfl) (by rfl) (ho.out.ext ((Ext.refl _).alloc _)) _ 1 1 (by rfl) (ElemsK.one (k := kAtom) (x := x.head) (Blk.new wr 54 #[.string x.head.n, .slice C x.head.args.length e]) ⟨_, rfl, hxs, HT.out.ext (hx.alloc _)⟩) (fun b hb _ => hb) (fun g hg hT => absurd (ho.out.at_ g hg).1 (Nat.not_le.2 hT)) (maxOf (by omega)) (by omega) (by go_size) ?_
        intro v2 w2 hap
        obtain ⟨B2, n2, d2, rfl, hn2, hd21, hd22⟩ := hap.own.form2
        have HO2 := Lib.hid hap.own
        have HX2 := Lib.hid (show Ext w w2 from hap.toExt (hx.alloc _) (Nat.le_refl _))
        clear hap))
    go_loopw [3, 5] (fun o i wr => ∃ j : Nat, j ≤ x.body.length ∧ i = .int .i64 j ∧ Hid (OwnK kAtom w.heap.size 54 (fun b => b < w.heap.size) wr o ((atomsOf (l.take k) ++ [x.head]) ++ (x.body.take j).map (·.atom))) ∧ Ext w wr) (fun _ i _ => x.body.length - (intOf i).toNat)
    case atStart => exact ⟨0, Nat.zero_le _, rfl, Lib.hid (by simpa using HO2.out), HX2.out⟩
    case round =>
     obtain ⟨j, hj, rfl, ho, hx⟩ := hrel
     have hj0 : (0 : Int) ≤ (j : Int) := by omega
     have hsz := hx.size
     have hlen : ((atomsOf (l.take k) ++ [x.head]) ++ (x.body.take j).map (·.atom)).length ≤ 45 := by
      simp only [List.length_append, List.length_map, List.length_take, List.length_cons, List.length_nil]; omega
     obtain ⟨B, n0, d, rfl, hn0, hd1, hd2⟩ := ho.out.form2
     have r2' := (hx.cells.1 b (off + k * 3 + 2) hb).trans P2.out
     by_cases hjt : j < x.body.length
     · obtain ⟨b', off', y, v3, rfl, hb', hyk, hys, hty, q0, q1, q2⟩ := PartsR.at_ HU.out hjt
       obtain ⟨E, g, rfl, hg1, hg2⟩ := SliceR.form hty
       have s0 := (hx.cells.1 b' (off' + j * 3) hb').trans q0
       have s1 := (hx.cells.1 b' (off' + j * 3 + 1) hb').trans q1
       have s2 := (hx.cells.1 b' (off' + j * 3 + 2) hb').trans q2
       have HTY := Lib.hid hty
       have HST2 := Lib.hid (show (x.body.take (j + 1)).map (·.atom) = (x.body.take j).map (·.atom) ++ [y.atom] from by
        obtain ⟨hj', rfl⟩ := List.getElem?_eq_some_iff.1 hyk
        rw [List.take_succ_eq_append_getElem hj', List.map_append]; rfl)
       clear hyk hty q0 q1 q2
       go_wp2_with (first
        | (at_builtin; refine wpList_appK (k := kAtom) (S := fun b => b < w.heap.size) (T := fun b => b < w.heap.size) (base := w.heap.size) (xs := (atomsOf (l.take k) ++ [x.head]) ++ (x.body.take j).map (·.atom)) (ys := [y.atom]) rfl (.tmp 31) (.tmp 41) 30 (by rfl) i0 _ 40 Tryz.underlying30 hi0 hz0 hz1 hz2 (by rfl) (by rfl) (ho.out.ext ((Ext.refl _).alloc _)) _ 1 1 (by rfl) (ElemsK.one (k := kAtom) (x := y.atom) (Blk.new _ 54 #[.string y.atom.n, .slice E y.atom.args.length g]) ⟨_, rfl, hys, HTY.out.ext (hx.alloc _)⟩) (fun b hb _ => hb) (fun g hg hT => absurd (ho.out.at_ g hg).1 (Nat.not_le.2 hT)) (maxOf (by omega)) (by omega) (by go_size) ?_
           intro v4 w4 hap
           obtain ⟨B4, n4, d4, rfl, hn4, hd41, hd42⟩ := hap.own.form2
           have HO4 := Lib.hid hap.own
           have HX4 := Lib.hid (show Ext w w4 from hap.toExt (hx.alloc _) (Nat.le_refl _))
           clear hap))
       go_roundw
       case rel => exact ⟨j + 1, by omega, by go_num, Lib.hid (by rw [HST2.out, ← List.append_assoc]; exact HO4.out), HX4.out⟩
       case measure => simp [intOf]; omega
     · have HE := Lib.hid (show (atomsOf (l.take k) ++ [x.head]) ++ (x.body.take j).map (·.atom) = atomsOf (l.take (k + 1)) from by
         rw [HST.out, List.take_of_length_le (show x.body.length ≤ j by omega), List.append_assoc])
       go_wp2
       go_roundw
       case rel => exact ⟨k + 1, by omega, by go_num, Lib.hid (by rw [← HE.out]; exact ho.out), hx⟩
       case measure => simp [intOf]; omega
  · have HP := Lib.hid (show atomsOf (l.take k) = atomsOf l from by rw [List.take_of_length_le (by omega)])
    go_wp2
    go_ret
    exact ⟨⟨_, rfl, by rw [← HP.out]; exact ho.out.list (fun _ _ => trivial) (fun _ _ => trivial)⟩, hx⟩

set_option maxRecDepth 100000 in
set_option maxHeartbeats 4000000 in
theorem l2Args_any (v : Value) (l : List GR) (w : World) {S : Nat → Prop} (hv : RulesR S w v l) (hl : l.length ≤ 8) (hb : ∀ r ∈ l, r.body.length ≤ 4) :
 Calls Tryz.prog 256 #[v] w fun e w' => e = .returned (.bool (argsB (atomsOf l))) ∧ Ext w w' := by
 have hc := l2Atoms_any v l w hv hl hb
 obtain ⟨A, c, rfl, hc1, hc2⟩ := SliceR.form hv
 have HC := Lib.hid hc
 obtain ⟨as1, has⟩ : ∃ as1, as1 = atomsOf l := ⟨_, rfl⟩
 have hfew : as1.length ≤ 40 := by have := atomsOf_few hb; rw [has]; omega
 rw [← has] at HC ⊢
 clear hv hc hb has
 go_enter Tryz.func256, Tryz.ntmps256
 go_wp2_with (go_at_call 286; refine HC.out.mono ?_; rintro e w1 ⟨⟨v1, rfl, hv1⟩, hx1⟩; obtain ⟨B, d, rfl, hd1, hd2⟩ := SliceR.form hv1; have HV := Lib.hid hv1; have HX := Lib.hid hx1; clear hv1 hx1)
 go_loopw [4, 5] (fun i _ wr => ∃ k : Nat, k ≤ as1.length ∧ i = .int .i64 k ∧ Hid (∀ (i j : Nat) (a b : GA), i < k → as1[i]? = some a → as1[j]? = some b → j < i → a.n = b.n → a.args.length = b.args.length) ∧ Ext w1 wr) (fun i _ _ => as1.length - (intOf i).toNat)
 case atStart => exact ⟨0, Nat.zero_le _, rfl, Lib.hid (fun i j a b h => absurd h (Nat.not_lt_zero _)), Ext.refl _⟩
 case round =>
  obtain ⟨k, hk, rfl, hp, hx⟩ := hrel
  have hk0 : (0 : Int) ≤ (k : Int) := by omega
  by_cases hlt : k < as1.length
  · obtain ⟨b, off, x, u, rfl, hb, hxk, hxs, ht, p0, p1⟩ := AtomsR.at_ HV.out hlt
    obtain ⟨C, e, rfl, he1, he2⟩ := SliceR.form ht
    have HXK := Lib.hid hxk
    have hk1 : (k : Int) < (as1.length : Int) := by omega
    have P0 := Lib.hid p0
    have P1 := Lib.hid p1
    clear hxk ht p0 p1
    go_wp2
    try simp only [show decide ((k : Int) < (as1.length : Int)) = true from decide_eq_true hk1]
    go_loopw [5] (fun j wr => ∃ q : Nat, q ≤ k ∧ j = .int .i64 q ∧ Hid (∀ (j : Nat) (b : GA), j < q → as1[j]? = some b → x.n = b.n → x.args.length = b.args.length) ∧ Ext w1 wr) (fun j _ => k - (intOf j).toNat)
    case atStart => exact ⟨0, Nat.zero_le _, rfl, Lib.hid (fun j b h => absurd h (Nat.not_lt_zero _)), hx⟩
    case round =>
     obtain ⟨q, hq, rfl, hpq, hx⟩ := hrel
     have hq0 : (0 : Int) ≤ (q : Int) := by omega
     by_cases hqt : q < k
     · obtain ⟨b', off', y, u', hA', hb', hyk, hys, hty, q0, q1⟩ := AtomsR.at_ HV.out (k := q) (show q < as1.length by omega)
       injection hA' with hA'
       injection hA' with e1 e2
       subst e1; subst e2
       obtain ⟨E, g, rfl, hg1, hg2⟩ := SliceR.form hty
       have hq1 : (q : Int) < (as1.length : Int) := by omega
       have r0 := (hx.cells.1 b (off + k * 2) hb).trans P0.out
       have r1 := (hx.cells.1 b (off + k * 2 + 1) hb).trans P1.out
       have s0 := (hx.cells.1 b (off + q * 2) hb').trans q0
       have s1 := (hx.cells.1 b (off + q * 2 + 1) hb').trans q1
       have HYK := Lib.hid hyk
       clear hyk hty q0 q1
       have hsame : ∀ (hg : x.n = y.n → x.args.length = y.args.length), ∀ (j : Nat) (b : GA), j < q + 1 → as1[j]? = some b → x.n = b.n → x.args.length = b.args.length := fun hg j b hj hb e => by
        rcases Nat.lt_or_ge j q with h | h
        · exact hpq.out j b h hb e
        · rw [show j = q from by omega, HYK.out] at hb; injection hb with hb; subst hb; exact hg e
       by_cases hn : x.n = y.n
       · have hn1 : (x.n.toList == y.n.toList) = true := by rw [hn]; exact beq_self_eq_true _
         by_cases hlen : x.args.length = y.args.length
         · have hl1 : ((x.args.length : Int) == (y.args.length : Int)) = true := by rw [hlen]; exact beq_self_eq_true _
           have HS := Lib.hid (hsame (fun _ => hlen))
           clear hsame hn hlen
           go_wp2_with fail
           go_quiet (fail)
           go_wp2
           go_roundw
           case rel => exact ⟨q + 1, by omega, by go_num, HS, hx.drewN _⟩
           case measure => simp [intOf]; omega
         · have hl1 : ((x.args.length : Int) == (y.args.length : Int)) = false := by rw [beq_eq_false_iff_ne]; omega
           have HF := Lib.hid (show argsB as1 = false from by
            cases h : argsB as1
            · rfl
            · exact absurd ((argsB_pairs as1).1 h k q x y HXK.out HYK.out hqt hn) hlen)
           clear hsame hn hlen
           go_wp2_with fail
           go_quiet (fail)
           go_wp2
           go_ret
           exact ⟨by rw [HF.out]; rfl, HX.out.trans' (hx.drewN _)⟩
       · have hn1 : (x.n.toList == y.n.toList) = false := str_ne' hn
         have HS := Lib.hid (hsame (fun h => absurd h hn))
         clear hsame hn
         go_wp2_with fail
         go_quiet (fail)
         go_wp2
         go_roundw
         case rel => exact ⟨q + 1, by omega, by go_num, HS, hx.drewN _⟩
         case measure => simp [intOf]; omega
     · have HS := Lib.hid (show ∀ (i j : Nat) (a b : GA), i < k + 1 → as1[i]? = some a → as1[j]? = some b → j < i → a.n = b.n → a.args.length = b.args.length from fun i j a b hi ha hb hji e => by
         rcases Nat.lt_or_ge i k with h | h
         · exact hp.out i j a b h ha hb hji e
         · have hik : i = k := by omega
           subst hik
           rw [HXK.out] at ha; injection ha with ha; subst ha
           exact hpq.out j b (by omega) hb e)
       go_wp2
       go_roundw
       case rel => exact ⟨k + 1, by omega, by go_num, HS, hx⟩
       case measure => simp [intOf]; omega
  · have HF := Lib.hid (show argsB as1 = true from (argsB_pairs as1).2 (fun i j a b ha hb hji e => hp.out i j a b (by have := (List.getElem?_eq_some_iff.1 ha).1; omega) ha hb hji e))
    go_wp2
    go_ret
    exact ⟨by rw [HF.out]; rfl, HX.out.trans' hx⟩

end Go.Proofs.YtmihponoillihaaGreatDoor
