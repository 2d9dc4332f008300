/- Proved here, for all inputs and without conditions: the given statement of the law FnAskBoth. -/
import Derived.Test.YtfjdijakgjhieaaGreatBas23
import Derived.Test.YtfjdijakgjhieaaGreatBas01
import Derived.Test.YtfjdijakgjhieaaGreatBas30
set_option linter.unusedSimpArgs false
set_option linter.unusedVariables false
namespace Go.Proofs.YtfjdijakgjhieaaGreat
open Go.RowKit

theorem valS_congr {σ τ : ByteArray → ByteArray} {a : GA} (h : ∀ t ∈ a.args, t.v = true → σ t.n = τ t.n) : a.args.map (valS σ) = a.args.map (valS τ) :=
 List.map_congr_left fun t ht => by
  unfold valS
  by_cases hv : t.v = true
  · rw [if_pos hv, if_pos hv]; exact h t ht hv
  · rw [if_neg hv, if_neg hv]
theorem holds_congr {list : List GA} {σ τ : ByteArray → ByteArray} {a : GA} (h : ∀ t ∈ a.args, t.v = true → σ t.n = τ t.n) : HoldsS list a σ ↔ HoldsS list a τ := by
 unfold HoldsS
 rw [valS_congr h]
theorem sat_congr {list : List GA} {body : List GP} {σ τ : ByteArray → ByteArray} (h : ∀ x ∈ varsN body, σ x = τ x) : Sat list body σ ↔ Sat list body τ := by
 have key : ∀ p ∈ body, (HoldsS list p.atom σ ↔ HoldsS list p.atom τ) := fun p hp => holds_congr fun t ht hv => h _ (varsN_mem.2 ⟨p, hp, varsOf_mem.2 ⟨t, ht, hv, rfl⟩⟩)
 exact ⟨fun hs p hp => (key p hp).symm.trans (hs p hp), fun hs p hp => (key p hp).trans (hs p hp)⟩

/-! ### Two bodies that share no variable -/
theorem askW_ok {xs : List GA} (hx : factsB xs 300 = true) {ps : List GP} (hp : askOkB ps = true) : askW xs ps = askN xs ps (varsN ps) := by unfold askW; rw [hx, hp]; rfl
theorem askOk_both {ps qs : List GP} (hp : askOkB ps = true) (hq : askOkB qs = true) (hl : ps.length + qs.length ≤ 4) : askOkB (ps ++ qs) = true := by
 obtain ⟨h1, h2, h3, h4⟩ := askOk_parts hp
 obtain ⟨k1, k2, k3, k4⟩ := askOk_parts hq
 unfold askOkB
 simp only [Bool.and_eq_true, decide_eq_true_eq, List.all_eq_true, List.length_append]
 refine ⟨⟨⟨by omega, hl⟩, fun p hm => (List.mem_append.1 hm).elim (h3 p) (k3 p)⟩, ?_⟩
 unfold bodyTight at h4 k4 ⊢
 have hb : ∀ x, boundIn ps x = true ∨ boundIn qs x = true → boundIn (ps ++ qs) x = true := fun x h => by
  unfold boundIn at h ⊢
  rw [List.any_append, Bool.or_eq_true]; exact h
 rw [List.all_eq_true]
 intro p hm
 rw [List.all_eq_true]
 intro x hx
 rcases List.mem_append.1 hm with hm | hm
 · exact hb x (.inl (List.all_eq_true.1 (List.all_eq_true.1 h4 p hm) x hx))
 · exact hb x (.inr (List.all_eq_true.1 (List.all_eq_true.1 k4 p hm) x hx))
theorem sat_both {xs : List GA} {ps qs : List GP} {σ : ByteArray → ByteArray} : Sat xs (ps ++ qs) σ ↔ Sat xs ps σ ∧ Sat xs qs σ := by
 unfold Sat
 exact ⟨fun h => ⟨fun p hp => h p (List.mem_append_left _ hp), fun p hp => h p (List.mem_append_right _ hp)⟩, fun h p hp => (List.mem_append.1 hp).elim (h.1 p) (h.2 p)⟩
theorem vars_both {ps qs : List GP} {x : ByteArray} : x ∈ varsN (ps ++ qs) ↔ x ∈ varsN ps ∨ x ∈ varsN qs := by
 simp only [varsN_mem, List.mem_append]
 constructor
 · rintro ⟨p, hp | hp, hx⟩
   · exact .inl ⟨p, hp, hx⟩
   · exact .inr ⟨p, hp, hx⟩
 · rintro (⟨p, hp, hx⟩ | ⟨p, hp, hx⟩)
   · exact ⟨p, .inl hp, hx⟩
   · exact ⟨p, .inr hp, hx⟩
/-- Words of a row, by name. -/
def rowS (vs : List ByteArray) (r : List ByteArray) (x : ByteArray) : ByteArray := r.getD ((idxB vs x).getD 0) noWord
theorem rowS_map {vs : List ByteArray} (hn : vs.Nodup) {σ : ByteArray → ByteArray} {x : ByteArray} (hx : x ∈ vs) : rowS vs (vs.map σ) x = σ x := by
 obtain ⟨i, hi⟩ := List.getElem?_of_mem hx
 unfold rowS
 rw [idx_nodup hn hi, Option.getD_some, List.getD_eq_getElem?_getD, List.getElem?_map, hi]; rfl
def joinS (ps : List GP) (r s : List ByteArray) (qs : List GP) (x : ByteArray) : ByteArray := if memS x (varsN ps) = true then rowS (varsN ps) r x else rowS (varsN qs) s x
theorem both_len {xs : List GA} (hx : factsB xs 300 = true) {ps qs : List GP} (hp : askOkB ps = true) (hq : askOkB qs = true) (hl : ps.length + qs.length ≤ 4) (hd : ∀ x ∈ varsN qs, x ∉ varsN ps) :
 (askW xs (ps ++ qs)).length = (askW xs ps).length * (askW xs qs).length := by
 have hb := askOk_both hp hq hl
 rw [askW_ok hx hp, askW_ok hx hq, askW_ok hx hb]
 have ha := factsB_asc hx
 have i1 := fun r => ask_iff (askable hp) ha (r := r)
 have i2 := fun r => ask_iff (askable hq) ha (r := r)
 have i3 := fun r => ask_iff (askable hb) ha (r := r)
 have nd : ∀ {ps : List GP}, (askN xs ps (varsN ps)).Nodup := fun {ps} => List.Pairwise.imp (fun {a b} h e => by subst e; rw [self_zero cmpR_total] at h; omega) (askN_asc xs ps (varsN ps))
 have hperm : (askN xs (ps ++ qs) (varsN (ps ++ qs))).Perm ((askN xs ps (varsN ps)).flatMap fun r => (askN xs qs (varsN qs)).map fun s => (varsN (ps ++ qs)).map (joinS ps r s qs)) := by
  have j1 : ∀ {r s}, ∀ x ∈ varsN ps, joinS ps r s qs x = rowS (varsN ps) r x := fun x hx => by unfold joinS; rw [if_pos (memS_iff.2 hx)]
  have j2 : ∀ {r s}, ∀ x ∈ varsN qs, joinS ps r s qs x = rowS (varsN qs) s x := fun x hx => by unfold joinS; rw [if_neg (fun e => hd x hx (memS_iff.1 e))]
  have back1 : ∀ {r : List ByteArray}, r ∈ askN xs ps (varsN ps) → (varsN ps).map (rowS (varsN ps) r) = r := fun {r} hr => by
   obtain ⟨σ, rfl, _⟩ := (i1 r).1 hr
   exact List.map_congr_left fun x hx => rowS_map (varsN_asc ps).nodup hx
  have back2 : ∀ {r : List ByteArray}, r ∈ askN xs qs (varsN qs) → (varsN qs).map (rowS (varsN qs) r) = r := fun {r} hr => by
   obtain ⟨σ, rfl, _⟩ := (i2 r).1 hr
   exact List.map_congr_left fun x hx => rowS_map (varsN_asc qs).nodup hx
  have inj : ∀ {r r' s s'}, r ∈ askN xs ps (varsN ps) → r' ∈ askN xs ps (varsN ps) → s ∈ askN xs qs (varsN qs) → s' ∈ askN xs qs (varsN qs) →
   (varsN (ps ++ qs)).map (joinS ps r s qs) = (varsN (ps ++ qs)).map (joinS ps r' s' qs) → r = r' ∧ s = s' := fun {r r' s s'} hr hr' hs hs' e => by
   have e' := List.map_inj_left.1 e
   constructor
   · rw [← back1 hr, ← back1 hr']
     exact List.map_congr_left fun x hx => by rw [← j1 (s := s) x hx, ← j1 (s := s') x hx]; exact e' x (vars_both.2 (.inl hx))
   · rw [← back2 hs, ← back2 hs']
     exact List.map_congr_left fun x hx => by rw [← j2 (r := r) x hx, ← j2 (r := r') x hx]; exact e' x (vars_both.2 (.inr hx))
  refine (List.perm_ext_iff_of_nodup nd ?_).2 fun r => ?_
  · unfold List.Nodup
    rw [List.pairwise_flatMap]
    refine ⟨fun r hr => ?_, ?_⟩
    · rw [List.pairwise_map]
      exact List.Pairwise.imp_of_mem (fun {s s'} hs hs' hne e => hne (inj hr hr hs hs' e).2) (nd (ps := qs))
    · exact List.Pairwise.imp_of_mem (fun {r r'} hr hr' hne => by
        intro z hz z' hz' e
        obtain ⟨s, hs, rfl⟩ := List.mem_map.1 hz
        obtain ⟨s', hs', rfl⟩ := List.mem_map.1 hz'
        exact hne (inj hr hr' hs hs' e).1) (nd (ps := ps))
  · rw [i3, List.mem_flatMap]
    constructor
    · rintro ⟨σ, rfl, hσ⟩
      obtain ⟨h1, h2⟩ := sat_both.1 hσ
      refine ⟨(varsN ps).map σ, (i1 _).2 ⟨σ, rfl, h1⟩, List.mem_map.2 ⟨(varsN qs).map σ, (i2 _).2 ⟨σ, rfl, h2⟩, ?_⟩⟩
      refine List.map_congr_left fun x hx => ?_
      rcases vars_both.1 hx with hx | hx
      · rw [j1 x hx]; exact rowS_map (varsN_asc ps).nodup hx
      · rw [j2 x hx]; exact rowS_map (varsN_asc qs).nodup hx
    · rintro ⟨r1, hr1, hm⟩
      obtain ⟨s1, hs1, rfl⟩ := List.mem_map.1 hm
      refine ⟨joinS ps r1 s1 qs, rfl, sat_both.2 ⟨?_, ?_⟩⟩
      · obtain ⟨σ, rfl, h1⟩ := (i1 r1).1 hr1
        refine (sat_congr fun x hx => ?_).2 h1
        rw [j1 x hx]; exact rowS_map (varsN_asc ps).nodup hx
      · obtain ⟨σ, rfl, h1⟩ := (i2 s1).1 hs1
        refine (sat_congr fun x hx => ?_).2 h1
        rw [j2 x hx]; exact rowS_map (varsN_asc qs).nodup hx
 rw [hperm.length_eq, List.length_flatMap]
 simp only [List.length_map]
 rw [List.map_const', List.sum_replicate_nat]

end Go.Proofs.YtfjdijakgjhieaaGreat

namespace Go.Proofs.YtfjdijakgjhieaaGreat
open Go.RowKit

def askVarsN (ps : List GP) : List ByteArray := if askOkB ps then varsN ps else []

set_option maxRecDepth 100000 in
set_option maxHeartbeats 1000000 in
theorem implAskVars_any (ps : List GP) (u : Value) (w : World) {S : Nat → Prop} (hu : PartsR S w u ps) :
 Calls Tryz.prog 30 #[u] w fun e w' => (∃ v', e = .returned v' ∧ StrsR (From w.heap.size) w' v' (askVarsN ps)) ∧ Ext w w' := by
 obtain ⟨A, c, rfl, hc1, hc2⟩ := SliceR.form hu
 have HU := Lib.hid hu
 have HAO := Lib.hid (askOk_any ps _ w hu)
 clear hu
 cases ha : askOkB ps
 · rw [ha] at HAO
   have HR := Lib.hid (show askVarsN ps = [] from by unfold askVarsN; rw [ha]; rfl)
   clear ha
   go_enter Tryz.func30, Tryz.ntmps30
   go_wp2_with (first
    | (go_at_call 44; refine HAO.out.mono ?_; rintro e w1 ⟨rfl, hx1⟩; have HX1 := Lib.hid hx1; clear hx1)
    | fail)
   go_ret
   exact ⟨⟨_, rfl, by rw [HR.out]; exact SliceR.nil_ 0 (Nat.zero_le _) _⟩, HX1.out⟩
 · obtain ⟨_, hpl, hpo, _⟩ := askOk_parts ha
   rw [ha] at HAO
   have HR := Lib.hid (show askVarsN ps = varsN ps from by unfold askVarsN; rw [ha]; rfl)
   have HBV := Lib.hid (fun (W : World) (hW : Ext w W) => bodyVars_any ps _ W (HU.out.ext hW) (fun p hp => by have := atomOk_few (hpo p hp); omega) hpl)
   clear ha hpo
   go_enter Tryz.func30, Tryz.ntmps30
   go_wp2_with (first
    | (go_at_call 44; refine HAO.out.mono ?_; rintro e w1 ⟨rfl, hx1⟩; have HX1 := Lib.hid hx1; have hw1 := hx1.size; clear hx1)
    | (go_at_call 69; refine (HBV.out _ HX1.out).mono ?_; rintro e w2 ⟨⟨v2, rfl, hv2⟩, hx2⟩
       obtain ⟨B, d, rfl, _, _⟩ := SliceR.form hv2
       have HV2 := Lib.hid hv2
       have HX2 := Lib.hid (HX1.out.trans' hx2); clear hx2 hv2)
    | fail)
   go_ret
   exact ⟨⟨_, rfl, by rw [HR.out]; exact StrsR.sub HV2.out (fromLe hw1)⟩, HX2.out⟩

end Go.Proofs.YtfjdijakgjhieaaGreat

namespace Go.Proofs.YtfjdijakgjhieaaGreat
open Go.RowKit

set_option maxRecDepth 100000 in
set_option maxHeartbeats 1000000 in
theorem fsText_any (v : Value) (s : ByteArray) (xs : List ByteArray) (w : World) {S : Nat → Prop} (hv : StrsR S w v xs) :
 Calls Tryz.prog 31 #[v, .string s] w fun e w' => (∃ b : Bool, e = .returned (.bool b) ∧ (b = true ↔ s ∈ xs)) ∧ Ext w w' := by
 obtain ⟨A, c, rfl, hc1, hc2⟩ := SliceR.form hv
 have HV := Lib.hid hv
 clear hv
 go_enter Tryz.func31, Tryz.ntmps31
 go_wp2
 go_loopw [5] (fun i wr => ∃ k : Nat, k ≤ xs.length ∧ i = .int .i64 k ∧ Hid (∀ (i : Nat) (y : ByteArray), i < k → xs[i]? = some y → y ≠ s) ∧ Ext w wr) (fun i _ => xs.length - (intOf i).toNat)
 case atStart => exact ⟨0, Nat.zero_le _, rfl, Lib.hid (fun i y h => absurd h (Nat.not_lt_zero _)), Ext.refl _⟩
 case round =>
  obtain ⟨k, hk, rfl, hp, hx⟩ := hrel
  have hk0 : (0 : Int) ≤ (k : Int) := Int.natCast_nonneg _
  by_cases hlt : k < xs.length
  · obtain ⟨b, off, x, rfl, hb, hxk, hxs, c0⟩ := StrsR.at_ (HV.out.ext hx) hlt
    have hk1 : (k : Int) < (xs.length : Int) := by omega
    by_cases hxy : x = s
    · subst hxy
      have h3 : (x.toList == x.toList) = true := beq_self_eq_true _
      have HM := Lib.hid (List.mem_of_getElem? hxk)
      clear hxk hp
      go_wp2
      go_ret
      exact ⟨⟨true, rfl, by simp [HM.out]⟩, hx⟩
    · have h3 : (x.toList == s.toList) = false := str_ne' hxy
      have HP := Lib.hid (show ∀ (i : Nat) (u : ByteArray), i < k + 1 → xs[i]? = some u → u ≠ s from fun i u hi hu => by
       rcases Nat.lt_or_ge i k with h | h
       · exact hp.out i u h hu
       · have e : i = k := by omega
         subst e
         rw [hxk] at hu; injection hu with hu
         exact fun e => hxy (hu.trans e))
      clear hxk hp hxy
      go_wp2
      go_roundw
      case rel => exact ⟨k + 1, by omega, by go_num, HP, hx⟩
      case measure => simp [intOf]; omega
  · have HN := Lib.hid (show s ∉ xs from fun hm => by
      obtain ⟨i, hi⟩ := List.getElem?_of_mem hm
      exact hp.out i s (by have := (List.getElem?_eq_some_iff.1 hi).1; omega) hi rfl)
    clear hp
    go_wp2
    go_ret
    exact ⟨⟨false, rfl, by simp [HN.out]⟩, hx⟩

end Go.Proofs.YtfjdijakgjhieaaGreat

namespace Go.Proofs.YtfjdijakgjhieaaGreat
open Go.RowKit

theorem both_rows (xs : List GA) {ps qs : List GP} (hp : askOkB ps = true) (hq : askOkB qs = true) (hl : ps.length + qs.length ≤ 4) (hd : ∀ x ∈ varsN qs, x ∉ varsN ps) :
 (askW xs (ps ++ qs)).length = (askW xs ps).length * (askW xs qs).length := by
 cases hx : factsB xs 300
 · have h : ∀ b, askW xs b = [] := fun b => by unfold askW; rw [hx]; rfl
   rw [h, h, h]; rfl
 · exact both_len hx hp hq hl hd

set_option maxRecDepth 100000 in
set_option maxHeartbeats 8000000 in
theorem fnAskBoth_any (HD : DrawAskC) (v v' : Value) (bs bs' : List UInt8) (w : World) {S S' : Nat → Prop} (hv : BytesR S w v bs) (hv' : BytesR S' w v' bs') :
 Calls Tryz.prog 7 #[v, v'] w fun e w' => e = .returned (.bool true) ∧ Ext w w' := by
 obtain ⟨A, c, rfl, hc1, hc2⟩ := SliceR.form hv
 obtain ⟨A', c', rfl, hc1', hc2'⟩ := SliceR.form hv'
 have HV := Lib.hid hv
 have HV' := Lib.hid hv'
 have HDD := Lib.hid HD
 obtain ⟨i0, hi0, hz0, hz1, hz2⟩ := info_parts part_info
 clear hv hv' HD
 by_cases h1 : 1048576 < bs.length
 · go_enter Tryz.func7, Tryz.ntmps7
   go_wp2
   go_ret
   exact ⟨rfl, Ext.refl _⟩
 by_cases h2 : 1048576 < bs'.length
 · go_enter Tryz.func7, Tryz.ntmps7
   go_wp2
   go_ret
   exact ⟨rfl, Ext.refl _⟩
 go_enter Tryz.func7, Tryz.ntmps7
 go_upto_region 3 with fail
 go_upto_region 4 with (first
  | (go_at_call 27; refine (HDD.out _ bs _ _ HV.out).mono ?_; rintro e w1 ⟨⟨xs, ps, v1, u1, rfl, hv1, hu1, hl⟩, hx1⟩
     obtain ⟨B, d, rfl, hd1, hd2⟩ := SliceR.form hv1
     obtain ⟨D, f, rfl, hf1, hf2⟩ := SliceR.form hu1
     have HX1 := Lib.hid hx1
     have HXS := Lib.hid hv1
     have HPS := Lib.hid hu1
     clear hx1 hv1 hu1)
  | fail)
 go_upto_region 5 with (first
  | (go_at_call 27; refine (HDD.out _ bs' _ _ (HV'.out.ext HX1.out)).mono ?_; rintro e w2 ⟨⟨ys, qs, v2, u2, rfl, hv2, hu2, hl2⟩, hx2⟩
     obtain ⟨B', d', rfl, hd1', hd2'⟩ := SliceR.form hv2
     obtain ⟨D', f', rfl, hf1', hf2'⟩ := SliceR.form hu2
     have HX2 := Lib.hid (HX1.out.trans' hx2)
     have HXS2 := Lib.hid (HXS.out.ext hx2)
     have HPS2 := Lib.hid (HPS.out.ext hx2)
     have HQS2 := Lib.hid hu2
     clear hx2 hv2 hu2)
  | fail)
 clear HDD HV HV' HXS HPS HX1
 have HIA := Lib.hid (fun (rs : List GP) (u : Value) (W : World) (T : Nat → Prop) (hW : Ext w2 W) (hu : PartsR T W u rs) => implAsk_any xs rs _ u W (HXS2.out.ext hW) hu)
 have HSA := Lib.hid (fun (W : World) (hW : Ext w2 W) => specAsk_any xs ps _ _ W (HXS2.out.ext hW) (HPS2.out.ext hW))
 have HAP := Lib.hid (fun (W : World) (hW : Ext w2 W) => specAskOk_any ps _ W (HPS2.out.ext hW))
 have HAQ := Lib.hid (fun (W : World) (hW : Ext w2 W) => specAskOk_any qs _ W (HQS2.out.ext hW))
 have HVP := Lib.hid (fun (W : World) (hW : Ext w2 W) => implAskVars_any ps _ W (HPS2.out.ext hW))
 have HVQ := Lib.hid (fun (W : World) (hW : Ext w2 W) => implAskVars_any qs _ W (HQS2.out.ext hW))
 obtain ⟨rows, hrows⟩ : ∃ rows, rows = askW xs ps := ⟨_, rfl⟩
 rw [← hrows] at HSA
 have HRW := Lib.hid hrows
 clear hrows
 obtain ⟨okp, hokp⟩ : ∃ ok, ok = askOkB ps := ⟨_, rfl⟩
 rw [← hokp] at HAP
 have HOKP := Lib.hid hokp
 clear hokp
 obtain ⟨okq, hokq⟩ : ∃ ok, ok = askOkB qs := ⟨_, rfl⟩
 rw [← hokq] at HAQ
 have HOKQ := Lib.hid hokq
 clear hokq
 have hsw : IntKind.i64.wrap ((ps.length : Int) + (qs.length : Int)) = (ps.length : Int) + (qs.length : Int) := by rw [IntKind.wrap_i64]; omega
 go_upto_region 6 with (first
  | (go_at_call 14; refine (HIA.out ps _ _ _ (Ext.refl _) HPS2.out).mono ?_; rintro e w3 ⟨⟨r3, rfl, hr3⟩, hx3⟩
     obtain ⟨R3, g3, hr3e, hg31, hg32⟩ := SliceR.form hr3.read
     have HR3 := Lib.hid (show RowsR (From w2.heap.size) w3 r3 rows from by rw [HRW.out]; exact hr3.read)
     rw [← HRW.out] at hr3e
     subst hr3e
     have HX3 := Lib.hid hx3
     clear hr3 hx3)
  | fail)
 rcases (show (okp = false ∨ (okp = true ∧ okq = false) ∨ (okp = true ∧ okq = true ∧ 4 < ps.length + qs.length)) ∨ (okp = true ∧ okq = true ∧ ps.length + qs.length ≤ 4) from by
  cases okp
  · exact .inl (.inl rfl)
  · cases okq
    · exact .inl (.inr (.inl ⟨rfl, rfl⟩))
    · rcases Nat.lt_or_ge 4 (ps.length + qs.length) with h | h
      · exact .inl (.inr (.inr ⟨rfl, rfl, h⟩))
      · exact .inr ⟨rfl, rfl, h⟩) with (rfl | ⟨rfl, rfl⟩ | ⟨rfl, rfl, hs⟩) | ⟨rfl, rfl, hs⟩
 rotate_right
 · -- both may be asked
   have hs1 : ¬ (4 : Int) < (ps.length : Int) + (qs.length : Int) := by omega
   have HVPS := Lib.hid (show askVarsN ps = varsN ps from by unfold askVarsN; rw [← HOKP.out]; rfl)
   have HVQS := Lib.hid (show askVarsN qs = varsN qs from by unfold askVarsN; rw [← HOKQ.out]; rfl)
   rw [HVPS.out] at HVP
   rw [HVQS.out] at HVQ
   obtain ⟨vp, hvp⟩ : ∃ vp, vp = varsN ps := ⟨_, rfl⟩
   obtain ⟨vq, hvq⟩ : ∃ vq, vq = varsN qs := ⟨_, rfl⟩
   rw [← hvp] at HVP
   rw [← hvq] at HVQ
   have HVPE := Lib.hid hvp
   have HVQE := Lib.hid hvq
   have tok : True := trivial
   have tok2 : True := trivial
   clear hvp hvq
   go_wp2_with (first
    | (go_at_call 17; refine (HSA.out _ HX3.out).mono ?_; rintro e w4 ⟨⟨r4, rfl, hr4⟩, hx4⟩
       have HR4 := Lib.hid hr4
       have HX4 := Lib.hid (HX3.out.trans' hx4)
       have HS4 := Lib.hid (HR3.out.ext_ hx4)
       clear hr4 hx4)
    | (go_at_call 28; refine (fsRows_same _ _ rows _ HS4.out HR4.out).mono ?_; rintro e w5 ⟨rfl, hx5⟩
       have HX5 := Lib.hid (HX4.out.trans' hx5)
       clear hx5 HS4 HR4)
    | (go_at_call 29; have _t := tok; refine (HAP.out _ HX5.out).mono ?_; clear tok _t; rintro e w6 ⟨rfl, hx6⟩
       have HX6 := Lib.hid (HX5.out.trans' hx6)
       clear hx6)
    | (go_at_call 29; refine (HAQ.out _ HX6.out).mono ?_; rintro e w7 ⟨rfl, hx7⟩
       have HX7 := Lib.hid (HX6.out.trans' hx7)
       clear hx7)
    | (go_at_call 30; have _t := tok2; refine (HVP.out _ HX7.out).mono ?_; clear tok2 _t; rintro e w10 ⟨⟨v10, rfl, hv10⟩, hx10⟩
       have HP10 := Lib.hid hv10
       have HX10 := Lib.hid (HX7.out.trans' hx10)
       obtain ⟨P10, p10, rfl, _, _⟩ := SliceR.form hv10
       clear hv10 hx10)
    | (go_at_call 30; refine (HVQ.out _ HX10.out).mono ?_; rintro e w11 ⟨⟨v11, rfl, hv11⟩, hx11⟩
       have HP11 := Lib.hid (HP10.out.ext hx11)
       have HQ11 := Lib.hid hv11
       have HX11 := Lib.hid (HX10.out.trans' hx11)
       obtain ⟨Q11, q11, rfl, _, _⟩ := SliceR.form hv11
       clear hv11 hx11)
    | fail)
   clear HVP HVQ HAP HAQ HSA hs1 hsw
   go_loopw [12] (fun i wr => ∃ k : Nat, k ≤ vq.length ∧ i = .int .i64 k ∧ Hid (∀ (i : Nat) (y : ByteArray), i < k → vq[i]? = some y → y ∉ vp) ∧ Ext w11 wr) (fun i _ => vq.length - (intOf i).toNat)
   case atStart => exact ⟨0, Nat.zero_le _, rfl, Lib.hid (fun i y h => absurd h (Nat.not_lt_zero _)), Ext.refl _⟩
   case round =>
    obtain ⟨k, hk, rfl, hp, hx⟩ := hrel
    have hk0 : (0 : Int) ≤ (k : Int) := Int.natCast_nonneg _
    by_cases hlt : k < vq.length
    · have hk1 : (k : Int) < (vq.length : Int) := by omega
      obtain ⟨b, off, y, rfl, hb, hyk, hys, c0⟩ := StrsR.at_ (HQ11.out.ext hx) hlt
      have HYK := Lib.hid hyk
      have HFT := Lib.hid (fsText_any _ y vp wr (HP11.out.ext hx))
      clear hyk
      go_wp2_with (first
       | (go_at_call 31; refine HFT.out.mono ?_; rintro e w12 ⟨⟨t, rfl, ht⟩, hx12⟩
          have HTT := Lib.hid ht
          have HX12 := Lib.hid (hx.trans' hx12)
          clear ht hx12)
       | fail)
      · go_ret
        exact ⟨rfl, HX2.out.trans' (HX11.out.trans' HX12.out)⟩
      · have htt : t = false := by first | assumption | (cases t <;> simp_all)
        go_roundw
        case rel =>
         exact ⟨k + 1, by omega, by go_num, Lib.hid (fun i z hi hz => by
          rcases Nat.lt_or_ge i k with h | h
          · exact hp.out i z h hz
          · have e : i = k := by omega
            subst e
            have h1 := HYK.out
            rw [hz] at h1; injection h1 with h1
            subst h1
            intro e
            have := HTT.out.2 e
            rw [htt] at this; cases this), HX12.out⟩
        case measure => simp [intOf]; omega
    · have hk1 : ¬ (k : Int) < (vq.length : Int) := by omega
      have HD := Lib.hid (show ∀ x ∈ varsN qs, x ∉ varsN ps from fun x hm => by
       rw [← HVQE.out] at hm
       rw [← HVPE.out]
       obtain ⟨i, hi⟩ := List.getElem?_of_mem hm
       exact hp.out i x (by have := (List.getElem?_eq_some_iff.1 hi).1; omega) hi)
      have HBR := Lib.hid (both_rows xs HOKP.out.symm HOKQ.out.symm hs HD.out)
      rw [← HRW.out] at HBR
      have HXR := Lib.hid (HX11.out.trans' hx)
      obtain ⟨N0, hN0⟩ : ∃ N0, N0 = wr.heap.size := ⟨_, rfl⟩
      have HEP := Lib.hid (show ∀ W, Ext wr W → ElemsK kPart (fun b => b < N0) W (.slice D ps.length f) ps from fun W hW => by
       rw [hN0]; exact ElemsK.ext ((ListK.elems (k := kPart) (ListK.low (k := kPart) (HPS2.out.ext HXR.out))).sub (fun b hb _ => hb.2)) hW)
      have HEQ := Lib.hid (show ∀ W, Ext wr W → ElemsK kPart (fun b => b < N0) W (.slice D' qs.length f') qs from fun W hW => by
       rw [hN0]; exact ElemsK.ext ((ListK.elems (k := kPart) (ListK.low (k := kPart) (HQS2.out.ext HXR.out))).sub (fun b hb _ => hb.2)) hW)
      have HO0 := Lib.hid (show OwnK kPart N0 37 (fun b => b < N0) (wr.alloc (.cells #[] 37)) (.slice (some ⟨wr.heap.size, 0, none⟩) 0 0) ([] : List GP) from OwnK.empty rfl (Nat.le_of_eq hN0))
      have HN0 := Lib.hid hN0
      have tok4 : True := trivial
      have tok5 : True := trivial
      clear hp HP11 HQ11 HD hN0
      go_wp2_with (first
       | (at_builtin; have _t := tok4; refine wpList_appL (k := kPart) (S := fun b => b < N0) (T := fun b => b < N0) (base := N0) (xs := []) (ys := ps) rfl (.tmp 80) (.tmp 81) 38 (by rfl) i0 _ 48 Tryz.underlying38 hi0 hz0 hz1 hz2 (by rfl) (by rfl) HO0.out _ _ _ (by rfl) (HEP.out _ ((Ext.refl _).alloc _)) (fun b hb => ⟨hb, hb⟩) (by unfold maxLen; simp; omega) (by simp; omega) (by have := HN0.out; go_size) ?_
          clear tok4 _t
          intro v13 w13 hap1; obtain ⟨A1, n1, c1, rfl, hn1, _, _⟩ := hap1.own.form2; have HX13 := Lib.hid (hap1.toExt (w0 := wr) ((Ext.refl _).alloc _) (Nat.le_of_eq HN0.out.symm)); have HA1 := Lib.hid hap1; clear hap1)
       | (at_builtin; have _t := tok5; refine wpList_appL (k := kPart) (S := fun b => b < N0) (T := fun b => b < N0) (base := N0) (xs := [] ++ ps) (ys := qs) rfl (.tmp 82) (.tmp 83) 38 (by rfl) i0 _ 48 Tryz.underlying38 hi0 hz0 hz1 hz2 (by rfl) (by rfl) HA1.out.own _ _ _ (by rfl) (HEQ.out _ HX13.out) (fun b hb => ⟨hb, hb⟩) (by unfold maxLen; simp; omega) (by simp; omega) (by have := HX13.out.size; have := HN0.out; omega) ?_
          clear tok5 _t
          intro v14 w14 hap2; obtain ⟨A2, n2, c2, rfl, hn2, _, _⟩ := hap2.own.form2; have HX14 := Lib.hid (hap2.toExt (w0 := wr) HX13.out (Nat.le_of_eq HN0.out.symm))
          have HB14 := Lib.hid (show PartsR Any w14 (.slice A2 n2 c2) (ps ++ qs) from by
           have h := hap2.own.list (S' := Any) (fun _ _ => trivial) (fun _ _ => trivial)
           simp only [List.nil_append] at h
           exact h)
          have HXX := Lib.hid (HXR.out.trans' HX14.out)
          have tok6 : True := trivial
          clear hap2)
       | (go_at_call 14; have _t := tok6; refine (HIA.out (ps ++ qs) _ _ _ HXX.out HB14.out).mono ?_; clear tok6 _t; rintro e w15 ⟨⟨r15, rfl, hr15⟩, hx15⟩
          obtain ⟨Z, cz, rfl, hz15, hz15'⟩ := SliceR.form hr15.read
          have HX15 := Lib.hid (HXX.out.trans' hx15)
          clear hr15 hx15)
       | (go_at_call 14; refine (HIA.out qs _ _ _ HX15.out (HQS2.out.ext HX15.out)).mono ?_; rintro e w16 ⟨⟨r16, rfl, hr16⟩, hx16⟩
          obtain ⟨Y, cy, rfl, hy16, hy16'⟩ := SliceR.form hr16.read
          have HX16 := Lib.hid (HX15.out.trans' hx16)
          have hmw : IntKind.i64.wrap ((rows.length : Int) * ((askW xs qs).length : Int)) = ((askW xs (ps ++ qs)).length : Int) := (by
           rw [HBR.out]
           have h1 : rows.length * (askW xs qs).length ≤ 9223372036854775807 := by rw [← HBR.out]; exact Nat.le_trans hz15 hz15'
           rw [show (rows.length : Int) * ((askW xs qs).length : Int) = ((rows.length * (askW xs qs).length : Nat) : Int) from by simp, IntKind.wrap_i64]
           omega)
          clear hr16 hx16)
       | fail)
      go_ret
      exact ⟨rfl, HX2.out.trans' HX16.out⟩
 all_goals
  try have hs1 : (4 : Int) < (ps.length : Int) + (qs.length : Int) := by omega
  have tok : True := trivial
  have tok2 : True := trivial
  have tok3 : True := trivial
  go_wp2_with (first
   | (go_at_call 17; have _t := tok; refine (HSA.out _ HX3.out).mono ?_; clear tok _t; rintro e w4 ⟨⟨r4, rfl, hr4⟩, hx4⟩
      have HR4 := Lib.hid hr4
      have HX4 := Lib.hid hx4
      have HS4 := Lib.hid (HR3.out.ext_ hx4)
      clear hr4 hx4)
   | (go_at_call 28; have _t := tok2; refine (fsRows_same _ _ rows _ HS4.out HR4.out).mono ?_; clear tok2 _t; rintro e w5 ⟨rfl, hx5⟩
      have HXC := Lib.hid (HX4.out.trans' hx5)
      clear hx5 HR4)
   | (go_at_call 29; have _t := tok3; refine (HAP.out _ (HX3.out.trans' HXC.out)).mono ?_; clear tok3 _t; rintro e w6 ⟨rfl, hx6⟩
      have HXD := Lib.hid (HXC.out.trans' hx6)
      clear hx6 HXC
      have HXC := Lib.hid HXD.out
      clear HXD)
   | (go_at_call 29; refine (HAQ.out _ (HX3.out.trans' HXC.out)).mono ?_; rintro e w7 ⟨rfl, hx7⟩
      have HXD := Lib.hid (HXC.out.trans' hx7)
      clear hx7 HXC
      have HXC := Lib.hid HXD.out
      clear HXD)
   | (go_at_call 17; refine (HSA.out _ (HX3.out.trans' HXC.out)).mono ?_; rintro e w8 ⟨⟨r8, rfl, hr8⟩, hx8⟩
      have HR8 := Lib.hid hr8
      have HX8 := Lib.hid (HXC.out.trans' hx8)
      have HS8 := Lib.hid (HR3.out.ext_ HX8.out)
      clear hr8 hx8)
   | (go_at_call 28; refine (fsRows_same _ _ rows _ HS8.out HR8.out).mono ?_; rintro e w9 ⟨rfl, hx9⟩
      have HX9 := Lib.hid (HX8.out.trans' hx9)
      clear hx9)
   | fail)
  go_ret
  exact ⟨rfl, HX2.out.trans' (HX3.out.trans' HX9.out)⟩

end Go.Proofs.YtfjdijakgjhieaaGreat

namespace Go.Proofs.YtfjdijakgjhieaaGreat
open Go.RowKit Go.ChangeShapes Go.WideShapes

set_option maxRecDepth 100000 in
theorem askBoth_lifted (os : Os) (started : os.Started) (H : Type) (enc : TypeId × Value → H) :
 ReturnsInHanded {} Tryz.checked os 7 .any (Rows.fnAskBothSpec.pre6 enc Tryz.prog Tryz.f7 Rows.fnAskBothRow.domain false) (Rows.fnAskBothSpec.post enc Tryz.prog Tryz.f7 false true false false) := by
 refine returnsInHanded_of_change (C := Tryz.checked) law_own started (by kernel_rfl) Tryz.func7
  (ChangeSpec.witness6 (enc := enc) (C := Tryz.checked) false ⟨#[], #[.slice none 0 0, .slice none 0 0], []⟩ 8 (by kernel_rfl) (by kernel_rfl) (by kernel_rfl) (by kernel_rfl)) ?_
 intro W base args ds gs before hval0 hW hcnd _
 have hW' := hW
 obtain ⟨p, q, hA0, hV, rfl, hfz, hnd⟩ := hW
 have hA : DataW.TrodAll enc Tryz.prog W 0 (fun _ => true) true Tryz.f7.params.toList args.toList ds p := hA0
 have hval : ∀ (j : Nat) t v, Tryz.f7.params[j]? = some t → args[j]? = some v → Value.okWide Tryz.prog W .any base t v := hval0
 rw [Tryz.params7] at hA hval
 obtain ⟨v0, v1, d0, d1, p0, p1, rfl, rfl, rfl, ⟨k0, h0⟩, ⟨k1, h1⟩⟩ := trodAll_two hA
 obtain ⟨rfl, rfl⟩ := trodVars_none hV
 obtain ⟨_, _, _, rfl⟩ := okWide_slice Tryz.underlying22 (hval 0 22 v0 rfl rfl)
 obtain ⟨_, _, _, rfl⟩ := okWide_slice Tryz.underlying22 (hval 1 22 v1 rfl rfl)
 obtain ⟨xs, hxs⟩ := read_bytes h0
 obtain ⟨ys, hys⟩ := read_bytes h1
 clear hA0 hval0
 simp only [List.append_nil] at hW'
 refine (fnAskBoth_any drawAsk_any _ _ xs ys W hxs hys).mono fun e W' ⟨he, hw⟩ => ?_
 subst he
 exact ⟨_, rfl, law_post (t := 4) rfl rfl Tryz.underlying4 rfl law_laidOut (by rw [Tryz.params7]; intro t ht; simp at ht; subst ht; exact ⟨by kernel_rfl, of_decide_eq_true (by kernel_rfl)⟩) hW' hw⟩

theorem fnAskBoth_holds : Rows.FnAskBothSaid :=
 OpenClaim.holds_of_wide 7 Tryz.f7 rfl rfl rfl rfl rfl rfl rfl ⟨rfl, rfl, rfl, rfl, rfl⟩ rfl rfl rfl rfl rfl (by kernel_rfl) Tryz.func7 (by kernel_rfl)
  (of_decide_eq_true (by kernel_rfl)) (by unfold Func.isWrapper; rw [if_neg (of_decide_eq_false (by kernel_rfl))]; exact ⟨rfl, rfl⟩)
  (fun os started H enc _ => askBoth_lifted os started H enc)

end Go.Proofs.YtfjdijakgjhieaaGreat
