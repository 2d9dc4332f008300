/- Texts of the proof: Sat, Law, ReadB. -/
import Derived.Test.YtfjdijakgjhieaaGreatAskf19
import Derived.Test.YtfjdijakgjhieaaGreatRows
import Derived.Test.YtfjdijakgjhieaaGreatAskf01
import Derived.ProofKit
import Derived.ChangeSame
import Derived.WideKeyArgs
import Derived.Test.YtfjdijakgjhieaaGreatAskf20
import Derived.ChangeSlices
namespace Go.Proofs.YtfjdijakgjhieaaGreat
set_option linter.unusedSimpArgs false
set_option linter.unusedVariables false
open Go.RowKit

/-- All that must be is, and nothing else. -/
def Sat (list : List GA) (body : List GP) (σ : ByteArray → ByteArray) : Prop := ∀ p ∈ body, (HoldsS list p.atom σ ↔ p.no = false)
theorem all_sat {list : List GA} {body : List GP} (ha : Asc list) {b : LB} (hb : b ∈ allN list body) : Sat list body (sig b) := by
  have hst : ∀ c ∈ [(⟨[], []⟩ : LB)], c.ok := fun c hc => by
    have : c = ⟨[], []⟩ := by simpa using hc
    subst this; rfl
  obtain ⟨hbm, hheld⟩ := List.mem_filter.1 hb
  obtain ⟨k1, _, k3⟩ := fold_sound hst hbm
  intro p hp
  cases hno : p.no with
  | false =>
    refine ⟨fun _ => rfl, fun _ => ?_⟩
    obtain ⟨f, hfm, hfn, hargs⟩ := k3 p hp hno
    refine ⟨f, hfm, hfn, ?_⟩
    have e : (f.args.map (·.n)).map some = (p.atom.args.map (valS (sig b))).map some := by
      rw [List.map_map, show (some ∘ fun x : GT => x.n) = fun f : GT => some f.n from rfl, ← hargs, List.map_map]
      refine List.map_congr_left fun t ht => ?_
      show valB b t = some (valS (sig b) t)
      unfold valB valS
      by_cases hv : t.v = true
      · rw [if_pos hv, if_pos hv]
        have : valB b t ∈ f.args.map (fun f => some f.n) := by rw [← hargs]; exact List.mem_map_of_mem ht
        obtain ⟨g, _, hg⟩ := List.mem_map.1 this
        unfold valB at hg
        rw [if_pos hv] at hg
        unfold sig
        rw [← hg]; rfl
      · rw [if_neg hv, if_neg hv]
    exact (List.map_inj_right (f := some) (fun x y h => Option.some.inj h)).1 e
  | true =>
    refine ⟨fun h => ?_, fun h => by cases h⟩
    have h1 := (hasA_holds ha (b := b) (fun t _ _ => rfl)).2 h
    unfold heldB at hheld
    have := List.all_eq_true.1 hheld p hp
    rw [hno, h1] at this
    cases this
theorem sat_all {list : List GA} {body : List GP} {vs : List ByteArray} (hb : Askable body vs) (ha : Asc list) {σ : ByteArray → ByteArray} (hs : Sat list body σ) : ∃ b ∈ allN list body, ∀ x ∈ vs, sig b x = σ x := by
  have hst : ∀ c ∈ [(⟨[], []⟩ : LB)], c.ok := fun c hc => by
    have : c = ⟨[], []⟩ := by simpa using hc
    subst this; rfl
  obtain ⟨b, hbm, hbu⟩ := fold_meets (list := list) (out := [⟨[], []⟩]) (c := ⟨[], []⟩) hst (by simp) (fun x u h => by cases h) (fun p hp hn => (hs p hp).2 hn)
  obtain ⟨k1, _, k3⟩ := fold_sound hst hbm
  have hsig : ∀ x ∈ vs, sig b x = σ x := fun x hx => by
    obtain ⟨p, hp, hno, t, ht, htv, htn⟩ := hb.tight x hx
    obtain ⟨f, _, _, hfm⟩ := k3 p hp hno
    have : valB b t ∈ f.args.map (fun f => some f.n) := by rw [← hfm]; exact List.mem_map_of_mem ht
    obtain ⟨g, _, hg⟩ := List.mem_map.1 this
    unfold valB at hg
    rw [if_pos htv, htn] at hg
    unfold sig
    rw [← hg]
    exact hbu x g.n hg.symm
  refine ⟨b, List.mem_filter.2 ⟨hbm, ?_⟩, hsig⟩
  unfold heldB
  rw [List.all_eq_true]
  intro p hp
  cases hno : p.no with
  | false => rfl
  | true =>
    cases hh : hasA list (fillN p.atom b) with
    | false => rfl
    | true =>
      have := (hs p hp).1 ((hasA_holds ha (fun t ht htv => hsig t.n (hb.mem p hp t ht htv))).1 hh)
      rw [hno] at this; cases this
theorem ask_iff {list : List GA} {body : List GP} {vs : List ByteArray} (hb : Askable body vs) (ha : Asc list) {r : List ByteArray} : r ∈ askN list body vs ↔ ∃ σ, vs.map σ = r ∧ Sat list body σ := by
  rw [askN_mem]
  constructor
  · rintro ⟨b, hbm, rfl⟩
    exact ⟨sig b, rfl, all_sat ha hbm⟩
  · rintro ⟨σ, rfl, hs⟩
    obtain ⟨b, hbm, hsig⟩ := sat_all hb ha hs
    exact ⟨b, hbm, List.map_congr_left hsig⟩
/-- P53. -/
theorem fact_vars {a : GA} (h : ∀ t ∈ a.args, t.v = false) (no : Bool) : varsN [⟨no, a⟩] = [] := by
  apply List.eq_nil_iff_forall_not_mem.2
  intro x hx
  obtain ⟨p, hp, hx⟩ := varsN_mem.1 hx
  simp only [List.mem_singleton] at hp
  subst hp
  obtain ⟨t, ht, htv, _⟩ := varsOf_mem.1 hx
  rw [h t ht] at htv; cases htv
theorem fact_askOk {a : GA} (ha : atomOkB a = true) (h : ∀ t ∈ a.args, t.v = false) (no : Bool) : askOkB [⟨no, a⟩] = true := by
  unfold askOkB bodyTight
  have e : varsOf a = [] := by
    apply List.eq_nil_iff_forall_not_mem.2
    intro x hx
    obtain ⟨t, ht, htv, _⟩ := varsOf_mem.1 hx
    rw [h t ht] at htv; cases htv
  simp [ha, e]
theorem fact_holds {xs : List GA} (hx : Asc xs) {a : GA} (h : ∀ t ∈ a.args, t.v = false) (σ : ByteArray → ByteArray) : HoldsS xs a σ ↔ hasA xs a = true := by
  rw [hasA_same hx]
  have e : a.args.map (valS σ) = a.args.map (·.n) := List.map_congr_left fun t ht => by unfold valS; rw [h t ht]; rfl
  unfold HoldsS
  rw [e]
  exact ⟨fun ⟨f, h1, h2, h3⟩ => ⟨f, h1, same_iff.2 ⟨h2, h3⟩⟩, fun ⟨f, h1, h2⟩ => ⟨f, h1, (same_iff.1 h2).1, (same_iff.1 h2).2⟩⟩
theorem asc_one {l : List (List ByteArray)} (h : AscC cmpR l) (hn : ∀ r, r ∈ l ↔ r = []) : l = [[]] := asc_ext cmpR_total h (List.pairwise_singleton _ _) fun r => by rw [hn, List.mem_singleton]
theorem fact_rows {xs : List GA} (hx : factsB xs 300 = true) {a : GA} (ha : atomOkB a = true) (h : ∀ t ∈ a.args, t.v = false) (no : Bool) : askW xs [⟨no, a⟩] = if hasA xs a = no then [] else [[]] := by
  have hok := fact_askOk ha h no
  unfold askW
  rw [hx, hok, Bool.and_self, if_pos rfl, fact_vars h]
  have hA := askable hok
  rw [fact_vars h] at hA
  have hi := fun r => ask_iff hA (factsB_asc hx) (r := r)
  have hs : ∀ σ, Sat xs [⟨no, a⟩] σ ↔ hasA xs a ≠ no := fun σ => by
    have h1 := fact_holds (factsB_asc hx) h σ
    unfold Sat
    simp only [List.mem_singleton, forall_eq]
    rw [h1]
    cases no <;> cases hasA xs a <;> simp
  split
  · rename_i he
    apply List.eq_nil_iff_forall_not_mem.2
    intro r hr
    obtain ⟨σ, _, hσ⟩ := (hi r).1 hr
    exact (hs σ).1 hσ he
  · rename_i he
    refine asc_one (askN_asc _ _ _) fun r => ?_
    rw [hi]
    constructor
    · rintro ⟨σ, e, _⟩; simpa using e.symm
    · rintro rfl; exact ⟨id, rfl, (hs _).2 he⟩

/-! ### Two bodies that share no variable -/
end Go.Proofs.YtfjdijakgjhieaaGreat

namespace Go.Proofs.YtfjdijakgjhieaaGreat
open Go.RowKit Go.ChangeShapes Go.WideShapes

theorem law_own : ownKnob Tryz.prog.godebug = none := by kernel_rfl
theorem law_laidOut : laidOutB Tryz.prog = true := by kernel_rfl

section
variable {H : Type} {enc : TypeId × Value → H} {P : Program}

theorem trodAll_stays (hl : laidOutB P = true) {W W' : World} (hb : Below W.heap.size W W') : ∀ (ts : List TypeId) (vs : List Value) (ds : List (DataW H)) (ps : List MemPlace), (∀ t ∈ ts, P.readableRec t = true ∧ t < P.types.size) →
    DataW.TrodAll enc P W 0 (fun _ => true) true ts vs ds ps → (∀ x ∈ ps, x.block < W.heap.size) → ∀ sp : Nat → Bool, (∀ x ∈ ps, sp x.block = true) → DataW.TrodAll enc P W' 0 sp true ts vs ds ps
  | [], [], [], ps, _, h, _, _, _ => h
  | t :: ts, v :: vs, d :: ds, ps, ht, h, hlt, sp, hsp => by
    obtain ⟨p, q, h1, h2, rfl⟩ := h
    refine ⟨p, q, ?_, trodAll_stays hl hb ts vs ds q (fun t ht' => ht t (List.mem_cons_of_mem _ ht')) h2 (fun x hx => hlt x (List.mem_append.2 (.inr hx))) sp (fun x hx => hsp x (List.mem_append.2 (.inr hx))), rfl⟩
    exact WideElems.Trod_stays hl (ht t (by simp)).1 (ht t (by simp)).2 h1 (fun x hx => hb.same (hlt x (List.mem_append.2 (.inl hx)))) (fun x hx => hsp x (List.mem_append.2 (.inl hx)))
  | [], _ :: _, _, _, _, h, _, _, _ => by simp [DataW.TrodAll] at h
  | [], [], _ :: _, _, _, h, _, _, _ => by simp [DataW.TrodAll] at h
  | _ :: _, [], _, _, _, h, _, _, _ => by simp [DataW.TrodAll] at h
  | _ :: _, _ :: _, [], _, _, h, _, _, _ => by simp [DataW.TrodAll] at h

/-- A law whose call returns true and leaves what was there: its row's post. -/
theorem law_post {f : Func} {s : ChangeSpec} {apart fresh handsOn again : Bool} {W W' : World} {args : Array Value} {ds : List (DataW H)} {before : List MemPlace} {t : TypeId}
    (hvars : s.vars = []) (hres : f.resultTypes = #[t]) (hbool : P.underlying t = some .bool) (hspec : s.fn H (ds ++ []) = { results := [.lit (.bool true)], args := ds })
    (hl : laidOutB P = true) (hts : ∀ t ∈ f.params.toList, P.readableRec t = true ∧ t < P.types.size)
    (hW : DataW.Whole enc P f.params.toList s.vars apart W args.toList ds [] before) (hb : Below W.heap.size W W') :
    s.post enc P f apart fresh handsOn again W args (.bool true) W' := by
  obtain ⟨p, q, hA, hV, hpq, hz, hn⟩ := id hW
  have hq : q = [] := by
    rw [hvars] at hV
    obtain ⟨_, h2⟩ := trodVars_none hV
    exact h2
  subst hq
  rw [List.append_nil] at hpq
  subst hpq
  have hlt : ∀ x ∈ before, x.block < W.heap.size := fun x hx => hW.lt x hx
  have hstay := trodAll_stays hl hb _ _ _ _ hts hA hlt
  have hold : ∀ x ∈ before, (fun b => decide (b < W.heap.size)) x.block = true := fun x hx => by simpa using hlt x hx
  have hr : ∀ (b : Nat) (sp : Nat → Bool) (hd : Bool), DataW.TrodAll enc P W' b sp hd f.resultTypes.toList ((Value.bool true).resultList f.resultTypes.size) (s.fn H (ds ++ [])).results [] := by
    intro b sp hd
    rw [hres, hspec]
    exact trodAll_mk1 (shut_bool hbool true)
  have hvr : ∀ sp : Nat → Bool, DataW.TrodVars enc P W' sp s.vars (s.fn H (ds ++ [])).vars [] := by
    intro sp
    rw [hvars, hspec]
    rfl
  have hargs : ∀ sp : Nat → Bool, (∀ x ∈ before, sp x.block = true) → DataW.TrodAll enc P W' 0 sp true f.params.toList args.toList (s.fn H (ds ++ [])).args before := by
    intro sp hsp
    rw [hspec]
    exact hstay sp hsp
  refine ⟨ds, [], before, [], before, [], hW, hr _ _ _, hargs _ hold, hvr _, World.keptBut_mono (fun x hx => ⟨hx, .inr (by simpa using hx)⟩) (hb.frame (· ∈ before)), fun _ => ?_⟩
  refine ⟨ok_one hres rfl (okWide_bool_mk hbool true), _, _, ([] ++ before) ++ [], ⟨[] ++ before, [], trodAll_append (hargs _ (fun _ _ => rfl)) (hr _ _ _), hvr _, rfl, ?_, ?_⟩, ?_⟩
  · intro b off hp
    have hin : MemPlace.cell b off ∈ before := by simpa using hp
    rw [hb.frozen (hlt _ hin)]
    exact hz b off hin
  · intro ha
    have := hn ha
    simpa using this
  · intro x hx _
    simpa using hx
end
end Go.Proofs.YtfjdijakgjhieaaGreat

namespace Go.Proofs.YtfjdijakgjhieaaGreat
open Go.RowKit Go.ChangeShapes Go.WideShapes

theorem byte_wf {z : Int} (h : (Lit.int .u8 z).wf = true) : 0 ≤ z ∧ z < 256 := by
  have e1 : IntKind.u8.min = 0 := rfl
  have e2 : IntKind.u8.max = 255 := rfl
  simp [Lit.wf, e1, e2] at h
  omega

section
variable {H : Type} {enc : TypeId × Value → H} {w : World} {base : Nat} {spare : Nat → Bool} {held : Bool} {fuel : Nat} {v : Value} {x : DataW H × List MemPlace}
theorem read_bytes (h : DataW.trod enc Tryz.prog w base spare held fuel 22 [v] = some x) : ∃ xs : List UInt8, BytesR Any w v xs := by
  rcases open_ints Tryz.underlying22 Tryz.underlying5 (by kernel_rfl) h with ⟨hcs, _⟩ | ⟨a, len, cap, zs, hcs, hb, hl, hm, hzl, hx, hc, hwf⟩
  · injection hcs with hv _
    subst hv
    exact ⟨[], SliceR.nil_ 0 (Nat.zero_le _) none⟩
  · injection hcs with hv _
    subst hv
    have hlz : len ≤ zs.length := by rw [hzl]; split <;> omega
    by_cases h0 : 0 < len
    · have h00 := hc 0 (by omega)
      have ha0 : a.add 0 = a := by simp [Addr.add]
      rw [ha0] at h00
      have haa := cell_addr h00
      have hadd : ∀ n, a.add n = ⟨a.block, a.off + n, none⟩ := by
        intro n
        unfold Addr.add
        split
        · rename_i h; subst h; rw [Nat.add_zero]; exact haa
        · rfl
      rw [haa] at h00
      have hln : ((zs.take len).map (fun z => UInt8.ofNat z.toNat)).length = len := by rw [List.length_map, List.length_take]; omega
      refine ⟨(zs.take len).map (fun z => UInt8.ofNat z.toNat), some a, cap, by rw [hln], by rw [hln]; exact hl, hm, fun _ => ⟨a.block, a.off, by rw [← haa], cell_lt h00, trivial, fun i c hi => ?_⟩⟩
      refine ⟨[.int .u8 c.toNat], rfl, fun j u hu => ?_, rfl⟩
      match j, hu with
      | 0, hu =>
        simp at hu; subst hu
        rw [List.getElem?_map, List.getElem?_take] at hi
        split at hi
        · have hiz : i < zs.length := by omega
          rw [List.getElem?_eq_getElem hiz] at hi
          simp at hi
          have hz := byte_wf (hwf _ (List.getElem_mem hiz))
          have h1 := hc i hiz
          rw [hadd, List.getD_eq_getElem?_getD, List.getElem?_eq_getElem hiz] at h1
          rw [← hi, Nat.mul_one, Nat.add_zero, h1, UInt8.toNat_ofNat']
          simp
          omega
        · simp at hi
    · obtain rfl : len = 0 := by omega
      exact ⟨[], SliceR.nil_ cap hm _⟩
end
end Go.Proofs.YtfjdijakgjhieaaGreat
