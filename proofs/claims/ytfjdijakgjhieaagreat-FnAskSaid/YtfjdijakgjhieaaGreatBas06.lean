/- Part of the texts of a proof: own texts joined in the order of their building; what they say stands at each theorem. -/
import Derived.Test.YtfjdijakgjhieaaGreatBas02
import Derived.Test.YtfjdijakgjhieaaGreatBas04
import Derived.Test.YtfjdijakgjhieaaGreatBas05
namespace Go.Proofs.YtfjdijakgjhieaaGreat
open Go.RowKit

/-- A text cut at each byte c. -/
def splitL (c : UInt8) : List UInt8 → List (List UInt8)
 | [] => [[]]
 | x :: l => if x = c then [] :: splitL c l else match splitL c l with | [] => [[x]] | p :: ps => (x :: p) :: ps

theorem splitL_none {c : UInt8} : ∀ {l : List UInt8}, c ∉ l → splitL c l = [l]
 | [], _ => rfl
 | x :: l, h => by
   have h1 : x ≠ c := fun e => h (by simp [e])
   have h2 : c ∉ l := fun e => h (List.mem_cons_of_mem _ e)
   unfold splitL
   rw [if_neg h1, splitL_none h2]
theorem splitL_app {c : UInt8} : ∀ {p l : List UInt8}, c ∉ p → splitL c (p ++ c :: l) = p :: splitL c l
 | [], l, _ => by simp [splitL]
 | x :: p, l, h => by
   have h1 : x ≠ c := fun e => h (by simp [e])
   have h2 : c ∉ p := fun e => h (List.mem_cons_of_mem _ e)
   have ih := splitL_app (l := l) h2
   show (if x = c then [] :: splitL c (p ++ c :: l) else match splitL c (p ++ c :: l) with | [] => [[x]] | p :: ps => (x :: p) :: ps) = _
   rw [if_neg h1, ih]

/-- A byte of names. -/
def okByte (c : UInt8) : Bool := lowDig c || upper c
theorem okByte_ne {c : UInt8} (h : okByte c = true) (d : UInt8) (hd : okByte d = false) : c ≠ d := fun e => by rw [e, hd] at h; cases h
theorem plain_ok {l : List UInt8} (h : plainB l = true) : ∀ c ∈ l, okByte c = true := fun c hc => by
 have := List.all_eq_true.1 h c hc
 unfold okByte; rw [this]; rfl
theorem name_ok {s : ByteArray} (h : nameOkB s = true) : ∀ c ∈ s.data.toList, okByte c = true := by
 unfold nameOkB lettersB at h
 simp only [Bool.and_eq_true] at h
 exact plain_ok h.1.1
theorem name_pos {s : ByteArray} (h : nameOkB s = true) : 1 ≤ s.size ∧ s.size ≤ 8 := by
 unfold nameOkB lettersB at h
 simp only [Bool.and_eq_true] at h
 have := of_decide_eq_true h.1.2
 omega
theorem term_ok {t : GT} (h : termOkB t = true) : ∀ c ∈ t.n.data.toList, okByte c = true := by
 unfold termOkB at h
 split at h
 · unfold varOkB at h
   simp only [Bool.and_eq_true] at h
   intro c hc
   unfold capB at h
   cases hl : t.n.data.toList with
   | nil => rw [hl] at hc; cases hc
   | cons x l =>
     rw [hl] at h hc
     rcases List.mem_cons.1 hc with rfl | hc
     · have hu : upper c = true := h.1.1
       unfold okByte; rw [hu, Bool.or_true]
     · exact plain_ok h.2 c (by simpa using hc)
 · exact name_ok h
theorem term_pos {t : GT} (h : termOkB t = true) : t.n.data.toList ≠ [] := by
 unfold termOkB at h
 split at h
 · unfold varOkB capB at h
   simp only [Bool.and_eq_true] at h
   intro e
   rw [e] at h
   exact absurd h.1.1 (by simp)
 · intro e
   have := name_pos h
   have hl : t.n.data.toList.length = t.n.size := by simp
   rw [e] at hl; simp at hl; omega
/-- Whether a name is a variable's shows in its first byte. -/
theorem term_var {t : GT} (h : termOkB t = true) : t.v = capB t.n := by
 unfold termOkB at h
 split at h
 · rename_i hv
   unfold varOkB at h
   simp only [Bool.and_eq_true] at h
   rw [hv, h.1.1]
 · rename_i hv
   have hv' : t.v = false := by simpa using hv
   rw [hv']
   unfold nameOkB lettersB at h
   simp only [Bool.and_eq_true] at h
   unfold capB
   cases hl : t.n.data.toList with
   | nil => rfl
   | cons x l =>
     rw [hl] at h
     have h1 : lowDig x = true := List.all_eq_true.1 h.1.1 x (by simp)
     have h2 := lowDig_yes h1
     show false = upper x
     unfold upper
     rw [decide_eq_false (by omega)]

theorem namesL_ok : ∀ {l : List GT}, (∀ t ∈ l, termOkB t = true) → ∀ c ∈ namesL l, okByte c = true ∨ c = 44
 | [], _, c, hc => by simp [namesL] at hc
 | [t], h, c, hc => .inl (term_ok (h t (by simp)) c hc)
 | t :: u :: l, h, c, hc => by
   unfold namesL at hc
   simp only [List.mem_append, List.mem_singleton] at hc
   rcases hc with (hc | hc) | hc
   · exact .inl (term_ok (h t (by simp)) c hc)
   · exact .inr hc
   · exact namesL_ok (l := u :: l) (fun t ht => h t (List.mem_cons_of_mem _ ht)) c hc
theorem namesL_split : ∀ {l : List GT}, (∀ t ∈ l, termOkB t = true) → l ≠ [] → splitL 44 (namesL l) = l.map fun t => t.n.data.toList
 | [], _, h => absurd rfl h
 | [t], h, _ => splitL_none (fun hc => okByte_ne (term_ok (h t (by simp)) 44 hc) 44 rfl rfl)
 | t :: u :: l, h, _ => by
   have ih := namesL_split (l := u :: l) (fun t ht => h t (List.mem_cons_of_mem _ ht)) (by simp)
   show splitL 44 (t.n.data.toList ++ [44] ++ namesL (u :: l)) = _
   rw [List.append_assoc, List.singleton_append, splitL_app (fun hc => okByte_ne (term_ok (h t (by simp)) 44 hc) 44 rfl rfl), ih]
   rfl
theorem namesL_pos {l : List GT} (h : ∀ t ∈ l, termOkB t = true) (hl : l ≠ []) : namesL l ≠ [] := by
 match l, hl with
 | [t], _ => exact term_pos (h t (by simp))
 | t :: u :: l, _ => simp [namesL]

theorem atom_parts {a : GA} (h : atomOkB a = true) : nameOkB a.n = true ∧ a.args.length ≤ 3 ∧ ∀ t ∈ a.args, termOkB t = true := by
 unfold atomOkB at h
 simp only [Bool.and_eq_true, decide_eq_true_eq] at h
 exact ⟨h.1.1, h.1.2, List.all_eq_true.1 h.2⟩
theorem atom_split {a : GA} (h : atomOkB a = true) : splitL 40 (atomL a) = [a.n.data.toList, namesL a.args ++ [41]] := by
 obtain ⟨h1, h2, h3⟩ := atom_parts h
 unfold atomL
 rw [List.append_assoc, List.append_assoc, List.singleton_append, splitL_app (fun hc => okByte_ne (name_ok h1 40 hc) 40 rfl rfl), splitL_none]
 intro hc
 rcases List.mem_append.1 hc with hc | hc
 · rcases namesL_ok h3 40 hc with hc | hc
   · exact okByte_ne hc 40 rfl rfl
   · cases hc
 · simp at hc
theorem bytes_inj {a b : ByteArray} (h : a.data.toList = b.data.toList) : a = b := by
 apply ByteArray.ext
 exact Array.toList_inj.1 h
theorem terms_inj : ∀ {l m : List GT}, (∀ t ∈ l, termOkB t = true) → (∀ t ∈ m, termOkB t = true) → (l.map fun t => t.n.data.toList) = (m.map fun t => t.n.data.toList) → l = m
 | [], [], _, _, _ => rfl
 | [], _ :: _, _, _, h => by simp at h
 | _ :: _, [], _, _, h => by simp at h
 | t :: l, u :: m, hl, hm, h => by
   simp only [List.map_cons, List.cons.injEq] at h
   have hn := bytes_inj h.1
   have hv : t.v = u.v := by rw [term_var (hl t (by simp)), term_var (hm u (by simp)), hn]
   have : t = u := by cases t; cases u; simp_all
   rw [this, terms_inj (fun t ht => hl t (List.mem_cons_of_mem _ ht)) (fun t ht => hm t (List.mem_cons_of_mem _ ht)) h.2]
theorem names_inj {l m : List GT} (hl : ∀ t ∈ l, termOkB t = true) (hm : ∀ t ∈ m, termOkB t = true) (h : namesL l = namesL m) : l = m := by
 by_cases h1 : l = []
 · subst h1
   by_cases h2 : m = []
   · exact h2.symm
   · exact absurd h.symm (namesL_pos hm h2)
 · by_cases h2 : m = []
   · subst h2; exact absurd h (namesL_pos hl h1)
   · exact terms_inj hl hm (by rw [← namesL_split hl h1, ← namesL_split hm h2, h])
theorem atom_inj {a b : GA} (ha : atomOkB a = true) (hb : atomOkB b = true) (h : atomL a = atomL b) : a = b := by
 have h1 := atom_split ha
 have h2 := atom_split hb
 rw [h, h2] at h1
 simp only [List.cons.injEq, and_true] at h1
 have e1 := bytes_inj h1.1
 have e2 := names_inj (atom_parts hb).2.2 (atom_parts ha).2.2 (List.append_cancel_right h1.2)
 cases a; cases b; simp_all

theorem factB_ok {a : GA} (h : factB a = true) : atomOkB a = true := by
 unfold factB at h
 simp only [Bool.and_eq_true] at h
 exact h.1

end Go.Proofs.YtfjdijakgjhieaaGreat

namespace Go.Proofs.YtfjdijakgjhieaaGreat
set_option linter.unusedSimpArgs false
set_option linter.unusedVariables false
open Go.RowKit

/-! ### The reference's bindings -/
def LB.ok (b : LB) : Prop := b.ns.length = b.vs.length
theorem get_none {b : LB} (h : b.ok) {x : ByteArray} : b.get x = none ↔ idxB b.ns x = none := by
 unfold LB.get
 cases hi : idxB b.ns x with
 | none => simp
 | some i =>
   have : i < b.vs.length := by rw [← h]; exact idxB_lt hi
   simp [List.getElem?_eq_getElem this]
theorem get_plus {b : LB} (h : b.ok) (n v x : ByteArray) : (b.plus n v).get x = match b.get x with | some u => some u | none => if n = x then some v else none := by
 cases hg : b.get x with
 | none =>
   have hi := (get_none h).1 hg
   unfold LB.get LB.plus
   simp only [idxB_snoc, hi]
   by_cases e : n = x
   · simp only [if_pos e]
     rw [h]; simp
   · simp only [if_neg e]
 | some u =>
   unfold LB.get at hg
   cases hi : idxB b.ns x with
   | none => rw [hi] at hg; cases hg
   | some i =>
     rw [hi] at hg
     unfold LB.get LB.plus
     simp only [idxB_snoc, hi]
     have hlt : i < b.vs.length := by rw [← h]; exact idxB_lt hi
     rw [List.getElem?_append_left hlt]
     exact hg
theorem plus_ok {b : LB} (h : b.ok) (n v : ByteArray) : (b.plus n v).ok := by
 unfold LB.ok LB.plus at *
 simp [h]
def LB.more (b c : LB) : Prop := ∀ x u, b.get x = some u → c.get x = some u
theorem more_refl (b : LB) : b.more b := fun _ _ h => h
theorem more_trans {a b c : LB} (h : a.more b) (k : b.more c) : a.more c := fun x u hx => k x u (h x u hx)
/-- What a term is, as bound. -/
def valB (b : LB) (t : GT) : Option ByteArray := if t.v then b.get t.n else some t.n
theorem valB_more {b c : LB} (h : b.more c) {t : GT} {u : ByteArray} (ht : valB b t = some u) : valB c t = some u := by
 unfold valB at *
 split at ht
 · rename_i e; rw [if_pos e]; exact h _ _ ht
 · rename_i e; rw [if_neg e]; exact ht
theorem matchT_true {t f : GT} {b : LB} (hb : b.ok) (h : (matchT t f b).2 = true) : (matchT t f b).1.ok ∧ b.more (matchT t f b).1 ∧ valB (matchT t f b).1 t = some f.n := by
 unfold matchT at h ⊢
 by_cases hv : t.v = true
 · simp only [if_pos hv] at h ⊢
   cases hg : b.get t.n with
   | none =>
     simp only
     refine ⟨plus_ok hb _ _, fun x u hx => ?_, ?_⟩
     · rw [get_plus hb, hx]
     · unfold valB; rw [if_pos hv, get_plus hb, hg]; simp
   | some v =>
     rw [hg] at h
     simp only [decide_eq_true_eq] at h
     simp only
     exact ⟨hb, more_refl _, by unfold valB; rw [if_pos hv, hg, h]⟩
 · simp only [if_neg hv, decide_eq_true_eq] at h ⊢
   exact ⟨hb, more_refl _, by unfold valB; rw [if_neg hv, h]⟩
theorem matchL_true : ∀ {ts fs : List GT} {b : LB}, b.ok → ts.length = fs.length → (matchL ts fs b).2 = true → (matchL ts fs b).1.ok ∧ b.more (matchL ts fs b).1 ∧ ts.map (valB (matchL ts fs b).1) = fs.map (fun f => some f.n)
 | [], [], b, hb, _, _ => ⟨hb, more_refl _, rfl⟩
 | [], _ :: _, _, _, hl, _ => by simp at hl
 | _ :: _, [], _, _, hl, _ => by simp at hl
 | t :: ts, f :: fs, b, hb, hl, h => by
   simp only [matchL] at h ⊢
   split at h
   · rename_i ht
     rw [if_pos ht]
     obtain ⟨h1, h2, h3⟩ := matchT_true hb ht
     obtain ⟨k1, k2, k3⟩ := matchL_true h1 (by simpa using hl) h
     refine ⟨k1, more_trans h2 k2, ?_⟩
     rw [List.map_cons, List.map_cons, k3, valB_more k2 h3]
   · cases h
def LB.under (b : LB) (σ : ByteArray → ByteArray) : Prop := ∀ x u, b.get x = some u → u = σ x
def valS (σ : ByteArray → ByteArray) (t : GT) : ByteArray := if t.v then σ t.n else t.n
theorem matchL_meets {σ : ByteArray → ByteArray} : ∀ {ts fs : List GT} {b : LB}, b.ok → b.under σ → ts.map (valS σ) = fs.map (·.n) → (matchL ts fs b).2 = true ∧ (matchL ts fs b).1.under σ
 | [], [], b, hb, hu, _ => ⟨rfl, hu⟩
 | [], _ :: _, _, _, _, hm => by simp at hm
 | _ :: _, [], _, _, _, hm => by simp at hm
 | t :: ts, f :: fs, b, hb, hu, hm => by
   rw [List.map_cons, List.map_cons] at hm
   injection hm with hm1 hm2
   have key : (matchT t f b).2 = true ∧ (matchT t f b).1.under σ := by
    unfold matchT
    unfold valS at hm1
    by_cases hv : t.v = true
    · rw [if_pos hv] at hm1
      simp only [if_pos hv]
      cases hg : b.get t.n with
      | none =>
        refine ⟨rfl, fun x u hx => ?_⟩
        simp only at hx
        rw [get_plus hb] at hx
        cases hg2 : b.get x with
        | some y => rw [hg2] at hx; injection hx with hx; rw [← hx]; exact hu x y hg2
        | none =>
          rw [hg2] at hx
          simp only at hx
          split at hx
          · rename_i e; injection hx with hx; rw [← hx, ← e]; exact hm1.symm
          · cases hx
      | some v =>
        simp only [decide_eq_true_eq]
        exact ⟨(hu _ _ hg).trans hm1, hu⟩
    · rw [if_neg hv] at hm1
      simp only [if_neg hv, decide_eq_true_eq]
      exact ⟨hm1, hu⟩
   have hok : (matchT t f b).1.ok := (matchT_true hb key.1).1
   simp only [matchL, if_pos key.1]
   exact matchL_meets hok key.2 hm2
/-- An atom holds, its variables as they are bound. -/
def HoldsB (list : List GA) (a : GA) (b : LB) : Prop := ∃ f ∈ list, f.n = a.n ∧ a.args.map (valB b) = f.args.map (fun f => some f.n)
def HoldsS (list : List GA) (a : GA) (σ : ByteArray → ByteArray) : Prop := ∃ f ∈ list, f.n = a.n ∧ f.args.map (·.n) = a.args.map (valS σ)
theorem holdsB_more {list : List GA} {a : GA} {b c : LB} (h : HoldsB list a b) (k : b.more c) : HoldsB list a c := by
 obtain ⟨f, h1, h2, h3⟩ := h
 refine ⟨f, h1, h2, ?_⟩
 rw [← h3]
 refine List.map_congr_left fun t ht => ?_
 have : valB b t ∈ f.args.map (fun f => some f.n) := by rw [← h3]; exact List.mem_map_of_mem ht
 obtain ⟨g, _, hg⟩ := List.mem_map.1 this
 rw [← hg]
 exact valB_more k hg.symm
theorem more_mem {a : GA} {list : List GA} {b c : LB} (hb : b.ok) (h : c ∈ moreOf a list b) : c.ok ∧ b.more c ∧ HoldsB list a c := by
 unfold moreOf at h
 obtain ⟨f, hf, h⟩ := List.mem_filterMap.1 h
 split at h
 · rename_i hm
   injection h with h
   subst h
   unfold matchN at hm ⊢
   split at hm
   · rename_i hc
     rw [if_pos hc]
     obtain ⟨h1, h2, h3⟩ := matchL_true hb hc.2 hm
     exact ⟨h1, h2, f, hf, hc.1.symm, h3⟩
   · cases hm
 · cases h
theorem fold_sound {list : List GA} : ∀ {body : List GP} {out : List LB} {b : LB}, (∀ c ∈ out, c.ok) → b ∈ body.foldl (allStep list) out → b.ok ∧ (∃ c ∈ out, c.more b) ∧ ∀ p ∈ body, p.no = false → HoldsB list p.atom b
 | [], out, b, ho, h => ⟨ho b h, ⟨b, h, more_refl b⟩, fun p hp => by cases hp⟩
 | p :: body, out, b, ho, h => by
   rw [List.foldl_cons] at h
   by_cases hno : p.no = true
   · have he : allStep list out p = out := by unfold allStep; rw [if_pos hno]
     rw [he] at h
     obtain ⟨h1, h2, h3⟩ := fold_sound ho h
     refine ⟨h1, h2, fun q hq hn => ?_⟩
     rcases List.mem_cons.1 hq with rfl | hq
     · rw [hno] at hn; cases hn
     · exact h3 q hq hn
   · have he : allStep list out p = out.flatMap (moreOf p.atom list) := by unfold allStep; rw [if_neg hno]
     rw [he] at h
     have ho2 : ∀ c ∈ out.flatMap (moreOf p.atom list), c.ok := fun c hc => by
      obtain ⟨d, hd, hc⟩ := List.mem_flatMap.1 hc
      exact (more_mem (ho d hd) hc).1
     obtain ⟨h1, ⟨c, hc, hcb⟩, h3⟩ := fold_sound ho2 h
     obtain ⟨d, hd, hc⟩ := List.mem_flatMap.1 hc
     obtain ⟨g1, g2, g3⟩ := more_mem (ho d hd) hc
     refine ⟨h1, ⟨d, hd, more_trans g2 hcb⟩, fun q hq hn => ?_⟩
     rcases List.mem_cons.1 hq with rfl | hq
     · exact holdsB_more g3 hcb
     · exact h3 q hq hn
theorem fold_meets {list : List GA} {σ : ByteArray → ByteArray} : ∀ {body : List GP} {out : List LB} {c : LB}, (∀ c ∈ out, c.ok) → c ∈ out → c.under σ → (∀ p ∈ body, p.no = false → HoldsS list p.atom σ) → ∃ b ∈ body.foldl (allStep list) out, b.under σ
 | [], out, c, _, hc, hu, _ => ⟨c, hc, hu⟩
 | p :: body, out, c, ho, hc, hu, hh => by
   rw [List.foldl_cons]
   by_cases hno : p.no = true
   · have he : allStep list out p = out := by unfold allStep; rw [if_pos hno]
     rw [he]
     exact fold_meets ho hc hu (fun q hq => hh q (List.mem_cons_of_mem _ hq))
   · have he : allStep list out p = out.flatMap (moreOf p.atom list) := by unfold allStep; rw [if_neg hno]
     rw [he]
     obtain ⟨f, hf, hn, hm⟩ := hh p (by simp) (by simpa using hno)
     have hlen : p.atom.args.length = f.args.length := by
      have := congrArg List.length hm
      simpa using this.symm
     obtain ⟨k1, k2⟩ := matchL_meets (ho c hc) hu hm.symm
     have hmem : (matchL p.atom.args f.args c).1 ∈ out.flatMap (moreOf p.atom list) := by
      refine List.mem_flatMap.2 ⟨c, hc, ?_⟩
      unfold moreOf
      refine List.mem_filterMap.2 ⟨f, hf, ?_⟩
      have e : matchN p.atom f c = matchL p.atom.args f.args c := by unfold matchN; rw [if_pos ⟨hn.symm, hlen⟩]
      rw [e, if_pos k1]
     have ho2 : ∀ c ∈ out.flatMap (moreOf p.atom list), c.ok := fun c hc => by
      obtain ⟨d, hd, hc⟩ := List.mem_flatMap.1 hc
      exact (more_mem (ho d hd) hc).1
     exact fold_meets ho2 hmem k2 (fun q hq => hh q (List.mem_cons_of_mem _ hq))

/-! ### Rows -/
def sig (b : LB) (x : ByteArray) : ByteArray := (b.get x).getD emptyB
def rowB (vs : List ByteArray) (b : LB) : List ByteArray := vs.map (sig b)
def slotOf (vs : List ByteArray) (t : GT) : GS := if t.v then ⟨some ((idxB vs t.n).getD 0), noWord⟩ else ⟨none, t.n⟩
def patOf (vs : List ByteArray) (a : GA) : GPat := ⟨a.n, a.args.map (slotOf vs)⟩
def partsOf (vs : List ByteArray) (body : List GP) : List GPat := (body.filter fun p => !p.no).map fun p => patOf vs p.atom
def notsOf (vs : List ByteArray) (body : List GP) : List GPat := (body.filter fun p => p.no).map fun p => patOf vs p.atom
def seOf (list : List GA) (rounds : List Nat) (vs : List ByteArray) (body : List GP) (wanted : List Bool) : SE := ⟨list, rounds, partsOf vs body, notsOf vs body, wanted, false, 0⟩
def sigW (vs : List ByteArray) (V : Words) (x : ByteArray) : ByteArray := V.at_ ((idxB vs x).getD 0)
theorem word_slot (vs : List ByteArray) (V : Words) (t : GT) : wordOf V (slotOf vs t) = valS (sigW vs V) t := by
 unfold slotOf valS
 split <;> rfl
theorem holds_pat {facts : List GA} {vs : List ByteArray} {a : GA} {V : Words} : Holds facts (patOf vs a) V ↔ HoldsS facts a (sigW vs V) := by
 have e : (patOf vs a).slots.map (wordOf V) = a.args.map (valS (sigW vs V)) := by
  unfold patOf
  rw [List.map_map]
  exact List.map_congr_left fun t _ => word_slot vs V t
 unfold Holds HoldsS
 rw [e]
 exact Iff.rfl
theorem keyA_same {a b : GA} : keyA a = keyA b ↔ sameA a b = true := by
 rw [same_iff]
 unfold keyA argKeys
 constructor
 · intro h
   injection h with h1 h2
   refine ⟨bytes_inj h1, ?_⟩
   have e : ∀ l : List GT, l.map (fun t => t.n.data.toList) = (l.map (·.n)).map (fun s => s.data.toList) := fun l => by rw [List.map_map]; rfl
   rw [e, e] at h2
   refine List.map_inj_right (f := fun s : ByteArray => s.data.toList) (fun x y h => bytes_inj h) |>.1 h2
 · rintro ⟨h1, h2⟩
   have e : ∀ l : List GT, l.map (fun t => t.n.data.toList) = (l.map (·.n)).map (fun s => s.data.toList) := fun l => by rw [List.map_map]; rfl
   rw [h1, e, e, h2]
theorem hasA_same {list : List GA} (ha : Asc list) {x : GA} : hasA list x = true ↔ ∃ y ∈ list, sameA y x = true := by
 rw [hasA_iff list x ha]
 constructor
 · rintro ⟨y, h1, h2⟩; exact ⟨y, h1, keyA_same.1 ((cmpA_eq y x).1 h2)⟩
 · rintro ⟨y, h1, h2⟩; exact ⟨y, h1, (cmpA_eq y x).2 (keyA_same.2 h2)⟩
theorem hasA_holds {list : List GA} (ha : Asc list) {a : GA} {b : LB} {σ : ByteArray → ByteArray} (hs : ∀ t ∈ a.args, t.v = true → sig b t.n = σ t.n) : hasA list (fillN a b) = true ↔ HoldsS list a σ := by
 rw [hasA_same ha]
 have e : (fillN a b).args.map (·.n) = a.args.map (valS σ) := by
  unfold fillN
  rw [List.map_map]
  refine List.map_congr_left fun t ht => ?_
  show (fillT b t).n = valS σ t
  unfold fillT valS
  by_cases hv : t.v = true
  · simp only [if_pos hv]; exact hs t ht hv
  · simp only [if_neg hv]
 constructor
 · rintro ⟨y, h1, h2⟩
   obtain ⟨h3, h4⟩ := same_iff.1 h2
   exact ⟨y, h1, h3, h4.trans e⟩
 · rintro ⟨y, h1, h3, h4⟩
   exact ⟨y, h1, same_iff.2 ⟨h3, h4.trans e.symm⟩⟩

/-- What may be asked: variables in order, each in something that must be; words are words. -/
structure Askable (body : List GP) (vs : List ByteArray) : Prop where
 nodup : vs.Nodup
 few : vs.length ≤ 12
 mem : ∀ p ∈ body, ∀ t ∈ p.atom.args, t.v = true → t.n ∈ vs
 tight : ∀ x ∈ vs, ∃ p ∈ body, p.no = false ∧ ∃ t ∈ p.atom.args, t.v = true ∧ t.n = x
 word : ∀ p ∈ body, ∀ t ∈ p.atom.args, t.v = false → isNo t.n = false
theorem idx_nodup : ∀ {vs : List ByteArray} {i : Nat} {x : ByteArray}, vs.Nodup → vs[i]? = some x → idxB vs x = some i
 | y :: l, 0, x, _, h => by
   have : y = x := by simpa using h
   unfold idxB; rw [if_pos this]
 | y :: l, i + 1, x, hn, h => by
   obtain ⟨h1, h2⟩ := List.nodup_cons.1 hn
   have hx : l[i]? = some x := by simpa using h
   have hne : ¬ y = x := fun e => h1 (e ▸ List.mem_of_getElem? hx)
   unfold idxB
   rw [if_neg hne, idx_nodup h2 hx]; rfl
theorem sigW_at {vs : List ByteArray} (hn : vs.Nodup) (V : Words) : vs.map (sigW vs V) = (List.range vs.length).map V.at_ := by
 apply List.ext_getElem?
 intro i
 rw [List.getElem?_map, List.getElem?_map]
 by_cases h : i < vs.length
 · rw [List.getElem?_eq_getElem h, List.getElem?_range h]
   simp only [Option.map_some]
   unfold sigW
   rw [idx_nodup hn (List.getElem?_eq_getElem h)]; rfl
 · rw [List.getElem?_eq_none (by omega), List.getElem?_eq_none (by simp; omega)]; rfl
def wantAll (n : Nat) : List Bool := (List.range 12).map fun i => decide (i < n)
theorem want_iff {n v : Nat} (h : n ≤ 12) : (wantAll n)[v]? = some true ↔ v < n := by
 unfold wantAll
 rw [List.getElem?_map]
 by_cases hv : v < 12
 · rw [List.getElem?_range hv]; simp
 · rw [List.getElem?_eq_none (by simp; omega)]; simp; omega
theorem se_ok {list : List GA} {rounds : List Nat} {body : List GP} {vs : List ByteArray} (hb : Askable body vs) (hf : ∀ a ∈ list, okFact a) : (seOf list rounds vs body (wantAll vs.length)).Ok 12 := by
 have hslot : ∀ p ∈ body, ∀ t ∈ p.atom.args, okSlot 12 (slotOf vs t) := fun p hp t ht => by
  unfold okSlot slotOf
  by_cases hv : t.v = true
  · rw [if_pos hv]
    simp only
    obtain ⟨i, hi⟩ := idxB_mem (hb.mem p hp t ht hv)
    rw [hi]
    exact Nat.lt_of_lt_of_le (idxB_lt hi) hb.few
  · rw [if_neg hv]
    simp only
    exact hb.word p hp t ht (by simpa using hv)
 refine ⟨?_, hf, rfl, by simp [seOf, wantAll], ?_, ?_⟩
 · intro p hp s hs
   obtain ⟨q, hq, rfl⟩ := List.mem_map.1 (show p ∈ partsOf vs body from hp)
   obtain ⟨t, ht, rfl⟩ := List.mem_map.1 (show s ∈ q.atom.args.map (slotOf vs) from hs)
   exact hslot q (List.mem_filter.1 hq).1 t ht
 · intro v hv
   have hlt := (want_iff hb.few).1 hv
   obtain ⟨p, hp, hno, t, ht, htv, htn⟩ := hb.tight vs[v] (List.getElem_mem hlt)
   refine ⟨patOf vs p.atom, List.mem_map.2 ⟨p, List.mem_filter.2 ⟨hp, by simp [hno]⟩, rfl⟩, slotOf vs t, List.mem_map_of_mem ht, ?_⟩
   unfold slotOf
   rw [if_pos htv, htn, idx_nodup hb.nodup (List.getElem?_eq_getElem hlt)]; rfl
 · intro p hp s hs v hv
   obtain ⟨q, hq, rfl⟩ := List.mem_map.1 (show p ∈ notsOf vs body from hp)
   obtain ⟨t, ht, rfl⟩ := List.mem_map.1 (show s ∈ q.atom.args.map (slotOf vs) from hs)
   unfold slotOf at hv
   split at hv
   · rename_i htv
     obtain ⟨i, hi⟩ := idxB_mem (hb.mem q (List.mem_filter.1 hq).1 t ht htv)
     rw [hi] at hv
     simp only [Option.getD_some, Option.some.injEq] at hv
     subst hv
     exact (want_iff hb.few).2 (idxB_lt hi)
   · cases hv
theorem hindered_iff {list : List GA} {rounds : List Nat} {body : List GP} {vs : List ByteArray} {wanted : List Bool} {V : Words} : (seOf list rounds vs body wanted).hindered V = true ↔ ∃ p ∈ body, p.no = true ∧ HoldsS list p.atom (sigW vs V) := by
 unfold SE.hindered
 rw [List.any_eq_true]
 constructor
 · rintro ⟨p, hp, h⟩
   obtain ⟨q, hq, rfl⟩ := List.mem_map.1 (show p ∈ notsOf vs body from hp)
   obtain ⟨hq1, hq2⟩ := List.mem_filter.1 hq
   obtain ⟨a, ha, hs⟩ := List.any_eq_true.1 h
   obtain ⟨h1, h2⟩ := same_iff.1 hs
   refine ⟨q, hq1, hq2, holds_pat.1 ⟨a, ha, h1.symm, ?_⟩⟩
   rw [← h2]
   unfold factP
   rw [List.map_map]; rfl
 · rintro ⟨q, hq1, hq2, hh⟩
   refine ⟨patOf vs q.atom, List.mem_map.2 ⟨q, List.mem_filter.2 ⟨hq1, hq2⟩, rfl⟩, List.any_eq_true.2 ?_⟩
   obtain ⟨a, ha, h1, h2⟩ := holds_pat.2 hh
   refine ⟨a, ha, same_iff.2 ⟨h1.symm, ?_⟩⟩
   rw [h2]
   unfold factP
   rw [List.map_map]; rfl

/-- All that the program tells of a body. -/
def toldAll (E : SE) : List Words := (told E (E.parts.length + 1) (2 ^ E.parts.length - 1) (List.replicate 12 noWord)).1
theorem full_bit {n i : Nat} : (2 ^ n - 1).testBit i = decide (i < n) := Nat.testBit_two_pow_sub_one n i
theorem full_bits (n : Nat) : bitsOf n (2 ^ n - 1) ≤ n := by
 unfold bitsOf
 refine Nat.le_trans List.countP_le_length ?_
 simp
theorem at_empty (v : Nat) : isNo (Words.at_ (List.replicate 12 noWord) v) = true := by
 unfold Words.at_
 rw [List.getD_eq_getElem?_getD, List.getElem?_replicate]
 split <;> rfl
theorem start_done {E : SE} {W : Words} : E.Done (2 ^ E.parts.length - 1) W := fun i p hp hb => by
 rw [full_bit] at hb
 have := (List.getElem?_eq_some_iff.1 hp).1
 simp [this] at hb
theorem empty_below {R : Words} (h : R.length = 12) : Words.below (List.replicate 12 noWord) R := ⟨by simp [h], fun v hv => by rw [at_empty] at hv; cases hv⟩

/-- THE SAME ROWS. -/
theorem rows_same {list : List GA} {rounds : List Nat} {body : List GP} {vs : List ByteArray} (hb : Askable body vs) (hf : ∀ a ∈ list, okFact a) (ha : Asc list) (r : List ByteArray) :
 (∃ V ∈ toldAll (seOf list rounds vs body (wantAll vs.length)), (List.range vs.length).map V.at_ = r) ↔ ∃ b ∈ allN list body, rowB vs b = r := by
 have hE := se_ok (rounds := rounds) hb hf
 constructor
 · rintro ⟨V, hV, rfl⟩
   obtain ⟨h1, h2, h3⟩ := told_right hE _ _ _ V (by simp) start_done hV
   have hpos : ∀ p ∈ body, p.no = false → HoldsS list p.atom (sigW vs V) := fun p hp hn => holds_pat.1 (h2 _ (List.mem_map.2 ⟨p, List.mem_filter.2 ⟨hp, by simp [hn]⟩, rfl⟩)).2
   obtain ⟨b, hbm, hbu⟩ := fold_meets (list := list) (out := [⟨[], []⟩]) (c := ⟨[], []⟩) (fun c hc => by
    have : c = ⟨[], []⟩ := by simpa using hc
    subst this; rfl) (by simp) (fun x u h => by cases h) hpos
   obtain ⟨k1, _, k3⟩ := fold_sound (fun c hc => by
    have : c = ⟨[], []⟩ := by simpa using hc
    subst this; rfl) hbm
   have hsig : ∀ x ∈ vs, sig b x = sigW vs V x := fun x hx => by
    obtain ⟨p, hp, hno, t, ht, htv, htn⟩ := hb.tight x hx
    obtain ⟨f, _, _, hfm⟩ := k3 p hp hno
    have : valB b t ∈ f.args.map (fun f => some f.n) := by rw [← hfm]; exact List.mem_map_of_mem ht
    obtain ⟨g, _, hg⟩ := List.mem_map.1 this
    unfold valB at hg
    rw [if_pos htv, htn] at hg
    unfold sig
    rw [← hg]
    exact hbu x g.n hg.symm
   refine ⟨b, List.mem_filter.2 ⟨hbm, ?_⟩, ?_⟩
   · unfold heldB
     rw [List.all_eq_true]
     intro p hp
     cases hno : p.no with
     | false => rfl
     | true =>
       have hn : hasA list (fillN p.atom b) = false := by
        cases hh : hasA list (fillN p.atom b) with
        | false => rfl
        | true =>
          have := (hasA_holds ha (fun t ht htv => hsig t.n (hb.mem p hp t ht htv))).1 hh
          rw [hindered_iff.2 ⟨p, hp, hno, this⟩] at h3
          cases h3
       rw [hn]; rfl
   · rw [← sigW_at hb.nodup]
     exact List.map_congr_left hsig
 · rintro ⟨b, hbm, rfl⟩
   obtain ⟨hbm, hheld⟩ := List.mem_filter.1 hbm
   obtain ⟨k1, _, k3⟩ := fold_sound (fun c hc => by
    have : c = ⟨[], []⟩ := by simpa using hc
    subst this; rfl) hbm
   obtain ⟨R, hR⟩ : ∃ R : Words, R = vs.map (sig b) ++ List.replicate (12 - vs.length) noWord := ⟨_, rfl⟩
   have hRl : R.length = 12 := by rw [hR]; simp; have := hb.few; omega
   have hRat : ∀ i, i < vs.length → R.at_ i = (vs.map (sig b)).getD i noWord := fun i hi => by
    unfold Words.at_
    rw [hR, List.getD_eq_getElem?_getD, List.getD_eq_getElem?_getD, List.getElem?_append_left (by simpa using hi)]
   have hsig : ∀ x ∈ vs, sigW vs R x = sig b x := fun x hx => by
    obtain ⟨i, hi⟩ := idxB_mem hx
    unfold sigW
    rw [hi]
    simp only [Option.getD_some]
    rw [hRat i (idxB_lt hi), List.getD_eq_getElem?_getD, List.getElem?_map, idxB_some hi]; rfl
   have hval : ∀ p ∈ body, p.no = false → ∃ f ∈ list, f.n = p.atom.n ∧ p.atom.args.map (valB b) = f.args.map (fun f => some f.n) := fun p hp hn => k3 p hp hn
   have hHS : ∀ p ∈ body, p.no = false → HoldsS list p.atom (sigW vs R) := fun p hp hn => by
    obtain ⟨f, hfm, hfn, hargs⟩ := hval p hp hn
    refine ⟨f, hfm, hfn, ?_⟩
    have e : (f.args.map (·.n)).map some = (p.atom.args.map (valS (sigW vs R))).map some := by
     rw [List.map_map, show (some ∘ fun x : GT => x.n) = fun f : GT => some f.n from rfl, ← hargs, List.map_map]
     refine List.map_congr_left fun t ht => ?_
     show valB b t = some (valS (sigW vs R) t)
     unfold valB valS
     by_cases hv : t.v = true
     · rw [if_pos hv, if_pos hv, hsig t.n (hb.mem p hp t ht hv)]
       have : valB b t ∈ f.args.map (fun f => some f.n) := by rw [← hargs]; exact List.mem_map_of_mem ht
       obtain ⟨g, _, hg⟩ := List.mem_map.1 this
       unfold valB at hg
       rw [if_pos hv] at hg
       unfold sig
       rw [← hg]; rfl
     · rw [if_neg hv, if_neg hv]
    exact (List.map_inj_right (f := some) (fun x y h => Option.some.inj h)).1 e
   have hknown : ∀ p ∈ (seOf list rounds vs body (wantAll vs.length)).parts, known R p ∧ Holds list p R := fun p hp => by
    obtain ⟨q, hq, rfl⟩ := List.mem_map.1 (show p ∈ partsOf vs body from hp)
    obtain ⟨hq1, hq2⟩ := List.mem_filter.1 hq
    have hno : q.no = false := by simpa using hq2
    have hh := hHS q hq1 hno
    refine ⟨fun s hs => ?_, holds_pat.2 hh⟩
    obtain ⟨t, ht, rfl⟩ := List.mem_map.1 (show s ∈ q.atom.args.map (slotOf vs) from hs)
    rw [word_slot]
    obtain ⟨f, hfm, _, hargs⟩ := hh
    have : valS (sigW vs R) t ∈ f.args.map (·.n) := by rw [hargs]; exact List.mem_map_of_mem ht
    obtain ⟨g, hg, hgn⟩ := List.mem_map.1 this
    rw [← hgn]
    exact (hf f hfm g hg).2
   have hnh : (seOf list rounds vs body (wantAll vs.length)).hindered R = false := by
    cases hh : (seOf list rounds vs body (wantAll vs.length)).hindered R with
    | false => rfl
    | true =>
      obtain ⟨p, hp, hno, hs⟩ := hindered_iff.1 hh
      have h1 := (hasA_holds ha (b := b) (fun t ht htv => (hsig t.n (hb.mem p hp t ht htv)).symm)).2 hs
      unfold heldB at hheld
      have := List.all_eq_true.1 hheld p hp
      rw [hno, h1] at this
      cases this
   obtain ⟨V, hV, hVR⟩ := told_all hE _ (2 ^ (seOf list rounds vs body (wantAll vs.length)).parts.length - 1) (List.replicate 12 noWord) R (by simp) (fun i hi => by rw [full_bit] at hi; simpa using hi) (Nat.lt_succ_of_le (full_bits _)) start_done (empty_below hRl) hknown hnh
   refine ⟨V, hV, ?_⟩
   have e : (List.range vs.length).map V.at_ = (List.range vs.length).map R.at_ := List.map_congr_left fun i hi => hVR i ((want_iff hb.few).2 (List.mem_range.1 hi))
   rw [e, ← sigW_at hb.nodup]
   exact List.map_congr_left hsig

end Go.Proofs.YtfjdijakgjhieaaGreat

namespace Go.Proofs.YtfjdijakgjhieaaGreat
set_option linter.unusedSimpArgs false
set_option linter.unusedVariables false
open Go.RowKit

/-! ### Strictly ascending -/
section
variable {α : Type} {c : α → α → Int}
def AscC (c : α → α → Int) (l : List α) : Prop := l.Pairwise fun a b => c a b < 0
theorem self_zero (h : Total c) (a : α) : c a a = 0 := (h.eq a a).2 rfl
theorem asc_ext (h : Total c) : ∀ {l m : List α}, AscC c l → AscC c m → (∀ x, x ∈ l ↔ x ∈ m) → l = m
 | [], [], _, _, _ => rfl
 | [], y :: m, _, _, hm => absurd ((hm y).2 (by simp)) (by simp)
 | x :: l, [], _, _, hm => absurd ((hm x).1 (by simp)) (by simp)
 | x :: l, y :: m, hl, hm, he => by
   obtain ⟨h1, h2⟩ := List.pairwise_cons.1 hl
   obtain ⟨k1, k2⟩ := List.pairwise_cons.1 hm
   have hxy : x = y := by
    rcases List.mem_cons.1 ((he x).1 (by simp)) with e | e
    · exact e
    · rcases List.mem_cons.1 ((he y).2 (by simp)) with e2 | e2
      · exact e2.symm
      · have a1 := k1 x e
        have a2 := h1 y e2
        rw [h.neg] at a1
        omega
   subst hxy
   congr 1
   refine asc_ext h h2 k2 fun z => ?_
   constructor
   · intro hz
     rcases List.mem_cons.1 ((he z).1 (List.mem_cons_of_mem _ hz)) with e | e
     · subst e
       have := h1 z hz
       rw [self_zero h] at this; omega
     · exact e
   · intro hz
     rcases List.mem_cons.1 ((he z).2 (List.mem_cons_of_mem _ hz)) with e | e
     · subst e
       have := k1 z hz
       rw [self_zero h] at this; omega
     · exact e
/-- One more, in its place, once. -/
def insC (c : α → α → Int) : List α → α → List α
 | [], s => [s]
 | x :: l, s => if c x s < 0 then x :: insC c l s else if c x s = 0 then x :: l else s :: x :: l
theorem insC_mem (h : Total c) : ∀ {l : List α} {s x : α}, x ∈ insC c l s ↔ x ∈ l ∨ x = s
 | [], s, x => by simp [insC]
 | y :: l, s, x => by
   simp only [insC]
   split
   · rw [List.mem_cons, insC_mem h, List.mem_cons]
     constructor
     · rintro (e | e | e)
       · exact .inl (.inl e)
       · exact .inl (.inr e)
       · exact .inr e
     · rintro ((e | e) | e)
       · exact .inl e
       · exact .inr (.inl e)
       · exact .inr (.inr e)
   · split
     · rename_i h1 h2
       have e := (h.eq y s).1 h2
       subst e
       constructor
       · exact .inl
       · rintro (e | e)
         · exact e
         · rw [e]; simp
     · rw [List.mem_cons]
       constructor
       · rintro (e | e)
         · exact .inr e
         · exact .inl e
       · rintro (e | e)
         · exact .inr e
         · exact .inl e
theorem insC_asc (h : Total c) : ∀ {l : List α} {s : α}, AscC c l → AscC c (insC c l s)
 | [], s, _ => List.pairwise_singleton _ _
 | y :: l, s, hl => by
   obtain ⟨h1, h2⟩ := List.pairwise_cons.1 hl
   simp only [insC]
   split
   · rename_i hlt
     refine List.pairwise_cons.2 ⟨fun z hz => ?_, insC_asc h h2⟩
     rcases (insC_mem h).1 hz with e | e
     · exact h1 z e
     · rw [e]; exact hlt
   · split
     · exact hl
     · rename_i h3 h4
       have hs : c s y < 0 := by
        have := h.neg y s
        omega
       refine List.pairwise_cons.2 ⟨fun z hz => ?_, hl⟩
       rcases List.mem_cons.1 hz with e | e
       · rw [e]; exact hs
       · exact h.trans s y z hs (h1 z e)
def whileC (c : α → α → Int) : List α → α → Nat
 | [], _ => 0
 | x :: l, s => if c x s < 0 then whileC c l s + 1 else 0
theorem whileC_le : ∀ (l : List α) (s : α), whileC c l s ≤ l.length
 | [], _ => Nat.le_refl _
 | x :: l, s => by
   simp only [whileC]
   split
   · rw [List.length_cons]; have := whileC_le l s; omega
   · exact Nat.zero_le _
theorem whileC_is : ∀ {l : List α} {s : α} {k : Nat}, k ≤ l.length → (∀ i x, i < k → l[i]? = some x → c x s < 0) → (∀ x, l[k]? = some x → ¬ c x s < 0) → whileC c l s = k
 | [], s, k, hk, _, _ => by simp at hk; subst hk; rfl
 | x :: l, s, 0, _, _, h2 => by simp only [whileC]; rw [if_neg (h2 x rfl)]
 | x :: l, s, k + 1, hk, h1, h2 => by
   simp only [whileC]
   rw [if_pos (h1 0 x (Nat.succ_pos _) rfl)]
   rw [whileC_is (k := k) (by simpa using hk) (fun i y hi hy => h1 (i + 1) y (by omega) (by simpa using hy)) (fun y hy => h2 y (by simpa using hy))]
/-- The place of what is not less: is it the same? -/
def isC (c : α → α → Int) (l : List α) (s : α) : Bool := match l[whileC c l s]? with
 | some x => decide (c x s = 0)
 | none => false
theorem insC_eq : ∀ (l : List α) (s : α), insC c l s = if isC c l s = true then l else l.take (whileC c l s) ++ [s] ++ l.drop (whileC c l s)
 | [], s => by simp [insC, isC, whileC]
 | x :: l, s => by
   by_cases h : c x s < 0
   · have e1 : whileC c (x :: l) s = whileC c l s + 1 := by simp only [whileC]; rw [if_pos h]
     have e2 : isC c (x :: l) s = isC c l s := by unfold isC; rw [e1]; simp
     rw [e2, e1]
     simp only [insC]
     rw [if_pos h, insC_eq l s]
     split <;> simp
   · have e1 : whileC c (x :: l) s = 0 := by simp only [whileC]; rw [if_neg h]
     have e2 : isC c (x :: l) s = decide (c x s = 0) := by unfold isC; rw [e1]; simp
     rw [e2, e1]
     simp only [insC]
     rw [if_neg h]
     by_cases h0 : c x s = 0
     · simp [h0]
     · simp [h0]
theorem foldC_mem (h : Total c) : ∀ {vs out : List α} {x : α}, x ∈ vs.foldl (insC c) out ↔ x ∈ out ∨ x ∈ vs
 | [], out, x => by simp
 | v :: vs, out, x => by
   rw [List.foldl_cons, foldC_mem h, insC_mem h, List.mem_cons, or_assoc]
theorem foldC_asc (h : Total c) : ∀ {vs out : List α}, AscC c out → AscC c (vs.foldl (insC c) out)
 | [], _, ho => ho
 | v :: vs, out, ho => foldC_asc h (vs := vs) (out := insC c out v) (insC_asc h ho)
/-- In order, and no two alike: strictly in order. -/
theorem asc_of_sorted (h : Total c) {l : List α} (hs : l.Pairwise fun a b => c a b ≤ 0) (hn : l.Nodup) : AscC c l := by
 have := hs.and hn
 refine this.imp fun {a b} hab => ?_
 have hne : c a b ≠ 0 := fun e => hab.2 ((h.eq a b).1 e)
 have := hab.1
 omega
end

/-! ### Rows -/
theorem cmpS_total : Total cmpS where
 eq a b := by
  unfold cmpS
  rw [bytes_total.eq]
  exact ⟨fun h => bytes_inj h, fun h => by rw [h]⟩
 neg a b := by unfold cmpS; exact bytes_total.neg _ _
 trans a b d h1 h2 := by unfold cmpS at *; exact bytes_total.trans _ _ _ h1 h2
def cmpR (a b : List ByteArray) : Int := lexC cmpS a b
theorem cmpR_total : Total cmpR := lex_total cmpS_total
/-- As the reference compares two rows: not by how long they are. -/
def cmp5 : List ByteArray → List ByteArray → Int
 | a :: x, b :: y => if cmpS a b = 0 then cmp5 x y else cmpS a b
 | _, _ => 0
theorem cmp5_same : ∀ {a b : List ByteArray}, a.length = b.length → cmp5 a b = cmpR a b
 | [], [], _ => rfl
 | [], _ :: _, h => by simp at h
 | _ :: _, [], h => by simp at h
 | a :: x, b :: y, h => by
   have ih := cmp5_same (a := x) (b := y) (by simpa using h)
   unfold cmpR at ih ⊢
   simp only [cmp5, lexC, ih]
/-- What is asked, in order. -/
def askN (list : List GA) (body : List GP) (vs : List ByteArray) : List (List ByteArray) := ((allN list body).map (rowB vs)).foldl (insC cmpR) []
theorem askN_asc (list : List GA) (body : List GP) (vs : List ByteArray) : AscC cmpR (askN list body vs) := foldC_asc cmpR_total List.Pairwise.nil
theorem askN_mem {list : List GA} {body : List GP} {vs : List ByteArray} {r : List ByteArray} : r ∈ askN list body vs ↔ ∃ b ∈ allN list body, rowB vs b = r := by
 unfold askN
 rw [foldC_mem cmpR_total]
 simp
def rowW (n : Nat) (V : Words) : List ByteArray := (List.range n).map V.at_
/-- What the program tells, sorted, is what the reference answers. -/
theorem ask_same {list : List GA} {rounds : List Nat} {body : List GP} {vs : List ByteArray} (hb : Askable body vs) (hf : ∀ a ∈ list, okFact a) (ha : Asc list) {rows : List (List ByteArray)}
 (hp : rows.Perm ((toldAll (seOf list rounds vs body (wantAll vs.length))).map (rowW vs.length))) (hs : rows.Pairwise fun a b => cmpR a b ≤ 0) : rows = askN list body vs := by
 have hE := se_ok (rounds := rounds) hb hf
 have hap := told_apart hE (fun p hp s hs v hv => ?_) ?_ ((seOf list rounds vs body (wantAll vs.length)).parts.length + 1) (2 ^ (seOf list rounds vs body (wantAll vs.length)).parts.length - 1) (List.replicate 12 noWord) (by simp) start_done
 · have hnd : ((toldAll (seOf list rounds vs body (wantAll vs.length))).map (rowW vs.length)).Nodup := by
     unfold List.Nodup
     rw [List.pairwise_map]
     refine List.Pairwise.imp (fun {V V'} hV e => ?_) hap
     obtain ⟨v, hv, hne⟩ := hV
     have hlt := (want_iff hb.few).1 hv
     unfold rowW at e
     have e2 := congrArg (fun l => l[v]?) e
     simp only [List.getElem?_map, List.getElem?_range hlt, Option.map_some, Option.some.injEq] at e2
     exact hne e2
   refine asc_ext cmpR_total (asc_of_sorted cmpR_total hs (hp.nodup_iff.2 hnd)) (askN_asc _ _ _) fun r => ?_
   rw [askN_mem, ← rows_same (rounds := rounds) hb hf ha, hp.mem_iff, List.mem_map]
   exact Iff.rfl
 · obtain ⟨q, hq, rfl⟩ := List.mem_map.1 (show p ∈ partsOf vs body from hp)
   obtain ⟨t, ht, rfl⟩ := List.mem_map.1 (show s ∈ q.atom.args.map (slotOf vs) from hs)
   unfold slotOf at hv
   split at hv
   · rename_i htv
     obtain ⟨i, hi⟩ := idxB_mem (hb.mem q (List.mem_filter.1 hq).1 t ht htv)
     rw [hi] at hv
     simp only [Option.getD_some, Option.some.injEq] at hv
     subst hv
     exact (want_iff hb.few).2 (idxB_lt hi)
   · cases hv
 · refine List.Pairwise.imp (fun {a b} hab => ?_) ha
   cases h : sameA a b with
   | false => rfl
   | true =>
     have := (cmpA_eq a b).2 (keyA_same.2 h)
     omega

end Go.Proofs.YtfjdijakgjhieaaGreat
