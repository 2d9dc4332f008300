/- Part of the texts of a proof: own texts joined in the order of their building; what they say stands at each theorem. -/
import Derived.Test.YtmihponoillihaaGreatDoorBas05
import Derived.Test.YtmihponoillihaaGreatDoorBas02
import Derived.Test.YtmihponoillihaaGreatDoorBas03
import Derived.Lib.IndexMore
set_option linter.unusedSimpArgs false
set_option linter.unusedVariables false
namespace Go.Proofs.YtmihponoillihaaGreatDoor
open Go.RowKit

/-- A text cut at each byte c. -/
def splitL (c : UInt8) : List UInt8 → List (List UInt8)
 | [] => [[]]
 | x :: l => if x = c then [] :: splitL c l else match splitL c l with | [] => [[x]] | p :: ps => (x :: p) :: ps

theorem splitL_ne (c : UInt8) (l : List UInt8) : splitL c l ≠ [] := by
 cases l with
 | nil => simp [splitL]
 | cons x l =>
   unfold splitL
   split
   · simp
   · split <;> simp
theorem splitL_none {c : UInt8} : ∀ {l : List UInt8}, c ∉ l → splitL c l = [l]
 | [], _ => rfl
 | x :: l, h => by
   have h1 : x ≠ c := fun e => h (by simp [e])
   have h2 : c ∉ l := fun e => h (List.mem_cons_of_mem _ e)
   unfold splitL
   rw [if_neg h1, splitL_none h2]
theorem splitL_app {c : UInt8} : ∀ {p l : List UInt8}, c ∉ p → splitL c (p ++ c :: l) = p :: splitL c l
 | [], l, _ => by simp [splitL]
 | x :: p, l, h => by
   have h1 : x ≠ c := fun e => h (by simp [e])
   have h2 : c ∉ p := fun e => h (List.mem_cons_of_mem _ e)
   have ih := splitL_app (l := l) h2
   show (if x = c then [] :: splitL c (p ++ c :: l) else match splitL c (p ++ c :: l) with | [] => [[x]] | p :: ps => (x :: p) :: ps) = _
   rw [if_neg h1, ih]

/-- A byte of names. -/
def okByte (c : UInt8) : Bool := lowDig c || upper c
theorem okByte_ne {c : UInt8} (h : okByte c = true) (d : UInt8) (hd : okByte d = false) : c ≠ d := fun e => by rw [e, hd] at h; cases h
theorem plain_ok {l : List UInt8} (h : plainB l = true) : ∀ c ∈ l, okByte c = true := fun c hc => by
 have := List.all_eq_true.1 h c hc
 unfold okByte; rw [this]; rfl
theorem name_ok {s : ByteArray} (h : nameOkB s = true) : ∀ c ∈ s.data.toList, okByte c = true := by
 unfold nameOkB lettersB at h
 simp only [Bool.and_eq_true] at h
 exact plain_ok h.1.1
theorem name_pos {s : ByteArray} (h : nameOkB s = true) : 1 ≤ s.size ∧ s.size ≤ 8 := by
 unfold nameOkB lettersB at h
 simp only [Bool.and_eq_true] at h
 have := of_decide_eq_true h.1.2
 omega
theorem term_ok {t : GT} (h : termOkB t = true) : ∀ c ∈ t.n.data.toList, okByte c = true := by
 unfold termOkB at h
 split at h
 · unfold varOkB at h
   simp only [Bool.and_eq_true] at h
   intro c hc
   unfold capB at h
   cases hl : t.n.data.toList with
   | nil => rw [hl] at hc; cases hc
   | cons x l =>
     rw [hl] at h hc
     rcases List.mem_cons.1 hc with rfl | hc
     · have hu : upper c = true := h.1.1
       unfold okByte; rw [hu, Bool.or_true]
     · exact plain_ok h.2 c (by simpa using hc)
 · exact name_ok h
theorem term_pos {t : GT} (h : termOkB t = true) : t.n.data.toList ≠ [] := by
 unfold termOkB at h
 split at h
 · unfold varOkB capB at h
   simp only [Bool.and_eq_true] at h
   intro e
   rw [e] at h
   exact absurd h.1.1 (by simp)
 · intro e
   have := name_pos h
   have hl : t.n.data.toList.length = t.n.size := by simp
   rw [e] at hl; simp at hl; omega
/-- Whether a name is a variable's shows in its first byte. -/
theorem term_var {t : GT} (h : termOkB t = true) : t.v = capB t.n := by
 unfold termOkB at h
 split at h
 · rename_i hv
   unfold varOkB at h
   simp only [Bool.and_eq_true] at h
   rw [hv, h.1.1]
 · rename_i hv
   have hv' : t.v = false := by simpa using hv
   rw [hv']
   unfold nameOkB lettersB at h
   simp only [Bool.and_eq_true] at h
   unfold capB
   cases hl : t.n.data.toList with
   | nil => rfl
   | cons x l =>
     rw [hl] at h
     have h1 : lowDig x = true := List.all_eq_true.1 h.1.1 x (by simp)
     have h2 := lowDig_yes h1
     show false = upper x
     unfold upper
     rw [decide_eq_false (by omega)]

theorem namesL_ok : ∀ {l : List GT}, (∀ t ∈ l, termOkB t = true) → ∀ c ∈ namesL l, okByte c = true ∨ c = 44
 | [], _, c, hc => by simp [namesL] at hc
 | [t], h, c, hc => .inl (term_ok (h t (by simp)) c hc)
 | t :: u :: l, h, c, hc => by
   unfold namesL at hc
   simp only [List.mem_append, List.mem_singleton] at hc
   rcases hc with (hc | hc) | hc
   · exact .inl (term_ok (h t (by simp)) c hc)
   · exact .inr hc
   · exact namesL_ok (l := u :: l) (fun t ht => h t (List.mem_cons_of_mem _ ht)) c hc
theorem namesL_split : ∀ {l : List GT}, (∀ t ∈ l, termOkB t = true) → l ≠ [] → splitL 44 (namesL l) = l.map fun t => t.n.data.toList
 | [], _, h => absurd rfl h
 | [t], h, _ => splitL_none (fun hc => okByte_ne (term_ok (h t (by simp)) 44 hc) 44 rfl rfl)
 | t :: u :: l, h, _ => by
   have ih := namesL_split (l := u :: l) (fun t ht => h t (List.mem_cons_of_mem _ ht)) (by simp)
   show splitL 44 (t.n.data.toList ++ [44] ++ namesL (u :: l)) = _
   rw [List.append_assoc, List.singleton_append, splitL_app (fun hc => okByte_ne (term_ok (h t (by simp)) 44 hc) 44 rfl rfl), ih]
   rfl
theorem namesL_pos {l : List GT} (h : ∀ t ∈ l, termOkB t = true) (hl : l ≠ []) : namesL l ≠ [] := by
 match l, hl with
 | [t], _ => exact term_pos (h t (by simp))
 | t :: u :: l, _ => simp [namesL]

theorem atom_parts {a : GA} (h : atomOkB a = true) : nameOkB a.n = true ∧ a.args.length ≤ 3 ∧ ∀ t ∈ a.args, termOkB t = true := by
 unfold atomOkB at h
 simp only [Bool.and_eq_true, decide_eq_true_eq] at h
 exact ⟨h.1.1, h.1.2, List.all_eq_true.1 h.2⟩
theorem atom_split {a : GA} (h : atomOkB a = true) : splitL 40 (atomL a) = [a.n.data.toList, namesL a.args ++ [41]] := by
 obtain ⟨h1, h2, h3⟩ := atom_parts h
 unfold atomL
 rw [List.append_assoc, List.append_assoc, List.singleton_append, splitL_app (fun hc => okByte_ne (name_ok h1 40 hc) 40 rfl rfl), splitL_none]
 intro hc
 rcases List.mem_append.1 hc with hc | hc
 · rcases namesL_ok h3 40 hc with hc | hc
   · exact okByte_ne hc 40 rfl rfl
   · cases hc
 · simp at hc
theorem bytes_inj {a b : ByteArray} (h : a.data.toList = b.data.toList) : a = b := by
 apply ByteArray.ext
 exact Array.toList_inj.1 h
theorem terms_inj : ∀ {l m : List GT}, (∀ t ∈ l, termOkB t = true) → (∀ t ∈ m, termOkB t = true) → (l.map fun t => t.n.data.toList) = (m.map fun t => t.n.data.toList) → l = m
 | [], [], _, _, _ => rfl
 | [], _ :: _, _, _, h => by simp at h
 | _ :: _, [], _, _, h => by simp at h
 | t :: l, u :: m, hl, hm, h => by
   simp only [List.map_cons, List.cons.injEq] at h
   have hn := bytes_inj h.1
   have hv : t.v = u.v := by rw [term_var (hl t (by simp)), term_var (hm u (by simp)), hn]
   have : t = u := by cases t; cases u; simp_all
   rw [this, terms_inj (fun t ht => hl t (List.mem_cons_of_mem _ ht)) (fun t ht => hm t (List.mem_cons_of_mem _ ht)) h.2]
theorem names_inj {l m : List GT} (hl : ∀ t ∈ l, termOkB t = true) (hm : ∀ t ∈ m, termOkB t = true) (h : namesL l = namesL m) : l = m := by
 by_cases h1 : l = []
 · subst h1
   by_cases h2 : m = []
   · exact h2.symm
   · exact absurd h.symm (namesL_pos hm h2)
 · by_cases h2 : m = []
   · subst h2; exact absurd h (namesL_pos hl h1)
   · exact terms_inj hl hm (by rw [← namesL_split hl h1, ← namesL_split hm h2, h])
theorem atom_inj {a b : GA} (ha : atomOkB a = true) (hb : atomOkB b = true) (h : atomL a = atomL b) : a = b := by
 have h1 := atom_split ha
 have h2 := atom_split hb
 rw [h, h2] at h1
 simp only [List.cons.injEq, and_true] at h1
 have e1 := bytes_inj h1.1
 have e2 := names_inj (atom_parts hb).2.2 (atom_parts ha).2.2 (List.append_cancel_right h1.2)
 cases a; cases b; simp_all

open Classical in
/-- The atom that a text is. -/
noncomputable def atomOf (l : List UInt8) : Option GA := if h : ∃ a, atomOkB a = true ∧ atomL a = l then some h.choose else none
theorem atomOf_some {a : GA} (h : atomOkB a = true) : atomOf (atomL a) = some a := by
 have hx : ∃ b, atomOkB b = true ∧ atomL b = atomL a := ⟨a, h, rfl⟩
 unfold atomOf
 rw [dif_pos hx]
 exact congrArg some (atom_inj hx.choose_spec.1 h hx.choose_spec.2)
theorem atomOf_is {l : List UInt8} {a : GA} (h : atomOf l = some a) : atomOkB a = true ∧ atomL a = l := by
 unfold atomOf at h
 split at h
 · rename_i hx
   injection h with h
   exact h ▸ hx.choose_spec
 · cases h
theorem atomL_ok_len {a : GA} (h : atomOkB a = true) : (atomL a).length ≤ 60 := by
 obtain ⟨h1, h2, h3⟩ := atom_parts h
 have h4 := atomL_len a
 have h5 := (name_pos h1).2
 have h6 : ∀ l : List GT, (∀ t ∈ l, termOkB t = true) → (l.map wTerm).sum ≤ l.length * 8 := by
  intro l
  induction l with
  | nil => simp
  | cons t l ih =>
    intro hl
    have := ih (fun t ht => hl t (List.mem_cons_of_mem _ ht))
    have ht := hl t (by simp)
    have : t.n.size ≤ 8 := by
     unfold termOkB at ht
     split at ht
     · unfold varOkB at ht
       simp only [Bool.and_eq_true, decide_eq_true_eq] at ht
       exact ht.1.2
     · exact (name_pos ht).2
    simp only [List.map_cons, List.sum_cons, List.length_cons, wTerm] at *
    omega
 have := h6 a.args h3
 unfold wAtom wTerms at h4
 omega

/-! ### The words of a change -/
theorem atomL_no {a : GA} (h : atomOkB a = true) (d : UInt8) (hd : okByte d = false) (h40 : d ≠ 40) (h41 : d ≠ 41) (h44 : d ≠ 44) : d ∉ atomL a := by
 obtain ⟨h1, h2, h3⟩ := atom_parts h
 intro hc
 unfold atomL at hc
 simp only [List.mem_append, List.mem_singleton] at hc
 rcases hc with ((hc | hc) | hc) | hc
 · exact okByte_ne (name_ok h1 d hc) d hd rfl
 · exact h40 hc
 · rcases namesL_ok h3 d hc with hc | hc
   · exact okByte_ne hc d hd rfl
   · exact h44 hc
 · exact h41 hc
def wordsOf (c : UInt8) (l : List GA) : List (List UInt8) := l.map fun a => c :: atomL a
theorem signed_split {c : UInt8} (hc : c ≠ 32) : ∀ {l : List GA} (m : List UInt8), (∀ a ∈ l, atomOkB a = true) → splitL 32 (signedL c l ++ m) = wordsOf c l ++ splitL 32 m
 | [], m, _ => rfl
 | a :: l, m, h => by
   have ih := signed_split hc (l := l) m (fun a ha => h a (List.mem_cons_of_mem _ ha))
   have e : signedL c (a :: l) ++ m = (c :: atomL a) ++ 32 :: (signedL c l ++ m) := by simp [signedL]
   rw [e, splitL_app, ih]
   · rfl
   · intro hm
     rcases List.mem_cons.1 hm with hm | hm
     · exact hc hm.symm
     · exact atomL_no (h a (by simp)) 32 rfl (by decide) (by decide) (by decide) hm
theorem change_split {g : GC} (h1 : ∀ a ∈ g.comes, atomOkB a = true) (h2 : ∀ a ∈ g.goes, atomOkB a = true) : splitL 32 (changeL g) = wordsOf 45 g.goes ++ (wordsOf 43 g.comes ++ [[]]) := by
 unfold changeL
 rw [signed_split (by decide) _ h2]
 have := signed_split (c := 43) (by decide) [] h1
 rw [List.append_nil] at this
 rw [this]
 rfl
theorem factB_ok {a : GA} (h : factB a = true) : atomOkB a = true := by
 unfold factB at h
 simp only [Bool.and_eq_true] at h
 exact h.1

end Go.Proofs.YtmihponoillihaaGreatDoor

namespace Go.Proofs.YtmihponoillihaaGreatDoor
open Go.RowKit

/-! ### The reference's bindings -/
def LB.ok (b : LB) : Prop := b.ns.length = b.vs.length
theorem plus_ok {b : LB} (h : b.ok) (n v : ByteArray) : (b.plus n v).ok := by
 unfold LB.ok LB.plus at *
 simp [h]
theorem keyA_same {a b : GA} : keyA a = keyA b ↔ sameA a b = true := by
 rw [same_iff]
 unfold keyA argKeys
 constructor
 · intro h
   injection h with h1 h2
   refine ⟨bytes_inj h1, ?_⟩
   have e : ∀ l : List GT, l.map (fun t => t.n.data.toList) = (l.map (·.n)).map (fun s => s.data.toList) := fun l => by rw [List.map_map]; rfl
   rw [e, e] at h2
   refine List.map_inj_right (f := fun s : ByteArray => s.data.toList) (fun x y h => bytes_inj h) |>.1 h2
 · rintro ⟨h1, h2⟩
   have e : ∀ l : List GT, l.map (fun t => t.n.data.toList) = (l.map (·.n)).map (fun s => s.data.toList) := fun l => by rw [List.map_map]; rfl
   rw [h1, e, e, h2]
theorem hasA_same {list : List GA} (ha : Asc list) {x : GA} : hasA list x = true ↔ ∃ y ∈ list, sameA y x = true := by
 rw [hasA_iff list x ha]
 constructor
 · rintro ⟨y, h1, h2⟩; exact ⟨y, h1, keyA_same.1 ((cmpA_eq y x).1 h2)⟩
 · rintro ⟨y, h1, h2⟩; exact ⟨y, h1, (cmpA_eq y x).2 (keyA_same.2 h2)⟩
end Go.Proofs.YtmihponoillihaaGreatDoor

namespace Go.Proofs.YtmihponoillihaaGreatDoor
open Go.RowKit

theorem StrsR.impL {S S' : Nat → Prop} {w w' : World} {v : Value} {xs : List ByteArray} (h : StrsR S w v xs) (hS : ∀ b, S b → b < w.heap.size → S' b) (he : Agree S w w') (hsz : w.heap.size ≤ w'.heap.size) : StrsR S' w' v xs := ListK.imp (k := kStr) h hS he hsz
theorem StrsR.sub {S S' : Nat → Prop} {w : World} {v : Value} {xs : List ByteArray} (h : StrsR S w v xs) (hS : ∀ b, S b → S' b) : StrsR S' w v xs := h.impL (fun b hb _ => hS b hb) (.refl _ _) (Nat.le_refl _)
/-- A binding: two slices of words. -/
def BindE (S : Nat → Prop) (w : World) (cs : List Value) (b : LB) : Prop := ∃ v u, cs = [v, u] ∧ StrsR S w v b.ns ∧ StrsR S w u b.vs ∧ b.ok
def kBind : Kind LB := ⟨2, BindE, by decide, fun h hS he hsz => by obtain ⟨v, u, h1, h2, h3, h4⟩ := h; exact ⟨v, u, h1, h2.impL hS he hsz, h3.impL hS he hsz, h4⟩,
 fun {_ _ l x} h => by obtain ⟨v, u, rfl, ht, hp, _⟩ := h; intro y hy; simp at hy; rcases hy with rfl | rfl <;> first | exact ListK.one (k := kStr) ht | exact ListK.one (k := kStr) hp, fun h => by obtain ⟨v, u, rfl, _⟩ := h; rfl⟩
def BindsR (S : Nat → Prop) : World → Value → List LB → Prop := SliceR S 2 (BindE S)
theorem BindsR.impL {S S' : Nat → Prop} {w w' : World} {v : Value} {xs : List LB} (h : BindsR S w v xs) (hS : ∀ b, S b → b < w.heap.size → S' b) (he : Agree S w w') (hsz : w.heap.size ≤ w'.heap.size) : BindsR S' w' v xs := ListK.imp (k := kBind) h hS he hsz
theorem BindsR.ext {S : Nat → Prop} {w w' : World} {v : Value} {xs : List LB} (h : BindsR S w v xs) (he : Ext w w') : BindsR S w' v xs := h.impL (fun _ h _ => h) (.of_ext he) he.size
theorem BindsR.at_ {S : Nat → Prop} {w : World} {A : Option Addr} {n c : Nat} {xs : List LB} (h : BindsR S w (.slice A n c) xs) {k : Nat} (hk : k < n) :
 ∃ (b off : Nat) (x : LB) (v u : Value), A = some ⟨b, off, none⟩ ∧ b < w.heap.size ∧ xs[k]? = some x ∧ StrsR S w v x.ns ∧ StrsR S w u x.vs ∧ x.ok ∧
   w.cell? ⟨b, off + k * 2, none⟩ = some v ∧ w.cell? ⟨b, off + k * 2 + 1, none⟩ = some u := by
 obtain ⟨b, off, x, cs, hA, hb, hx, _, hc, v, u, rfl, ht, hp, ho⟩ := SliceR.at_ h hk
 exact ⟨b, off, x, v, u, hA, hb, hx, ht, hp, ho, hc 0 _ rfl, hc 1 _ rfl⟩
end Go.Proofs.YtmihponoillihaaGreatDoor

namespace Go.Proofs.YtmihponoillihaaGreatDoor
open Go.RowKit

set_option maxRecDepth 100000 in
set_option maxHeartbeats 1000000 in
theorem l1Put_any (a : GA) (v : Value) (w : World) {S : Nat → Prop} (hv : TermsR S w v a.args) (hw : wAtom a ≤ 4194304) :
 Calls Tryz.prog 211 #[.agg #[.string a.n, v]] w fun e w' => e = .returned (.string (strOf (atomL a))) ∧ Ext w w' := by
 obtain ⟨A, c, rfl, hc1, hc2⟩ := SliceR.form hv
 have HV := Lib.hid (hv.ext ((Ext.refl w).alloc (.cells #[.string a.n, .slice A a.args.length c] 54)))
 have HW := Lib.hid hw
 have hn : a.n.size ≤ 4194304 := by unfold wAtom at hw; omega
 clear hv hw
 go_enter Tryz.func211, Tryz.ntmps211
 go_wp2
 go_loopw [3, 4] (fun o i wr => ∃ (k : Nat) (s : ByteArray), k ≤ a.args.length ∧ i = .int .i64 k ∧ o = .string s ∧ Hid (s = strOf (a.n.data.toList ++ [40] ++ namesL (a.args.take k))) ∧ Ext (w.alloc (.cells #[.string a.n, .slice A a.args.length c] 54)) wr) (fun _ i _ => a.args.length - (intOf i).toNat)
 case atStart => exact ⟨0, _, Nat.zero_le _, rfl, rfl, by show _ = _; rw [List.take_zero, namesL, List.append_nil, ← strOf_append]; rfl, Ext.refl _⟩
 case round =>
  obtain ⟨k, s, hk, rfl, rfl, hp, hx⟩ := hrel
  obtain ⟨hcc, hcf⟩ := hx.cells
  have hsz : s.size ≤ 8388609 := by
   rw [hp.out, strOf_size]
   have h1 := namesL_len (a.args.take k)
   have h2 := wTerms_take a.args k
   have h3 := HW.out
   have h4 : a.n.data.toList.length = a.n.size := by simp
   unfold wAtom at h3
   simp only [List.length_append, List.length_cons, List.length_nil]; omega
  by_cases hlt : k < a.args.length
  · obtain ⟨b, off, x, rfl, hb, hxk, hxs, hc0, hc1⟩ := TermsR.at_ (HV.out.ext hx) hlt
    have HK := Lib.hid (namesL_take hxk)
    have hxn : x.n.size ≤ 4194304 := by
     have h1 := wTerms_mem (List.mem_of_getElem? hxk)
     have h3 := HW.out
     unfold wAtom at h3; unfold wTerm at h1; omega
    clear hxk hxs
    by_cases hk0 : k < 1
    · go_wp2
      go_roundw
      case rel =>
       refine ⟨k + 1, _, by omega, by go_num, rfl, ?_, hx⟩
       show _ = _
       rw [hp.out, HK.out, if_pos (by omega), show k = 0 from by omega, List.take_zero, namesL, List.append_nil, List.nil_append, ← strOf_append _ x.n.data.toList]
       rfl
      case measure => simp [intOf]; omega
    · go_wp2
      go_roundw
      case rel =>
       refine ⟨k + 1, _, by omega, by go_num, rfl, ?_, hx⟩
       show _ = _
       rw [hp.out, HK.out, if_neg (by omega), show (⟨#[44]⟩ : ByteArray) = strOf [44] from rfl, strOf_append, ← strOf_list x.n, strOf_append]
       simp only [List.append_assoc, strOf_list]
      case measure => simp [intOf]; omega
  · go_wp2
    go_ret
    refine ⟨?_, ((Ext.refl _).alloc _).trans' hx⟩
    refine Eq.trans ?_ (ret_str (a := s ++ strOf [41]) ?_)
    · rfl
    · rw [hp.out, strOf_append, List.take_of_length_le (by omega)]; rfl

set_option maxRecDepth 100000 in
set_option maxHeartbeats 2000000 in
theorem l8Put_any (g : GC) (v u : Value) (w : World) {S T : Nat → Prop} (hv : AtomsR S w v g.comes) (hu : AtomsR T w u g.goes) (hw : wChange g ≤ 1048576) :
 Calls Tryz.prog 150 #[.agg #[v, u]] w fun e w' => e = .returned (.string (strOf (changeL g))) ∧ Ext w w' := by
 obtain ⟨A, c, rfl, hc1, hc2⟩ := SliceR.form hv
 obtain ⟨B, d, rfl, hd1, hd2⟩ := SliceR.form hu
 have HV := Lib.hid (hv.ext ((Ext.refl w).alloc (.cells #[.slice A g.comes.length c, .slice B g.goes.length d] 32)))
 have HU := Lib.hid (hu.ext ((Ext.refl w).alloc (.cells #[.slice A g.comes.length c, .slice B g.goes.length d] 32)))
 have HW := Lib.hid hw
 clear hv hu hw
 go_enter Tryz.func150, Tryz.ntmps150
 go_wp2
 go_loopw [3, 4] (fun o i wr => ∃ (k : Nat) (s : ByteArray), k ≤ g.goes.length ∧ i = .int .i64 k ∧ o = .string s ∧ Hid (s = strOf (signedL 45 (g.goes.take k))) ∧ Ext (w.alloc (.cells #[.slice A g.comes.length c, .slice B g.goes.length d] 32)) wr) (fun _ i _ => g.goes.length - (intOf i).toNat)
 case atStart => exact ⟨0, _, Nat.zero_le _, rfl, rfl, rfl, Ext.refl _⟩
 case round =>
  obtain ⟨k, s, hk, rfl, rfl, hp, hx⟩ := hrel
  obtain ⟨hcc, hcf⟩ := hx.cells
  have hz1 := hx.size
  simp only [World.size_alloc] at hz1
  have hz2 : w.heap.size < wr.heap.size := by omega
  clear hz1
  have hsz : s.size ≤ 10485760 := by
   rw [hp.out, strOf_size]
   have h1 := signedL_len 45 (g.goes.take k)
   have h2 := wAtoms_take g.goes k
   have h3 := HW.out
   have h4 := signedL_len 45 g.goes
   unfold wChange at h3
   try simp only [List.length_append]
   omega
  by_cases hlt : k < g.goes.length
  · obtain ⟨b, off, x, v1, rfl, hb, hxk, hxs, ht, hc0, hc1⟩ := AtomsR.at_ (HU.out.ext hx) hlt
    have HK := Lib.hid (signedL_take 45 hxk)
    have HT := Lib.hid ht
    have HX := Lib.hid (show wAtom x ≤ 4194304 from by
     have h1 := wAtoms_mem (List.mem_of_getElem? hxk)
     have h3 := HW.out
     unfold wChange at h3; omega)
    have hal : (strOf (atomL x)).size ≤ 4194306 := by rw [strOf_size]; exact Nat.le_trans (atomL_len x) (by have := HX.out; omega)
    clear hxk hxs ht
    go_wp2_with (go_at_call 211; refine (l1Put_any x v1 _ HT.out HX.out).mono ?_; rintro e w1 ⟨rfl, hx1⟩)
    go_roundw
    case rel =>
     refine ⟨k + 1, _, by omega, by go_num, rfl, ?_, hx.trans' hx1⟩
     show _ = _
     rw [hp.out, HK.out, show (⟨#[45]⟩ : ByteArray) = strOf [45] from rfl, show (⟨#[32]⟩ : ByteArray) = strOf [32] from rfl, strOf_append, strOf_append, strOf_append]
     simp only [List.append_assoc]
    case measure => simp [intOf]; omega
  · have HS := Lib.hid (show s = strOf (signedL 45 g.goes) from by rw [hp.out, List.take_of_length_le (by omega)])
    clear hp
    go_wp2
    clear hcc hcf hz2
    go_loopw [3, 5] (fun o i wr => ∃ (k : Nat) (s : ByteArray), k ≤ g.comes.length ∧ i = .int .i64 k ∧ o = .string s ∧ Hid (s = strOf (signedL 45 g.goes ++ signedL 43 (g.comes.take k))) ∧ Ext (w.alloc (.cells #[.slice A g.comes.length c, .slice B g.goes.length d] 32)) wr) (fun _ i _ => g.comes.length - (intOf i).toNat)
    case atStart => exact ⟨0, _, Nat.zero_le _, rfl, rfl, by show _ = _; rw [HS.out, List.take_zero]; exact congrArg strOf (List.append_nil _).symm, hx⟩
    case round =>
     obtain ⟨k, s, hk, rfl, rfl, hp, hy⟩ := hrel
     obtain ⟨hcc, hcf⟩ := hy.cells
     have hz1 := hy.size
     simp only [World.size_alloc] at hz1
     have hz2 : w.heap.size < wr.heap.size := by omega
     clear hz1
     have hsz : s.size ≤ 10485760 := by
      rw [hp.out, strOf_size]
      have h1 := signedL_len 43 (g.comes.take k)
      have h2 := wAtoms_take g.comes k
      have h3 := HW.out
      have h4 := signedL_len 45 g.goes
      unfold wChange at h3
      try simp only [List.length_append]
      omega
     by_cases hlt : k < g.comes.length
     · obtain ⟨b, off, x, v1, rfl, hb, hxk, hxs, ht, hc0, hc1⟩ := AtomsR.at_ (HV.out.ext hy) hlt
       have HK := Lib.hid (signedL_take 43 hxk)
       have HT := Lib.hid ht
       have HX := Lib.hid (show wAtom x ≤ 4194304 from by
        have h1 := wAtoms_mem (List.mem_of_getElem? hxk)
        have h3 := HW.out
        unfold wChange at h3; omega)
       have hal : (strOf (atomL x)).size ≤ 4194306 := by rw [strOf_size]; exact Nat.le_trans (atomL_len x) (by have := HX.out; omega)
       clear hxk hxs ht
       go_wp2_with (go_at_call 211; refine (l1Put_any x v1 _ HT.out HX.out).mono ?_; rintro e w1 ⟨rfl, hx1⟩)
       go_roundw
       case rel =>
        refine ⟨k + 1, _, by omega, by go_num, rfl, ?_, hy.trans' hx1⟩
        show _ = _
        rw [hp.out, HK.out, show (⟨#[43]⟩ : ByteArray) = strOf [43] from rfl, show (⟨#[32]⟩ : ByteArray) = strOf [32] from rfl, strOf_append, strOf_append, strOf_append]
        simp only [List.append_assoc]
       case measure => simp [intOf]; omega
     · go_wp2
       go_ret
       refine ⟨?_, ((Ext.refl _).alloc _).trans' hy⟩
       refine Eq.trans ?_ (ret_str (a := s) ?_)
       · rfl
       · rw [hp.out, List.take_of_length_le (by omega)]; rfl

theorem okTerms_w : ∀ (l : List GT), l.all termOkB = true → wTerms l ≤ 9 * l.length
 | [], _ => Nat.le_refl _
 | t :: l, h => by
   rw [List.all_cons, Bool.and_eq_true] at h
   have ih := okTerms_w l h.2
   have ht : t.n.size ≤ 8 := by
    have h1 := h.1
    unfold termOkB at h1
    split at h1
    · unfold varOkB at h1; simp only [Bool.and_eq_true, decide_eq_true_eq] at h1; exact h1.1.2
    · unfold nameOkB lettersB inB at h1; simp only [Bool.and_eq_true, decide_eq_true_eq] at h1; omega
   unfold wTerms at ih ⊢
   simp only [List.length_cons, List.map_cons, List.sum_cons, wTerm]; omega
theorem okAtom_w {a : GA} (h : atomOkB a = true) : wAtom a ≤ 35 := by
 unfold atomOkB at h
 simp only [Bool.and_eq_true, decide_eq_true_eq] at h
 have h1 := okTerms_w _ h.2
 have h2 := h.1.1
 unfold nameOkB lettersB inB at h2; simp only [Bool.and_eq_true, decide_eq_true_eq] at h2
 have h3 := h.1.2
 unfold wAtom; omega
theorem okFacts_w : ∀ (l : List GA), l.all factB = true → wAtoms l ≤ 36 * l.length
 | [], _ => Nat.le_refl _
 | a :: l, h => by
   rw [List.all_cons, Bool.and_eq_true] at h
   have ih := okFacts_w l h.2
   have ha : wAtom a ≤ 35 := by
    have h1 := h.1
    unfold factB at h1; rw [Bool.and_eq_true] at h1
    exact okAtom_w h1.1
   unfold wAtoms at ih ⊢
   simp only [List.length_cons, List.map_cons, List.sum_cons]; omega
theorem factsB_w {l : List GA} {n : Nat} (h : factsB l n = true) : wAtoms l ≤ 36 * n := by
 unfold factsB at h
 simp only [Bool.and_eq_true, decide_eq_true_eq] at h
 have := okFacts_w l h.1.1
 have := h.2
 omega
theorem okChange_w {g : GC} (h : changeOkB g = true) : wChange g ≤ 1048576 := by
 unfold changeOkB at h
 simp only [Bool.and_eq_true] at h
 have h1 := factsB_w h.1.1
 have h2 := factsB_w h.1.2
 unfold wChange; omega

/-- A change that is ok as a text, and else nothing. -/
def changePutL (g : GC) : List UInt8 := if changeOkB g = true then changeL g else []

set_option maxRecDepth 100000 in
set_option maxHeartbeats 1000000 in
theorem specChangePut_any (g : GC) (v u : Value) (w : World) {S T : Nat → Prop} (hv : AtomsR S w v g.comes) (hu : AtomsR T w u g.goes) :
 Calls Tryz.prog 158 #[.agg #[v, u]] w fun e w' => e = .returned (.string (strOf (changePutL g))) ∧ Ext w w' := by
 obtain ⟨A, c, rfl, hc1, hc2⟩ := SliceR.form hv
 obtain ⟨B, d, rfl, hd1, hd2⟩ := SliceR.form hu
 have HV := Lib.hid (hv.ext ((Ext.refl w).alloc (.cells #[.slice A g.comes.length c, .slice B g.goes.length d] 32)))
 have HU := Lib.hid (hu.ext ((Ext.refl w).alloc (.cells #[.slice A g.comes.length c, .slice B g.goes.length d] 32)))
 clear hv hu
 have hw := bool_ways (specChangeOk_any g _ _ _ HV.out HU.out)
 cases hk : changeOkB g
 · have HF := Lib.hid (show changePutL g = [] from by unfold changePutL; rw [hk]; rfl)
   have HW := Lib.hid (hw.2 hk)
   clear hw hk
   go_enter Tryz.func158, Tryz.ntmps158
   go_wp2_with (go_at_call 47; refine HW.out.mono ?_; rintro e w1 ⟨rfl, hx1⟩)
   go_ret
   exact ⟨by rw [HF.out]; rfl, ((Ext.refl _).alloc _).trans' hx1⟩
 · have HF := Lib.hid (show changePutL g = changeL g from by unfold changePutL; rw [hk]; rfl)
   have HW := Lib.hid (hw.1 hk)
   have HS := Lib.hid (okChange_w hk)
   clear hw hk
   go_enter Tryz.func158, Tryz.ntmps158
   go_wp2_with (first
    | (go_at_call 47; refine HW.out.mono ?_; rintro e w1 ⟨rfl, hx1⟩; obtain ⟨hcc, hcf⟩ := hx1.cells)
    | (go_at_call 150; refine (l8Put_any g _ _ _ (HV.out.ext hx1) (HU.out.ext hx1) HS.out).mono ?_; rintro e w2 ⟨rfl, hx2⟩))
   go_ret
   exact ⟨by rw [HF.out]; rfl, (((Ext.refl _).alloc _).trans' hx1).trans' hx2⟩

end Go.Proofs.YtmihponoillihaaGreatDoor

namespace Go.Proofs.YtmihponoillihaaGreatDoor
open Go.RowKit

def joinL (c : UInt8) : List (List UInt8) → List UInt8
 | [] => []
 | [p] => p
 | p :: q :: r => p ++ c :: joinL c (q :: r)
theorem join_split (c : UInt8) : ∀ l : List UInt8, joinL c (splitL c l) = l
 | [] => rfl
 | x :: l => by
   have ih := join_split c l
   have hne := splitL_ne c l
   unfold splitL
   split
   · rename_i hx
     subst hx
     cases hs : splitL x l with
     | nil => exact absurd hs hne
     | cons p ps =>
       rw [hs] at ih
       show [] ++ x :: joinL x (p :: ps) = _
       rw [ih]; rfl
   · cases hs : splitL c l with
     | nil => exact absurd hs hne
     | cons p ps =>
       rw [hs] at ih
       cases ps with
       | nil => show x :: p = _; rw [← ih]; rfl
       | cons q r => show (x :: p) ++ c :: joinL c (q :: r) = _; rw [← ih]; rfl

/-- A word as a term. -/
def argOf (l : List UInt8) : GT := ⟨capB (strOf l), strOf l⟩
theorem argOf_ok {t : GT} (h : termOkB t = true) : argOf t.n.data.toList = t := by
 have hv := term_var h
 have e : strOf t.n.data.toList = t.n := strOf_list t.n
 unfold argOf
 rw [e, ← hv]
theorem args_of {l : List GT} (h : ∀ t ∈ l, termOkB t = true) (hl : l ≠ []) : (splitL 44 (namesL l)).map argOf = l := by
 rw [namesL_split h hl, List.map_map]
 conv => rhs; rw [← List.map_id l]
 exact List.map_congr_left fun t ht => argOf_ok (h t ht)
theorem names_of : ∀ ws : List (List UInt8), namesL (ws.map argOf) = joinL 44 ws
 | [] => rfl
 | [p] => rfl
 | p :: q :: r => by
   have ih := names_of (q :: r)
   show (strOf p).data.toList ++ [44] ++ namesL ((q :: r).map argOf) = _
   rw [ih, list_strOf, List.append_assoc]; rfl

def argsOf (inner : List UInt8) : List GT := if inner = [] then [] else (splitL 44 inner).map argOf
theorem argsOf_names {l : List GT} (h : ∀ t ∈ l, termOkB t = true) : argsOf (namesL l) = l := by
 unfold argsOf
 by_cases hl : l = []
 · subst hl; rfl
 · rw [if_neg (namesL_pos h hl), args_of h hl]
theorem names_argsOf (inner : List UInt8) : namesL (argsOf inner) = inner := by
 unfold argsOf
 by_cases h : inner = []
 · rw [if_pos h, h]; rfl
 · rw [if_neg h, names_of, join_split]
def atomPutL (a : GA) : List UInt8 := if atomOkB a = true then atomL a else []

/-- As the reference reads an atom. -/
def specAtom (l : List UInt8) : Option GA :=
 match splitL 40 l with
 | [p, q] => if l.length ≤ 1500 ∧ q ≠ [] ∧ atomPutL ⟨strOf p, argsOf q.dropLast⟩ = l then some ⟨strOf p, argsOf q.dropLast⟩ else none
 | _ => none
theorem specAtom_eq (l : List UInt8) : specAtom l = atomOf l := by
 cases h : atomOf l with
 | some a =>
   obtain ⟨h1, h2⟩ := atomOf_is h
   have hs := atom_split h1
   have hp := atom_parts h1
   unfold specAtom
   rw [← h2, hs]
   have e : (⟨strOf a.n.data.toList, argsOf (namesL a.args ++ [41]).dropLast⟩ : GA) = a := by
    rw [List.dropLast_concat, argsOf_names hp.2.2]
    rfl
   show (if _ then _ else _) = _
   rw [e, if_pos]
   refine ⟨Nat.le_trans (atomL_ok_len h1) (by omega), by simp, ?_⟩
   unfold atomPutL
   rw [if_pos h1]
 | none =>
   unfold specAtom
   split
   · rename_i p q hs
     rw [if_neg]
     rintro ⟨_, hq, hput⟩
     have hl : l ≠ [] := by
      intro e
      subst e
      simp [splitL] at hs
     unfold atomPutL at hput
     split at hput
     · rename_i hok
       rw [← hput, atomOf_some hok] at h
       cases h
     · exact hl hput.symm
   · rfl

theorem index_one (c : UInt8) : ∀ l : List UInt8, (c ∉ l ∧ Lib.index l [c] = -1) ∨ ∃ p r, l = p ++ c :: r ∧ c ∉ p ∧ Lib.index l [c] = p.length
 | [] => .inl ⟨by simp, rfl⟩
 | x :: l => by
   by_cases hx : c = x
   · subst hx
     exact .inr ⟨[], l, rfl, by simp, by unfold Lib.index; simp⟩
   · have hpre : List.isPrefixOf [c] (x :: l) = false := by simp [List.isPrefixOf, hx]
     rcases index_one c l with ⟨h1, h2⟩ | ⟨p, r, rfl, h1, h2⟩
     · refine .inl ⟨by simp [hx, h1], ?_⟩
       unfold Lib.index; rw [hpre, h2]; rfl
     · refine .inr ⟨x :: p, r, rfl, by simp [hx, h1], ?_⟩
       unfold Lib.index
       rw [hpre, h2]
       have : ((p.length : Int) == -1) = false := by rw [beq_eq_false_iff_ne]; omega
       rw [this]
       simp
theorem cut_one (c : UInt8) (l : List UInt8) : (c ∉ l ∧ Lib.cut l [c] = (l, [], false)) ∨ ∃ p r, l = p ++ c :: r ∧ c ∉ p ∧ Lib.cut l [c] = (p, r, true) := by
 rcases index_one c l with ⟨h1, h2⟩ | ⟨p, r, h0, h1, h2⟩
 · refine .inl ⟨h1, ?_⟩
   unfold Lib.cut; rw [h2]; rfl
 · refine .inr ⟨p, r, h0, h1, ?_⟩
   unfold Lib.cut
   rw [h2, if_pos (by omega), h0]
   simp

/-- As the program reads an atom. -/
def implAtom (l : List UInt8) : Option GA :=
 if l.length ≤ 1500 ∧ (Lib.cut l [40]).2.2 = true ∧ (Lib.cut l [40]).2.1.getLast? = some 41 ∧ atomOkB ⟨strOf (Lib.cut l [40]).1, argsOf (Lib.cut l [40]).2.1.dropLast⟩ = true then some ⟨strOf (Lib.cut l [40]).1, argsOf (Lib.cut l [40]).2.1.dropLast⟩ else none
theorem implAtom_eq (l : List UInt8) : implAtom l = atomOf l := by
 cases h : atomOf l with
 | some a =>
   obtain ⟨h1, h2⟩ := atomOf_is h
   have hp := atom_parts h1
   have hl : l = a.n.data.toList ++ 40 :: (namesL a.args ++ [41]) := by rw [← h2]; unfold atomL; simp
   have hn : (40 : UInt8) ∉ a.n.data.toList := fun hc => okByte_ne (name_ok hp.1 40 hc) 40 rfl rfl
   have hc : Lib.cut l [40] = (a.n.data.toList, namesL a.args ++ [41], true) := by
    rcases cut_one 40 l with ⟨h3, _⟩ | ⟨p, r, h3, h4, h5⟩
    · exact absurd (by rw [hl]; simp) h3
    · have e1 := splitL_app (l := r) h4
      have e2 := splitL_app (l := namesL a.args ++ [41]) hn
      rw [← h3] at e1
      rw [← hl, e1] at e2
      have e3 : p = a.n.data.toList := by injection e2
      rw [h3, e3] at hl
      have e4 := List.append_cancel_left hl
      injection e4 with _ e4
      rw [h5, e3, e4]
   have e : (⟨strOf a.n.data.toList, argsOf (namesL a.args ++ [41]).dropLast⟩ : GA) = a := by
    rw [List.dropLast_concat, argsOf_names hp.2.2]
    rfl
   unfold implAtom
   rw [hc]
   simp only [e]
   rw [if_pos]
   exact ⟨by rw [← h2]; exact Nat.le_trans (atomL_ok_len h1) (by omega), trivial, by simp, h1⟩
 | none =>
   unfold implAtom
   rw [if_neg]
   rintro ⟨_, h2, h3, h4⟩
   rcases cut_one 40 l with ⟨_, h5⟩ | ⟨p, r, h5, _, h6⟩
   · rw [h5] at h2; cases h2
   · rw [h6] at h3 h4
     have hr : r = r.dropLast ++ [41] := by
      have hne : r ≠ [] := by intro e; subst e; cases h3
      have h7 := List.dropLast_concat_getLast hne
      have h8 : r.getLast hne = 41 := by
       rw [List.getLast?_eq_some_getLast hne] at h3
       injection h3
      rw [h8] at h7
      exact h7.symm
     have : atomL ⟨strOf p, argsOf r.dropLast⟩ = l := by
      unfold atomL
      rw [names_argsOf, list_strOf, h5]
      conv => rhs; rw [hr]
      simp
     rw [← this, atomOf_some h4] at h
     cases h

/-! ### Changes -/
def noneC : GC := ⟨[], []⟩
noncomputable def wordSpec (w : List UInt8) (g : GC) : Option GC :=
 match w with
 | [] => none
 | x :: r => (atomOf r).map fun a => if x = 45 then ⟨g.comes, g.goes ++ [a]⟩ else ⟨g.comes ++ [a], g.goes⟩
noncomputable def wordImpl (w : List UInt8) (g : GC) : Option GC :=
 match w with
 | [] => none
 | x :: r => (atomOf r).bind fun a => if x = 45 ∧ g.comes = [] then some ⟨g.comes, g.goes ++ [a]⟩ else if x = 43 then some ⟨g.comes ++ [a], g.goes⟩ else none
theorem wordSpec_cons (x : UInt8) (r : List UInt8) (g : GC) : wordSpec (x :: r) g = (atomOf r).map fun a => if x = 45 then ⟨g.comes, g.goes ++ [a]⟩ else ⟨g.comes ++ [a], g.goes⟩ := rfl
theorem wordImpl_cons (x : UInt8) (r : List UInt8) (g : GC) : wordImpl (x :: r) g = (atomOf r).bind fun a => if x = 45 ∧ g.comes = [] then some ⟨g.comes, g.goes ++ [a]⟩ else if x = 43 then some ⟨g.comes ++ [a], g.goes⟩ else none := rfl
noncomputable def specFold : List (List UInt8) → GC → Option GC
 | [], g => some g
 | w :: ws, g => match ws with
   | [] => some g
   | _ :: _ => (wordSpec w g).bind fun g' => specFold ws g'
noncomputable def implFold : List (List UInt8) → GC → Option GC
 | [], _ => none
 | w :: ws, g => match ws with
   | [] => if w = [] then some g else none
   | _ :: _ => (wordImpl w g).bind fun g' => implFold ws g'
theorem specFold_two (w p : List UInt8) (q : List (List UInt8)) (g : GC) : specFold (w :: p :: q) g = (wordSpec w g).bind fun g' => specFold (p :: q) g' := rfl
theorem implFold_two (w p : List UInt8) (q : List (List UInt8)) (g : GC) : implFold (w :: p :: q) g = (wordImpl w g).bind fun g' => implFold (p :: q) g' := rfl

open Classical in
noncomputable def changeOf (l : List UInt8) : Option GC := if h : ∃ g, changeOkB g = true ∧ changeL g = l then some h.choose else none
theorem changeOk_ok {g : GC} (h : changeOkB g = true) : (∀ a ∈ g.comes, atomOkB a = true) ∧ ∀ a ∈ g.goes, atomOkB a = true := by
 unfold changeOkB at h
 simp only [Bool.and_eq_true] at h
 have key : ∀ xs, factsB xs 300 = true → ∀ a ∈ xs, atomOkB a = true := fun xs hx a ha => by
  unfold factsB at hx
  simp only [Bool.and_eq_true] at hx
  exact factB_ok (List.all_eq_true.1 hx.1.1 a ha)
 exact ⟨key _ h.1.1, key _ h.1.2⟩
theorem words_ne {c : UInt8} (l : List GA) (m : List (List UInt8)) (hm : m ≠ []) : ∃ p q, wordsOf c l ++ m = p :: q := by
 cases l with
 | nil => cases m with
   | nil => exact absurd rfl hm
   | cons p q => exact ⟨p, q, rfl⟩
 | cons a l => exact ⟨_, _, rfl⟩
theorem specFold_goes : ∀ (l : List GA) (m : List (List UInt8)) (g : GC), m ≠ [] → (∀ a ∈ l, atomOkB a = true) → specFold (wordsOf 45 l ++ m) g = specFold m ⟨g.comes, g.goes ++ l⟩
 | [], m, g, _, _ => by simp [wordsOf]
 | a :: l, m, g, hm, h => by
   have ih := specFold_goes l m ⟨g.comes, g.goes ++ [a]⟩ hm (fun a ha => h a (List.mem_cons_of_mem _ ha))
   obtain ⟨p, q, hpq⟩ := words_ne (c := 45) l m hm
   show specFold ((45 :: atomL a) :: (wordsOf 45 l ++ m)) g = _
   rw [hpq] at ih ⊢
   have hw : wordSpec (45 :: atomL a) g = some ⟨g.comes, g.goes ++ [a]⟩ := by rw [wordSpec_cons, atomOf_some (h a (by simp))]; rfl
   rw [specFold_two, hw, Option.bind_some, ih, List.append_assoc]
   rfl
theorem specFold_comes : ∀ (l : List GA) (m : List (List UInt8)) (g : GC), m ≠ [] → (∀ a ∈ l, atomOkB a = true) → specFold (wordsOf 43 l ++ m) g = specFold m ⟨g.comes ++ l, g.goes⟩
 | [], m, g, _, _ => by simp [wordsOf]
 | a :: l, m, g, hm, h => by
   have ih := specFold_comes l m ⟨g.comes ++ [a], g.goes⟩ hm (fun a ha => h a (List.mem_cons_of_mem _ ha))
   obtain ⟨p, q, hpq⟩ := words_ne (c := 43) l m hm
   show specFold ((43 :: atomL a) :: (wordsOf 43 l ++ m)) g = _
   rw [hpq] at ih ⊢
   have hw : wordSpec (43 :: atomL a) g = some ⟨g.comes ++ [a], g.goes⟩ := by rw [wordSpec_cons, atomOf_some (h a (by simp))]; rfl
   rw [specFold_two, hw, Option.bind_some, ih, List.append_assoc]
   rfl
theorem implFold_goes : ∀ (l : List GA) (m : List (List UInt8)) (g : GC), m ≠ [] → g.comes = [] → (∀ a ∈ l, atomOkB a = true) → implFold (wordsOf 45 l ++ m) g = implFold m ⟨g.comes, g.goes ++ l⟩
 | [], m, g, _, _, _ => by simp [wordsOf]
 | a :: l, m, g, hm, hg, h => by
   have ih := implFold_goes l m ⟨g.comes, g.goes ++ [a]⟩ hm hg (fun a ha => h a (List.mem_cons_of_mem _ ha))
   obtain ⟨p, q, hpq⟩ := words_ne (c := 45) l m hm
   show implFold ((45 :: atomL a) :: (wordsOf 45 l ++ m)) g = _
   rw [hpq] at ih ⊢
   have hw : wordImpl (45 :: atomL a) g = some ⟨g.comes, g.goes ++ [a]⟩ := by
    rw [wordImpl_cons, atomOf_some (h a (by simp)), Option.bind_some]
    exact if_pos ⟨rfl, hg⟩
   rw [implFold_two, hw, Option.bind_some, ih, List.append_assoc]
   rfl
theorem implFold_comes : ∀ (l : List GA) (m : List (List UInt8)) (g : GC), m ≠ [] → (∀ a ∈ l, atomOkB a = true) → implFold (wordsOf 43 l ++ m) g = implFold m ⟨g.comes ++ l, g.goes⟩
 | [], m, g, _, _ => by simp [wordsOf]
 | a :: l, m, g, hm, h => by
   have ih := implFold_comes l m ⟨g.comes ++ [a], g.goes⟩ hm (fun a ha => h a (List.mem_cons_of_mem _ ha))
   obtain ⟨p, q, hpq⟩ := words_ne (c := 43) l m hm
   show implFold ((43 :: atomL a) :: (wordsOf 43 l ++ m)) g = _
   rw [hpq] at ih ⊢
   have hw : wordImpl (43 :: atomL a) g = some ⟨g.comes ++ [a], g.goes⟩ := by
    rw [wordImpl_cons, atomOf_some (h a (by simp)), Option.bind_some]
    exact (if_neg (by rintro ⟨e, _⟩; exact absurd e (by decide))).trans (if_pos rfl)
   rw [implFold_two, hw, Option.bind_some, ih, List.append_assoc]
   rfl
theorem spec_reads {g : GC} (h : changeOkB g = true) : specFold (splitL 32 (changeL g)) noneC = some g := by
 obtain ⟨h1, h2⟩ := changeOk_ok h
 rw [change_split h1 h2, specFold_goes _ _ _ (by simp) h2, specFold_comes _ _ _ (by simp) h1]
 rfl
theorem impl_reads {g : GC} (h : changeOkB g = true) : implFold (splitL 32 (changeL g)) noneC = some g := by
 obtain ⟨h1, h2⟩ := changeOk_ok h
 rw [change_split h1 h2, implFold_goes _ _ _ (by simp) rfl h2, implFold_comes _ _ _ (by simp) h1]
 rfl
theorem changeOf_some {g : GC} (h : changeOkB g = true) : changeOf (changeL g) = some g := by
 have hx : ∃ b, changeOkB b = true ∧ changeL b = changeL g := ⟨g, h, rfl⟩
 unfold changeOf
 rw [dif_pos hx]
 have h1 := spec_reads hx.choose_spec.1
 rw [hx.choose_spec.2, spec_reads h] at h1
 exact h1.symm
theorem changeOf_is {l : List UInt8} {g : GC} (h : changeOf l = some g) : changeOkB g = true ∧ changeL g = l := by
 unfold changeOf at h
 split at h
 · rename_i hx
   injection h with h
   exact h ▸ hx.choose_spec
 · cases h

noncomputable def specChange (l : List UInt8) : Option GC := match specFold (splitL 32 l) noneC with | none => none | some g => if changePutL g = l then some g else none
theorem specChange_eq (l : List UInt8) : specChange l = changeOf l := by
 cases h : changeOf l with
 | some g =>
   obtain ⟨h1, h2⟩ := changeOf_is h
   unfold specChange
   rw [← h2, spec_reads h1]
   show (if _ then _ else _) = _
   rw [if_pos]
   unfold changePutL
   rw [if_pos h1]
 | none =>
   unfold specChange
   cases hf : specFold (splitL 32 l) noneC with
   | none => rfl
   | some g =>
     show (if _ then _ else _) = _
     rw [if_neg]
     intro hp
     unfold changePutL at hp
     split at hp
     · rename_i hok
       rw [← hp, changeOf_some hok] at h
       cases h
     · subst hp
       have hg : g = noneC := by
        have : specFold (splitL 32 []) noneC = some noneC := rfl
        rw [this] at hf
        injection hf with hf
        exact hf.symm
       have : changeOf (changeL noneC) = some noneC := changeOf_some rfl
       rw [show changeL noneC = [] from rfl, h] at this
       cases this

theorem signedL_snoc (c : UInt8) (l : List GA) (a : GA) : signedL c (l ++ [a]) = signedL c l ++ ((c :: atomL a) ++ [32]) := by simp [signedL]
theorem wordImpl_text {w : List UInt8} {g g1 : GC} (h : wordImpl w g = some g1) : changeL g1 = changeL g ++ (w ++ [32]) := by
 cases w with
 | nil => cases h
 | cons x r =>
   rw [wordImpl_cons] at h
   cases ha : atomOf r with
   | none => rw [ha] at h; cases h
   | some a =>
     obtain ⟨_, hr⟩ := atomOf_is ha
     rw [ha, Option.bind_some] at h
     split at h
     · rename_i hx
       obtain ⟨rfl, hg⟩ := hx
       injection h with h
       subst h
       unfold changeL
       rw [signedL_snoc, hg, hr]
       simp [signedL]
     · split at h
       · rename_i hx
         subst hx
         injection h with h
         subst h
         unfold changeL
         rw [signedL_snoc, hr]
         simp
       · cases h
theorem implFold_join : ∀ (ws : List (List UInt8)) (g g' : GC), implFold ws g = some g' → changeL g' = changeL g ++ joinL 32 ws
 | [], g, g', h => by cases h
 | [w], g, g', h => by
   have h2 : (if w = [] then some g else none) = some g' := h
   split at h2
   · rename_i hw
     subst hw
     injection h2 with h2
     subst h2
     show _ = _ ++ []
     rw [List.append_nil]
   · cases h2
 | w :: w2 :: ws, g, g', h => by
   rw [implFold_two] at h
   cases hw : wordImpl w g with
   | none => rw [hw] at h; cases h
   | some g1 =>
     rw [hw, Option.bind_some] at h
     rw [implFold_join (w2 :: ws) g1 g' h, wordImpl_text hw]
     show _ = _ ++ (w ++ 32 :: joinL 32 (w2 :: ws))
     simp

noncomputable def implChange (l : List UInt8) : Option GC := match implFold (splitL 32 l) noneC with | none => none | some g => if changeOkB g = true then some g else none
theorem implChange_eq (l : List UInt8) : implChange l = changeOf l := by
 cases h : changeOf l with
 | some g =>
   obtain ⟨h1, h2⟩ := changeOf_is h
   unfold implChange
   rw [← h2, impl_reads h1]
   show (if _ then _ else _) = _
   rw [if_pos h1]
 | none =>
   unfold implChange
   cases hf : implFold (splitL 32 l) noneC with
   | none => rfl
   | some g =>
     show (if _ then _ else _) = _
     rw [if_neg]
     intro hok
     have hj := implFold_join _ _ _ hf
     rw [join_split, show changeL noneC = [] from rfl, List.nil_append] at hj
     rw [← hj, changeOf_some hok] at h
     cases h

end Go.Proofs.YtmihponoillihaaGreatDoor
