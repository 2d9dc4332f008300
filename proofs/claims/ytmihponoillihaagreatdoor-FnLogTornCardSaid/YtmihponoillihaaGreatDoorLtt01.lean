/- Proved here, for all inputs and without conditions: the given statement of the law FnLogTorn. -/
import Derived.ProofKit
import Derived.Deep.Slices
import Derived.Deep.Fields
import Derived.ChangeSame
import Derived.Laws.IdiomStrings
import Derived.Laws.BitsAllLaws
import Derived.Test.YtmihponoillihaaGreatDoorBas30
import Derived.Test.YtmihponoillihaaGreatDoorBas32
import Derived.WideKeyArgs
import Derived.ChangeSlices
import Derived.HandedShaped
import Derived.Shelf.Vars
import Derived.Test.YtmihponoillihaaGreatDoorTie
import Derived.LaidMore
import Derived.OpenShut
import Derived.MakeChecks
import Derived.Stop.LaidErr
import Derived.Lay
import Derived.Stop.Joined
import Derived.Test.YtmihponoillihaaGreatDoorLttC
import Derived.Test.YtmihponoillihaaGreatDoorLttD
set_option linter.unusedSimpArgs false
set_option linter.unusedVariables false
namespace Go.Proofs.YtmihponoillihaaGreatDoor
open Go.RowKit Go.ChangeShapes Go.WideShapes Go.Deep
section
variable {H : Type} {enc : TypeId × Value → H} {P : Program} {w : World} {base : Nat} {spare : Nat → Bool} {held : Bool}
theorem cell_addr {w : World} {a : Addr} {u : Value} (h : w.cell? a = some u) : a = ⟨a.block, a.off, none⟩ := by
 obtain ⟨b, o, s⟩ := a
 cases s with
 | none => rfl
 | some s => simp only [World.cell?] at h; split at h <;> simp at h
end
section
variable {H : Type} {enc : TypeId × Value → H} {w : World} {base : Nat} {spare : Nat → Bool} {held : Bool} {fuel : Nat} {v : Value} {x : DataW H × List MemPlace}
end
end Go.Proofs.YtmihponoillihaaGreatDoor
namespace Go.Proofs.YtmihponoillihaaGreatDoor
open Go.RowKit
def sumFrom (s : Int) (l : List UInt8) : Int := l.foldl (fun s c => (s * 31 + (c.toNat : Int) + 7) % 1000003) s
theorem sum_step (s t : Int) (hs : 0 ≤ s ∧ s < 1000003) (ht : 0 ≤ t ∧ t < 1000003) (h : s ≠ t) (c : Nat) : (s * 31 + (c : Int) + 7) % 1000003 ≠ (t * 31 + (c : Int) + 7) % 1000003 := by omega
theorem sumFrom_ne : ∀ (l : List UInt8) (s t : Int), 0 ≤ s ∧ s < 1000003 → 0 ≤ t ∧ t < 1000003 → s ≠ t → sumFrom s l ≠ sumFrom t l
 | [], _, _, _, _, h => h
 | c :: l, s, t, hs, ht, h => sumFrom_ne l ((s * 31 + (c.toNat : Int) + 7) % 1000003) ((t * 31 + (c.toNat : Int) + 7) % 1000003) (by omega) (by omega) (sum_step s t hs ht h c.toNat)
theorem sum_turn (p q : List UInt8) (c d : UInt8) (h : c ≠ d) : sumI (p ++ c :: q) ≠ sumI (p ++ d :: q) := by
 have hb := sumI_bd p
 have e : ∀ x : UInt8, sumI (p ++ x :: q) = sumFrom ((sumI p * 31 + (x.toNat : Int) + 7) % 1000003) q := fun x => by
  unfold sumI sumFrom; rw [List.foldl_append]; rfl
 rw [e, e]; have hc := c.toNat_lt; have hd := d.toNat_lt
 have hn : c.toNat ≠ d.toNat := fun e => h (UInt8.toNat_inj.1 e)
 exact sumFrom_ne q _ _ (by omega) (by omega) (by omega)
theorem bytes_new {P : Program} (w : World) (src dst e : TypeId) (s : ByteArray) (hs : P.underlying src = some .string) (hd : P.underlying dst = some (.slice e)) (he : P.underlying e = some (.int .u8)) (h63 : s.size ≤ maxLen) :
 ∃ cap W, (convert src dst (.string s)).run P w = .ok (.slice (some ⟨w.heap.size, 0, none⟩) s.size cap) W ∧ s.size ≤ cap ∧ cap ≤ maxLen ∧ Below w.heap.size w W ∧ w.heap.size < W.heap.size ∧
   (∀ j (hj : j < s.size), W.cell? ⟨w.heap.size, j, none⟩ = some (.int .u8 (s[j].toNat : Int))) ∧ ∀ j, j < s.size → W.frozen? ⟨w.heap.size, j, none⟩ = false := by
 refine ⟨_, _, run_bytes_of_string w src dst e s hs hd he, grownCap_ge _ _ _ _, grownCap_le_maxLen _ _ _ _ h63, Below.alloc (Below.drew (Below.refl _ _)) (Nat.le_refl _) _, by simp, fun j hj => ?_, fun j hj => ?_⟩
 · have h := World.cell?_alloc_mark w.drew (bytesRow s (grownCap w s.size 0 e)) e ((bytesRow s (grownCap w s.size 0 e)).size, (bytesRow s (grownCap w s.size 0 e)).size + 1) j
   exact h.trans (bytesRow_at s _ j hj)
 have h := World.frozen?_alloc_mark w.drew (bytesRow s (grownCap w s.size 0 e)) e (bytesRow s (grownCap w s.size 0 e)).size ((bytesRow s (grownCap w s.size 0 e)).size + 1) j; refine h.trans ?_
 have : (bytesRow s (grownCap w s.size 0 e)).size ≥ s.size := by unfold bytesRow; rw [Array.size_append, Array.size_map]; exact Nat.le_add_right _ _
 rw [decide_eq_false (by omega)]
 rfl
theorem xor_ne (c : UInt8) (d : Nat) (h1 : 1 ≤ d) (h2 : d ≤ 255) : ∃ z : UInt8, bits .xor .u8 (c.toNat : Int) (d : Int) = (z.toNat : Int) ∧ z ≠ c := by
 have hc := c.toNat_lt; have h3 : c.toNat ^^^ d < 256 := Nat.xor_lt_two_pow (n := 8) (by omega) (by omega); refine ⟨UInt8.ofNat (c.toNat ^^^ d), ?_, ?_⟩
 · have e : (UInt8.ofNat (c.toNat ^^^ d)).toNat = c.toNat ^^^ d := by rw [UInt8.toNat_ofNat']; exact Nat.mod_eq_of_lt (by omega)
   rw [e]
   have o : ∀ a : Nat, a < 256 → (BitVec.ofInt 8 (a : Int)).toNat = a := fun a ha => by rw [BitVec.ofInt_natCast, BitVec.toNat_ofNat]; exact Nat.mod_eq_of_lt (by omega)
   show IntKind.u8.wrap ((BitVec.ofInt 8 (c.toNat : Int) ^^^ BitVec.ofInt 8 (d : Int)).toNat : Int) = _; rw [BitVec.toNat_xor, o _ (by omega), o _ (by omega)]; unfold IntKind.wrap; simp [IntKind.bits, IntKind.signed]; omega
 intro e
 have : c.toNat ^^^ d = c.toNat := by
  have := congrArg UInt8.toNat e; rw [UInt8.toNat_ofNat', Nat.mod_eq_of_lt (by omega)] at this; exact this
 have h4 : c.toNat ^^^ (c.toNat ^^^ d) = 0 := by rw [this, Nat.xor_self]
 rw [← Nat.xor_assoc, Nat.xor_self, Nat.zero_xor] at h4; omega
def decVal (l : List UInt8) : Nat := l.foldl (fun n c => n * 10 + (c.toNat - 48)) 0
theorem dec_val (n : Nat) : decVal (Lib.decDigits n) = n := by
 induction n using Nat.strongRecOn with
 | _ n ih =>
   rw [Lib.decDigits]
   split
   · have : (UInt8.ofNat (48 + n)).toNat = 48 + n := UInt8.toNat_ofNat_of_lt' (by show _ < 256; omega)
     simp only [decVal, List.foldl_cons, List.foldl_nil, this]; omega
   have : (UInt8.ofNat (48 + n % 10)).toNat = 48 + n % 10 := UInt8.toNat_ofNat_of_lt' (by show _ < 256; omega); have h := ih (n / 10) (by omega); unfold decVal at h ⊢; rw [List.foldl_append, h]; simp only [List.foldl_cons, List.foldl_nil, this]; omega
theorem dec_inj {m n : Nat} (h : Lib.decDigits m = Lib.decDigits n) : m = n := by rw [← dec_val m, h, dec_val]
inductive Pcs : List UInt8 → Prop
 | nil : Pcs []
 | cons {c : UInt8} {b r : List UInt8} (hc : signB c) (hb : (32 : UInt8) ∉ b) (hr : Pcs r) : Pcs (c :: (b ++ 32 :: r))
theorem pcs_app {a b : List UInt8} (ha : Pcs a) (hb : Pcs b) : Pcs (a ++ b) := by
 induction ha with
 | nil => exact hb
 | cons hc h32 hr ih =>
   rw [List.cons_append, List.append_assoc, List.cons_append]; exact .cons hc h32 ih
theorem pcs_signed {c : UInt8} (hc : signB c) : ∀ {l : List GA}, (∀ a ∈ l, atomOkB a = true) → Pcs (signedL c l)
 | [], _ => .nil
 | a :: l, h => by
   have e : signedL c (a :: l) = c :: (atomL a ++ 32 :: signedL c l) := by simp [signedL]
   rw [e]; exact .cons hc (atomL_no (h a List.mem_cons_self) 32 (by decide) (by decide) (by decide) (by decide)) (pcs_signed hc fun x hx => h x (List.mem_cons_of_mem _ hx))
theorem pcs_change {g : GC} (h : changeOkB g = true) : Pcs (changeL g) := by
 obtain ⟨h1, h2⟩ := okC_atoms h; exact pcs_app (pcs_signed (.inr rfl) h2) (pcs_signed (.inl rfl) h1)
theorem pcs_cut {T : List UInt8} (hT : Pcs T) : ∀ {T' : List UInt8}, Pcs T' → ∀ {d d' : UInt8} {r r' : List UInt8}, ¬ signB d → ¬ signB d' → T ++ d :: r = T' ++ d' :: r' → T = T' ∧ d :: r = d' :: r' := by
 induction hT with
 | nil =>
   intro T' hT' d d' r r' hd hd' e
   cases hT' with
   | nil => exact ⟨rfl, e⟩
   | cons hc _ _ =>
     rw [List.nil_append, List.cons_append] at e
     injection e with e _
     exact absurd (e ▸ hc) hd
 | cons hc h32 hr ih =>
   rename_i c b q; intro T' hT' d d' r r' hd hd' e
   cases hT' with
   | nil =>
     rw [List.nil_append, List.cons_append] at e
     injection e with e _
     exact absurd (e ▸ hc) hd'
   | cons hc' h32' hr' =>
     rename_i c' b' q'; rw [List.cons_append, List.cons_append, List.append_assoc, List.append_assoc, List.cons_append, List.cons_append] at e
     injection e with e1 e2
     have e3 := congrArg (splitL 32) e2; rw [splitL_app h32, splitL_app h32'] at e3
     injection e3 with e4 _
     subst e1; subst e4; have e5 := List.append_cancel_left e2
     injection e5 with _ e5
     obtain ⟨k1, k2⟩ := ih hr' hd hd' e5; exact ⟨by rw [k1], k2⟩
theorem line_ext {t : Nat} {g g' : GC} {l l' z z' : List UInt8} (hg : changeOkB g = true) (hg' : changeOkB g' = true) (h : logLine t (changeL g) = l ++ [10]) (h' : logLine t (changeL g') = l' ++ [10]) (e : l ++ z = l' ++ z') : z = z' := by
 obtain ⟨d, q, a1, a2, a3, a4⟩ := line_parts t g; obtain ⟨d', q', b1, b2, b3, b4⟩ := line_parts t g'; rw [h, ← List.append_assoc, ← List.append_assoc] at a1; rw [h', ← List.append_assoc, ← List.append_assoc] at b1; have a5 := List.append_cancel_right a1; have b5 := List.append_cancel_right b1; rw [a5, b5] at e
 have e1 : (Lib.decDigits t ++ [58]) ++ (changeL g ++ d :: (q ++ z)) = (Lib.decDigits t ++ [58]) ++ (changeL g' ++ d' :: (q' ++ z')) := by simpa using e
 have e2 := List.append_cancel_left e1; obtain ⟨k1, k2⟩ := pcs_cut (pcs_change hg) (pcs_change hg') a3 b3 e2
 have k3 : d :: q = d' :: q' := by rw [a2, b2, k1]
 injection k3 with k3 k4
 subst k3; subst k4
 injection k2 with _ k2
 exact List.append_cancel_left k2
theorem set_app_left {α : Type} {a b : List α} {k : Nat} {c : α} (h : k < a.length) : (a ++ b).set k c = a.set k c ++ b := by rw [List.set_append, if_pos h]
theorem set_app_right {α : Type} {a b : List α} {k : Nat} {c : α} (h : a.length ≤ k) : (a ++ b).set k c = a ++ b.set (k - a.length) c := by rw [List.set_append, if_neg (by omega)]
theorem set_ne {α : Type} {a : List α} {k : Nat} {c : α} (h : k < a.length) (hc : c ≠ a[k]) : a.set k c ≠ a := fun e => by
 have : (a.set k c)[k]'(by simpa using h) = a[k] := by simp [e]
 rw [List.getElem_set_self] at this; exact hc this
theorem line_turn {t : Nat} {g : GC} {l : List UInt8} (hg : changeOkB g = true) (h : logLine t (changeL g) = l ++ [10]) {k : Nat} (hk : k < l.length) {c : UInt8} (hc : c ≠ l[k]) : recOf t (l.set k c) = none := by
 apply recOf_none
 intro g' hg' h'; obtain ⟨d, q, a1, a2, a3, a4⟩ := line_parts t g; obtain ⟨d', q', b1, b2, b3, b4⟩ := line_parts t g'; rw [h, ← List.append_assoc, ← List.append_assoc] at a1; rw [h', ← List.append_assoc, ← List.append_assoc] at b1; have a5 := List.append_cancel_right a1; have b5 := List.append_cancel_right b1
 obtain ⟨P, hP⟩ : ∃ P, P = Lib.decDigits t ++ [58] := ⟨_, rfl⟩
 rw [← hP, List.append_assoc] at a5 b5
 have hset : (P ++ (changeL g ++ d :: q)).set k c = P ++ (changeL g' ++ d' :: q') := by rw [← a5]; exact b5
 have hne : (P ++ (changeL g ++ d :: q)).set k c ≠ P ++ (changeL g ++ d :: q) := by
  rw [← a5]; exact set_ne hk hc
 have hkl : k < P.length + ((changeL g).length + (d :: q).length) := by have := congrArg List.length a5; simp only [List.length_append] at this; omega
 have hlen : (d :: q).length + (changeL g).length = (d' :: q').length + (changeL g').length := by
  have := congrArg List.length hset; simp only [List.length_set, List.length_append] at this; omega
 by_cases hp : k < P.length
 · rw [set_app_left hp] at hset hne
   have e1 := congrArg (List.take P.length) hset; rw [List.take_left' (by simp), List.take_left' rfl] at e1; exact hne (by rw [e1])
 rw [set_app_right (by omega)] at hset hne; have e2 := List.append_cancel_left hset
 have hne2 : (changeL g ++ d :: q).set (k - P.length) c ≠ changeL g ++ d :: q := fun e => hne (by rw [e])
 obtain ⟨i, hi⟩ : ∃ i, i = k - P.length := ⟨_, rfl⟩
 rw [← hi] at e2 hne2
 by_cases hT : i < (changeL g).length
 · rw [set_app_left hT] at e2 hne2
   have hqs : (32 : UInt8) ∉ d :: q := fun h => (a4 _ h).2 rfl
   have hqs' : (32 : UInt8) ∉ d' :: q' := fun h => (b4 _ h).2 rfl
   have u1 := congrArg (upTo 32) e2; rw [upTo_end (change_ends g') hqs'] at u1
   by_cases hend : endsIn 32 ((changeL g).set i c)
   · rw [upTo_end hend hqs] at u1
     rw [u1] at e2; have e3 := List.append_cancel_left e2
     have e4 : Lib.decDigits (sumI (logHead t (changeL g))).toNat = Lib.decDigits (sumI (logHead t (changeL g'))).toNat := by rw [← a2, ← b2]; exact e3
     have e5 := dec_inj e4; have s1 := sumI_bd (logHead t (changeL g)); have s2 := sumI_bd (logHead t (changeL g'))
     have e6 : sumI (logHead t (changeL g)) = sumI (logHead t (changeL g')) := by omega
     have hh : ∀ x, logHead (t : Int) x = P ++ x := fun x => by rw [hP]; rfl
     rw [hh, hh, ← u1, ← List.take_append_drop i (changeL g)] at e6; have hlt : i < (changeL g).length := hT
     have hs : (changeL g).set i c = (changeL g).take i ++ c :: (changeL g).drop (i + 1) := by rw [List.set_eq_take_append_cons_drop, if_pos hlt]
     have hg0 : changeL g = (changeL g).take i ++ (changeL g)[i] :: (changeL g).drop (i + 1) := by rw [← List.drop_eq_getElem_cons hlt, List.take_append_drop]
     rw [List.take_append_drop, hs] at e6
     have hcc : (changeL g)[i] ≠ c := fun e => hne2 (by
      rw [hs, ← e, ← hg0])
     exact sum_turn (P ++ (changeL g).take i) ((changeL g).drop (i + 1)) (changeL g)[i] c hcc (by
      rw [List.append_assoc, List.append_assoc, ← hg0]; exact e6)
   rcases change_ends g with hnil | ⟨p, hp2⟩
   · rw [hnil] at hT; simp at hT
   have hlast : i = p.length := by
     rcases Nat.lt_or_ge i p.length with h | h
     · exact absurd (show endsIn 32 ((changeL g).set i c) from .inr ⟨p.set i c, by rw [hp2, set_app_left h]⟩) hend
     rw [hp2] at hT; simp at hT; omega
   have hs : (changeL g).set i c = p ++ [c] := by rw [hp2, hlast, set_app_right (Nat.le_refl _), Nat.sub_self]; rfl
   have hc32 : c ≠ 32 := fun e => hend (.inr ⟨p, by rw [hs, e]⟩)
   rw [hs] at e2 u1
   have n32 : (32 : UInt8) ∉ c :: d :: q := by simp only [List.mem_cons, not_or] at hqs ⊢; exact ⟨fun e => hc32 e.symm, hqs⟩
   obtain ⟨z, hz, hz32⟩ : ∃ z, p = changeL g' ++ z ∧ (32 : UInt8) ∉ z := by
    by_cases h32 : (32 : UInt8) ∈ p
    · obtain ⟨a, b, rfl, hb⟩ := last_of h32
      refine ⟨b, ?_, hb⟩
      have : upTo 32 ((a ++ 32 :: b) ++ [c] ++ d :: q) = a ++ [32] := by
       rw [show (a ++ 32 :: b) ++ [c] ++ d :: q = a ++ 32 :: (b ++ c :: d :: q) from by simp]; exact upTo_app a (by rw [List.mem_append, not_or]; exact ⟨hb, n32⟩)
      rw [this] at u1; rw [← u1]; simp
    have : upTo 32 (p ++ [c] ++ d :: q) = [] := upTo_none (by
      rw [List.append_assoc, List.mem_append, not_or]; exact ⟨h32, n32⟩)
    rw [this] at u1; exact ⟨p, by rw [← u1]; rfl, h32⟩
   have e7 : z ++ [c] ++ d :: q = d' :: q' := by
    rw [hz, List.append_assoc, List.append_assoc] at e2; have := List.append_cancel_left e2; simpa using this
   have hTT : changeL g ++ d :: q = changeL g' ++ (z ++ 32 :: d :: q) := by rw [hp2, hz]; simp
   cases z with
   | nil =>
     have h9 := pcs_cut (pcs_change hg) (pcs_change hg') a3 (show ¬ signB 32 from by rintro (h | h) <;> exact absurd h (by decide)) (by simpa using hTT); have := congrArg List.length h9.2; simp at this
   | cons z0 zs =>
     have hz0 : z0 = d' := by
      have e8 := e7; rw [List.cons_append, List.cons_append] at e8; injection e8
     have h9 := pcs_cut (pcs_change hg) (pcs_change hg') a3 b3 (r' := zs ++ 32 :: d :: q) (by rw [← hz0]; simpa using hTT); have := congrArg List.length h9.2; simp at this; omega
 rw [set_app_right (by omega)] at e2 hne2
 obtain ⟨j, hj⟩ : ∃ j, j = i - (changeL g).length := ⟨_, rfl⟩
 rw [← hj] at e2 hne2
 have key : changeL g = changeL g' := by
  by_cases hc32 : c = 32
  · cases j with
    | zero =>
      rw [List.set_cons_zero, hc32] at e2; exact (pcs_cut (pcs_change hg) (pcs_change hg') (show ¬ signB 32 from by rintro (h | h) <;> exact absurd h (by decide)) b3 e2).1
    | succ j =>
      rw [List.set_cons_succ] at e2; exact (pcs_cut (pcs_change hg) (pcs_change hg') a3 b3 e2).1
  have n32 : (32 : UInt8) ∉ (d :: q).set j c := fun h => by
    rcases List.mem_or_eq_of_mem_set h with h | h
    · exact (a4 _ h).2 rfl
    exact hc32 h.symm
  have u1 := congrArg (upTo 32) e2; rw [upTo_end (change_ends g) n32, upTo_end (change_ends g') (fun h => (b4 _ h).2 rfl)] at u1; exact u1
 rw [← key] at e2; have e3 := List.append_cancel_left e2
 have e4 : d' :: q' = d :: q := by rw [a2, b2, key]
 rw [e4] at e3; exact hne2 (by rw [e3])
theorem rest_torn {t : Nat} {g : GC} (hg : changeOkB g = true) {k : Nat} (hk : k < (logLine t (changeL g)).length) : logRest t ((logLine t (changeL g)).take k) = ([], 0) := by
 obtain ⟨x, hx⟩ := line_snoc t (changeL g)
 apply rest_none
 rw [hx] at hk ⊢; rw [List.take_append_of_le_length (by simp at hk; omega)]
 exact fun h => line_no10 hg hx (List.mem_of_mem_take h)
theorem rest_turn {t : Nat} {g : GC} (hg : changeOkB g = true) (r : List UInt8) {k : Nat} (hk : k < (logLine t (changeL g)).length) {c : UInt8} (hc : c ≠ (logLine t (changeL g))[k]) : logRest t ((logLine t (changeL g) ++ r).set k c) = ([], 0) := by
 obtain ⟨x, hx⟩ := line_snoc t (changeL g); have h10 := line_no10 hg hx; rw [set_app_left hk]
 by_cases hkx : k < x.length
 · have hc' : c ≠ x[k] := fun e => hc (by rw [e]; simp [hx, List.getElem_append_left hkx])
   rw [hx, set_app_left hkx]
   by_cases hc10 : c = 10
   · have hs : x.set k c = x.take k ++ 10 :: x.drop (k + 1) := by rw [List.set_eq_take_append_cons_drop, if_pos hkx, hc10]
     rw [hs, show x.take k ++ 10 :: x.drop (k + 1) ++ [10] ++ r = x.take k ++ 10 :: (x.drop (k + 1) ++ [10] ++ r) from by simp]
     have hn : (10 : UInt8) ∉ x.take k := fun h => h10 (List.mem_of_mem_take h)
     refine rest_stop hn (recOf_none fun g' hg' h' => ?_); have := line_ext hg hg' hx h' (z := []) (z' := x.drop k) (by rw [List.append_nil, List.take_append_drop]); have := congrArg List.length this; simp at this; omega
   have hn : (10 : UInt8) ∉ x.set k c := fun h => by
     rcases List.mem_or_eq_of_mem_set h with h | h
     · exact h10 h
     exact hc10 h.symm
   rw [show x.set k c ++ [10] ++ r = x.set k c ++ 10 :: r from by simp]; exact rest_stop hn (line_turn hg hx hkx hc')
 have hke : k = x.length := by rw [hx] at hk; simp at hk; omega
 have hc10 : c ≠ 10 := fun e => hc (by rw [e]; simp [hx, hke])
 rw [hx, set_app_right (by omega), hke, Nat.sub_self]; show logRest t (x ++ [c] ++ r) = _
 rcases cut_line (x ++ [c] ++ r) with h | ⟨y, r', he, hy⟩
 · exact rest_none h
 rw [he]; refine rest_stop hy (recOf_none fun g' hg' h' => ?_)
 have hlen : x.length + 1 ≤ y.length := by
  rcases Nat.lt_or_ge y.length (x.length + 1) with h | h
  · exfalso
    have h1 : (x ++ [c] ++ r)[y.length]? = some 10 := by rw [he]; simp
    rw [List.getElem?_append_left (by simp; omega)] at h1; have h2 := List.mem_of_getElem? h1; rw [List.mem_append] at h2
    rcases h2 with h2 | h2
    · exact h10 h2
    simp at h2; exact hc10 h2.symm
  exact h
 have hy2 : y = x ++ c :: (y.drop (x.length + 1)) := by
  have h1 := congrArg (List.take (x.length + 1)) he; rw [List.take_left' (by simp), List.take_append_of_le_length hlen] at h1; have h2 := (List.take_append_drop (x.length + 1) y).symm; rw [← h1] at h2; rw [h2]; simp
 have := line_ext hg hg' hx h' (z := c :: y.drop (x.length + 1)) (z' := []) (by rw [List.append_nil]; exact hy2.symm)
 cases this
theorem cat_at : ∀ (gs : List GC) (t k : Nat), k < (logCat t gs).length → ∃ a g b, gs = a ++ g :: b ∧ (logCat t a).length ≤ k ∧ k < (logCat t a).length + (logLine (t + a.length : Nat) (changeL g)).length
 | [], t, k, h => by simp [logCat] at h
 | g :: gs, t, k, h => by
   by_cases hk : k < (logLine t (changeL g)).length
   · exact ⟨[], g, gs, rfl, Nat.zero_le _, by simpa [logCat] using hk⟩
   rw [logCat, List.length_append] at h; obtain ⟨a, g', b, h1, h2, h3⟩ := cat_at gs (t + 1) (k - (logLine t (changeL g)).length) (by omega); refine ⟨g :: a, g', b, by rw [h1]; rfl, ?_, ?_⟩
   · rw [logCat, List.length_append]; omega
   rw [logCat, List.length_append, List.length_cons, show t + (a.length + 1) = t + 1 + a.length from by omega]; omega
theorem torn_law {l : List UInt8} (hl : l.length ≤ 400000) {k : Nat} (hk : k < (logGetL l).2) {c : UInt8} (hc : ∀ h : k < (l.take (logGetL l).2).length, c ≠ (l.take (logGetL l).2)[k]) :
 ∃ a b m, (logGetL l).1 = a ++ b ∧ logGetL (l.take k) = (a, m) ∧ m ≤ k ∧ logGetL ((l.take (logGetL l).2).set k c) = (a, m) := by
 have e0 : ∀ x : List UInt8, x.length ≤ 400000 → logGetL x = logRest 0 x := fun x hx => by unfold logGetL; rw [if_neg (by omega)]; rfl
 rw [e0 l hl] at hk hc ⊢; obtain ⟨h1, h2, h3⟩ := rest_is _ 0 l (Nat.le_refl _)
 obtain ⟨gs, hgs⟩ : ∃ gs, gs = (logRest 0 l).1 := ⟨_, rfl⟩
 obtain ⟨n, hn⟩ : ∃ n, n = (logRest 0 l).2 := ⟨_, rfl⟩
 rw [← hgs] at h1 h3 ⊢; rw [← hn] at h2 h3 hk hc ⊢
 have hlen : (l.take n).length = n := by rw [List.length_take]; omega
 obtain ⟨a, g, b, k1, k2, k3⟩ := cat_at gs 0 k (by rw [← h3, hlen]; exact hk); simp only [Nat.zero_add] at k3
 have ha : ∀ x ∈ a, changeOkB x = true := fun x hx => h1 x (by rw [k1]; exact List.mem_append_left _ hx)
 have hg : changeOkB g = true := h1 g (by rw [k1]; simp)
 have hcat : l.take n = logCat 0 a ++ (logLine (a.length : Nat) (changeL g) ++ logCat (a.length + 1) b) := by
  rw [h3, k1, cat_app, Nat.zero_add]; rfl
 refine ⟨a, g :: b, (logCat 0 a).length, k1, ?_, k2, ?_⟩
 · rw [e0 _ (by rw [List.length_take]; omega)]
   have : l.take k = logCat 0 a ++ (logLine (a.length : Nat) (changeL g)).take (k - (logCat 0 a).length) := by
    have e1 : l.take k = (l.take n).take k := by rw [List.take_take, Nat.min_eq_left (by omega)]
    rw [e1, hcat, List.take_append, List.take_of_length_le k2, List.take_append_of_le_length (by omega)]
   rw [this, rest_cat a 0 _ ha, Nat.zero_add, rest_torn hg (by omega)]; simp
 rw [e0 _ (by rw [List.length_set, hlen]; omega)]; rw [hcat, set_app_right k2, rest_cat a 0 _ ha, Nat.zero_add]
 have hc' : c ≠ (logLine (a.length : Nat) (changeL g))[k - (logCat 0 a).length]'(by omega) := by
  have h := hc (by rw [hlen]; exact hk); intro e
  apply h
  rw [e]; simp only [hcat]; rw [List.getElem_append_right k2, List.getElem_append_left (by omega)]
 rw [rest_turn hg _ (by omega) hc']; simp
theorem torn_all {l : List UInt8} (hl : l.length ≤ 400000) {gs : List GC} {n : Nat} (hgs : gs = (logGetL l).1) (hn : n = (logGetL l).2) {k : Nat} {c : UInt8} (hk : k < n) (hc : ∀ h : k < (l.take n).length, c ≠ (l.take n)[k]) :
 ∃ a b m, gs = a ++ b ∧ logGetL (l.take k) = (a, m) ∧ m ≤ k ∧ logGetL ((l.take n).set k c) = (a, m) := by
 subst hgs; subst hn; exact torn_law hl hk hc
set_option maxRecDepth 100000 in
set_option maxHeartbeats 8000000 in
theorem logTorn_law (v u : Value) (xs ys : List UInt8) (T : TypeId) (y0 : Value) (w : World) {S U : Nat → Prop} (hv : BytesR S w v xs) (hu : BytesR U w u ys) (hm : MaxIs w) (he : EofIs w T y0) (htab : Lib.TabIs Tryz.prog w "internal/strconv.uint64pow10" .u64 Lib.pow10Tab) :
 Calls Tryz.prog 3 #[v, u] w fun e w' => e = .returned (.bool true) ∧ Ext w w' := by
 obtain ⟨A, c, rfl, hc1, hc2⟩ := SliceR.form hv; obtain ⟨B, d, rfl, hd1, hd2⟩ := SliceR.form hu; have HV := Lib.hid hv; have HM := Lib.hid hm; have HE := Lib.hid he; have HT := Lib.hid htab; clear hv hu hm he htab
 by_cases h1 : 1048576 < xs.length
 · go_enter Tryz.func3, Tryz.ntmps3
   go_wp2; go_ret; exact ⟨rfl, Ext.refl _⟩
 by_cases h2 : 1048576 < ys.length
 · go_enter Tryz.func3, Tryz.ntmps3
   go_wp2; go_ret; exact ⟨rfl, Ext.refl _⟩
 go_enter Tryz.func3, Tryz.ntmps3
 go_wp2_with (fail)
 refine (drawLogGet_any _ xs _ HV.out).mono ?_; rintro e w1 ⟨⟨s, rfl, hs⟩, hx1⟩
 have hl : s.data.toList.length ≤ 400000 := by simp; omega
 obtain ⟨_, hn, _, _⟩ := get_law hl
 obtain ⟨gs, hgs⟩ : ∃ gs, gs = (logGetL s.data.toList).1 := ⟨_, rfl⟩
 obtain ⟨n, hnn⟩ : ∃ n, n = (logGetL s.data.toList).2 := ⟨_, rfl⟩
 have htorn := fun (k : Nat) (c : UInt8) (hk : k < n) (hc : ∀ h : k < (s.data.toList.take n).length, c ≠ (s.data.toList.take n)[k]) => torn_all hl hgs hnn hk hc
 rw [← hnn] at hn
 have hns : n ≤ s.size := by simpa using hn
 have HI := Lib.hid (fun W (hW : Ext w W) => show Calls Tryz.prog 8 #[.string s] W fun e w' => GotRead gs n e w' ∧ Ext W w' from by
  have h := logGet_any s T y0 W (by omega) (HM.out.ext hW) (HE.out.ext hW) (pow_ext HT.out hW); rw [← hgs, ← hnn] at h
  exact h.mono fun _ _ ⟨h1, h2⟩ => ⟨h1.toR, h2⟩)
 have HS := Lib.hid (fun W => show Calls Tryz.prog 9 #[.string s] W fun e w' => GotRead gs n e w' ∧ Ext W w' from by
  have h := specLogGet_any s W (by omega); rw [← hgs, ← hnn] at h
  exact h.mono fun _ _ ⟨h1, h2⟩ => ⟨h1.toR, h2⟩)
 have HX1 := Lib.hid hx1; have HTO := Lib.hid htorn; have tok : True := trivial; have tok2 : True := trivial; have tok3 : True := trivial; have tok4 : True := trivial; clear hx1 hgs hnn hl hn htorn
 by_cases hz0 : n = 0
 · subst hz0
   clear HTO
   go_wp2_with (first
    | (go_at_call 8; refine (HI.out _ HX1.out).mono ?_; rintro e w2 ⟨⟨A2, c2, rfl, hv2, hc21, hc22⟩, hx2⟩
       have HV2 := Lib.hid hv2; have HX2 := Lib.hid (HX1.out.trans' hx2)
       clear hv2 hx2)
    | (go_at_call 9; refine (HS.out _).mono ?_; rintro e w3 ⟨⟨A3, c3, rfl, hv3, hc31, hc32⟩, hx3⟩
       have HV3 := Lib.hid hv3; have HY3 := Lib.hid (ListK.ext (k := kChange) HV2.out hx3); have HX3 := Lib.hid (HX2.out.trans' hx3)
       clear hv3 hx3)
    | (go_at_call 10; have _t := tok; refine (fsChanges_same _ _ gs _ HY3.out HV3.out).mono ?_; clear tok _t; rintro e w4 ⟨rfl, hx4⟩
       have HV4 := Lib.hid (ListK.ext (k := kChange) HY3.out hx4); have HU4 := Lib.hid (ListK.ext (k := kChange) HV3.out hx4); have HX4 := Lib.hid (HX3.out.trans' hx4)
       clear hx4)
    | (go_at_call 10; refine (fsChanges_same _ _ gs _ HV4.out HU4.out).mono ?_; rintro e w5 ⟨rfl, hx5⟩)
    | fail)
   go_ret; exact ⟨rfl, HX4.out.trans' hx5⟩
 have hzn : (((n : Nat) : Int) == 0) = false := by rw [beq_eq_false_iff_ne]; omega
 have hnp : 0 < n := by omega
 obtain ⟨kk, hkk⟩ : ∃ kk, kk = ys.length % n := ⟨_, rfl⟩
 have hkn : kk < n := by rw [hkk]; exact Nat.mod_lt _ hnp
 have hki : (ys.length : Int) % (n : Int) = (kk : Int) := by rw [hkk]; exact (Int.natCast_emod _ _).symm
 have hk0 : (0 : Int) ≤ (kk : Int) := by omega
 have hk1 : (kk : Int) < (n : Int) := by omega
 have hk2 : (kk : Int) ≤ (s.size : Int) := by omega
 have hn2 : (n : Int) ≤ (s.size : Int) := by omega
 have hn0 : (0 : Int) ≤ (n : Int) := by omega
 obtain ⟨y, hy⟩ : ∃ y, y = s.extract 0 n := ⟨_, rfl⟩
 obtain ⟨x, hx⟩ : ∃ x, x = s.extract 0 kk := ⟨_, rfl⟩
 have hys : y.size = n := by rw [hy, ByteArray.size_extract]; omega
 have hyd : y.data.toList = s.data.toList.take n := by rw [hy, ext_take s hns, list_strOf]
 have hxd : x.data.toList = s.data.toList.take kk := by rw [hx, ext_take s (by omega), list_strOf]
 have hxs : x.size ≤ 400000 := by rw [hx, ByteArray.size_extract]; omega
 have hky : kk < y.size := by omega
 obtain ⟨z, hxor, hzc⟩ := xor_ne y[kk] (1 + xs.length % 127) (by omega) (by omega); rw [show ((1 + xs.length % 127 : Nat) : Int) = 1 + (xs.length : Int) % 127 from by omega] at hxor; have hd0 : (0 : Int) ≤ (xs.length : Int) % 127 := Int.emod_nonneg _ (by omega); have hd1 : (xs.length : Int) % 127 < 127 := Int.emod_lt_of_pos _ (by omega)
 obtain ⟨a, b, m, ha, hak, hmk, has⟩ := HTO.out kk z hkn (fun h => by
  have e1 : (s.data.toList.take n)[kk]'h = y[kk] := by
   have : y.data.toList[kk]'(by rw [hyd]; exact h) = (s.data.toList.take n)[kk]'h := by simp only [hyd]
   rw [← this]; rfl
  rw [e1]; exact hzc)
 obtain ⟨t, ht⟩ : ∃ t, t = strOf ((s.data.toList.take n).set kk z) := ⟨_, rfl⟩
 have htd : t.data.toList = (s.data.toList.take n).set kk z := by rw [ht, list_strOf]
 have hts : t.size = n := by rw [ht, strOf_size, List.length_set, List.length_take]; simp; omega
 have HK := Lib.hid (fun W (hW : Ext w W) => show Calls Tryz.prog 8 #[.string x] W fun e w' => GotRead a m e w' ∧ Ext W w' from by
  have h := logGet_any x T y0 W (by omega) (HM.out.ext hW) (HE.out.ext hW) (pow_ext HT.out hW); rw [hxd, hak] at h
  exact h.mono fun _ _ ⟨h1, h2⟩ => ⟨h1.toR, h2⟩)
 have HL := Lib.hid (fun W (hW : Ext w W) => show Calls Tryz.prog 8 #[.string t] W fun e w' => GotRead a m e w' ∧ Ext W w' from by
  have h := logGet_any t T y0 W (by omega) (HM.out.ext hW) (HE.out.ext hW) (pow_ext HT.out hW); rw [htd, has] at h
  exact h.mono fun _ _ ⟨h1, h2⟩ => ⟨h1.toR, h2⟩)
 have HAT := Lib.hid (show gs.take a.length = a from by rw [ha, List.take_left'] <;> rfl)
 have hal : a.length ≤ gs.length := by rw [ha, List.length_append]; omega
 have hal1 : (a.length : Int) ≤ (gs.length : Int) := by omega
 have hal0 : (0 : Int) ≤ (a.length : Int) := by omega
 have hmk1 : (m : Int) ≤ (kk : Int) := by omega
 have hex1 : s.extract 0 n = y := hy.symm; have hex2 : s.extract 0 kk = x := hx.symm; have HYD := Lib.hid hyd; have HYS := Lib.hid hys; have HTT := Lib.hid ht; have hysm : y.size ≤ maxLen := maxOf (by omega); have hc8 : y[kk].toNat < 256 := y[kk].toNat_lt; clear hy hx hyd hxd ha hak has ht htd HTO hkk hz0 hzc
 go_wp2_with (first
  | (go_at_call 8; have _t := tok; refine (HI.out _ HX1.out).mono ?_; clear tok _t; rintro e w2 ⟨⟨A2, c2, rfl, hv2, hc21, hc22⟩, hx2⟩
     have HV2 := Lib.hid hv2; have HX2 := Lib.hid (HX1.out.trans' hx2)
     clear hv2 hx2)
  | (go_at_call 9; refine (HS.out _).mono ?_; rintro e w3 ⟨⟨A3, c3, rfl, hv3, hc31, hc32⟩, hx3⟩
     have HV3 := Lib.hid hv3; have HY3 := Lib.hid (ListK.ext (k := kChange) HV2.out hx3); have HX3 := Lib.hid (HX2.out.trans' hx3)
     clear hv3 hx3)
  | (go_at_call 10; have _t := tok2; refine (fsChanges_same _ _ gs _ HY3.out HV3.out).mono ?_; clear tok2 _t; rintro e w4 ⟨rfl, hx4⟩
     have HV4 := Lib.hid (ListK.ext (k := kChange) HY3.out hx4); have HX4 := Lib.hid (HX3.out.trans' hx4)
     clear hx4)
  | (go_at_call 8; have _t := tok4; refine (HK.out _ HX4.out).mono ?_; clear tok4 _t; rintro e w5 ⟨⟨A5, c5, rfl, hv5, hc51, hc52⟩, hx5⟩
     have HV5 := Lib.hid hv5; have HL5 := Lib.hid (ListK.ext (k := kChange) HV4.out hx5); have HX5 := Lib.hid (HX4.out.trans' hx5); obtain ⟨cap, W6, hrun, hcap1, hcap2, hbel, hlt, hcells, hfro⟩ := bytes_new (P := Tryz.prog) w5 9 22 5 y Tryz.underlying9 Tryz.underlying22 Tryz.underlying5 hysm; rw [HYS.out] at hrun hcap1; have q0 := hcells kk hky; have f0 := hfro kk hky
     have hrun2 : (convert 22 9 (.slice (some ⟨w5.heap.size, 0, none⟩) n cap)).run Tryz.prog (W6.setCell ⟨w5.heap.size, kk, none⟩ (.int .u8 z.toNat)) = .ok (.string t) (W6.setCell ⟨w5.heap.size, kk, none⟩ (.int .u8 z.toNat)) := by
      have h := run_convert_bytes_back (P := Tryz.prog) (W6.setCell ⟨w5.heap.size, kk, none⟩ (.int .u8 z.toNat)) 22 9 5 ⟨w5.heap.size, 0, none⟩ cap (y.data.toList.set kk z) Tryz.underlying22 Tryz.underlying5 Tryz.underlying9 (fun j hj => by
       have hjs : j < y.size := by simpa using hj
       have hadd : (⟨w5.heap.size, 0, none⟩ : Addr).add j = ⟨w5.heap.size, j, none⟩ := by rw [addr_add, Nat.zero_add]
       rw [hadd, List.getElem_set]
       by_cases hjk : kk = j
       · subst hjk
         rw [if_pos rfl]; exact World.cell?_setCell_same _ _ _ q0
       rw [if_neg hjk, World.cell?_setCell_other _ _ _ _ (fun e => hjk (by injection e))]
       exact hcells j hjs)
      rw [List.length_set] at h; rw [HTT.out, ← HYD.out]; rw [show y.data.toList.length = n from by rw [← HYS.out]; simp] at h; exact h
     have HX6 := Lib.hid (show Ext w5 (W6.setCell ⟨w5.heap.size, kk, none⟩ (.int .u8 z.toNat)) from Ext.setNew hbel (Nat.le_refl _) _); have hl6 := hlt
     clear hv5 hx5 hcells hfro hbel hlt)
  | (go_at_call 8; refine (HL.out _ (HX5.out.trans' HX6.out)).mono ?_; rintro e w7 ⟨⟨A7, c7, rfl, hv7, hc71, hc72⟩, hx7⟩
     have HX7 := Lib.hid (HX5.out.trans' (HX6.out.trans' hx7)); have HV7 := Lib.hid hv7; have HS7 := Lib.hid (ListK.ext (k := kChange) HV5.out (HX6.out.trans' hx7)); have hl7 := SliceR.fst (ListK.ext (k := kChange) HL5.out (HX6.out.trans' hx7)) a.length hal; rw [HAT.out] at hl7; have HL7 := Lib.hid (show ChangesR Any w7 (.slice A2 a.length c2) a from hl7)
     clear hv7 hx7 hl7)
  | (go_at_call 10; have _t := tok3; refine (fsChanges_same _ _ a _ HS7.out HL7.out).mono ?_; clear tok3 _t; rintro e w8 ⟨rfl, hx8⟩
     have HX8 := Lib.hid (HX7.out.trans' hx8); have HV8 := Lib.hid (ListK.ext (k := kChange) HV7.out hx8); have HS8 := Lib.hid (ListK.ext (k := kChange) HS7.out hx8)
     clear hx8)
  | (go_at_call 10; refine (fsChanges_same _ _ a _ HV8.out HS8.out).mono ?_; rintro e w9 ⟨rfl, hx9⟩)
  | fail)
 go_ret; exact ⟨rfl, HX8.out.trans' hx9⟩
end Go.Proofs.YtmihponoillihaaGreatDoor
namespace Go.Proofs.YtmihponoillihaaGreatDoor
open Go.RowKit Go.ChangeShapes Go.WideShapes
theorem law_own : ownKnob Tryz.prog.godebug = none := by kernel_rfl
theorem law_laidOut : laidOutB Tryz.prog = true := by kernel_rfl
section
variable {H : Type} {enc : TypeId × Value → H} {P : Program}
theorem trodAll_stays (hl : laidOutB P = true) {W W' : World} (hb : Below W.heap.size W W') : ∀ (ts : List TypeId) (vs : List Value) (ds : List (DataW H)) (ps : List MemPlace), (∀ t ∈ ts, P.readableRec t = true ∧ t < P.types.size) →
 DataW.TrodAll enc P W 0 (fun _ => true) true ts vs ds ps → (∀ x ∈ ps, x.block < W.heap.size) → ∀ sp : Nat → Bool, (∀ x ∈ ps, sp x.block = true) → DataW.TrodAll enc P W' 0 sp true ts vs ds ps
 | [], [], [], ps, _, h, _, _, _ => h
 | t :: ts, v :: vs, d :: ds, ps, ht, h, hlt, sp, hsp => by
   obtain ⟨p, q, h1, h2, rfl⟩ := h; refine ⟨p, q, ?_, trodAll_stays hl hb ts vs ds q (fun t ht' => ht t (List.mem_cons_of_mem _ ht')) h2 (fun x hx => hlt x (List.mem_append.2 (.inr hx))) sp (fun x hx => hsp x (List.mem_append.2 (.inr hx))), rfl⟩; exact WideElems.Trod_stays hl (ht t (by simp)).1 (ht t (by simp)).2 h1 (fun x hx => hb.same (hlt x (List.mem_append.2 (.inl hx)))) (fun x hx => hsp x (List.mem_append.2 (.inl hx)))
 | [], _ :: _, _, _, _, h, _, _, _ => by simp [DataW.TrodAll] at h
 | [], [], _ :: _, _, _, h, _, _, _ => by simp [DataW.TrodAll] at h
 | _ :: _, [], _, _, _, h, _, _, _ => by simp [DataW.TrodAll] at h
 | _ :: _, _ :: _, [], _, _, h, _, _, _ => by simp [DataW.TrodAll] at h
theorem law_post {f : Func} {s : ChangeSpec} {apart fresh handsOn again : Bool} {W W' : World} {args : Array Value} {ds : List (DataW H)} {before : List MemPlace} {t : TypeId}
 (hvars : s.vars = []) (hres : f.resultTypes = #[t]) (hbool : P.underlying t = some .bool) (hspec : s.fn H (ds ++ []) = { results := [.lit (.bool true)], args := ds })
 (hl : laidOutB P = true) (hts : ∀ t ∈ f.params.toList, P.readableRec t = true ∧ t < P.types.size)
 (hW : DataW.Whole enc P f.params.toList s.vars apart W args.toList ds [] before) (hb : Below W.heap.size W W') :
 s.post enc P f apart fresh handsOn again W args (.bool true) W' := by
 obtain ⟨p, q, hA, hV, hpq, hz, hn⟩ := id hW
 have hq : q = [] := by
  rw [hvars] at hV; obtain ⟨_, h2⟩ := trodVars_none hV; exact h2
 subst hq; rw [List.append_nil] at hpq; subst hpq
 have hlt : ∀ x ∈ before, x.block < W.heap.size := fun x hx => hW.lt x hx
 have hstay := trodAll_stays hl hb _ _ _ _ hts hA hlt
 have hold : ∀ x ∈ before, (fun b => decide (b < W.heap.size)) x.block = true := fun x hx => by simpa using hlt x hx
 have hr : ∀ (b : Nat) (sp : Nat → Bool) (hd : Bool), DataW.TrodAll enc P W' b sp hd f.resultTypes.toList ((Value.bool true).resultList f.resultTypes.size) (s.fn H (ds ++ [])).results [] := by
  intro b sp hd; rw [hres, hspec]; exact trodAll_mk1 (shut_bool hbool true)
 have hvr : ∀ sp : Nat → Bool, DataW.TrodVars enc P W' sp s.vars (s.fn H (ds ++ [])).vars [] := by
  intro sp; rw [hvars, hspec]
  rfl
 have hargs : ∀ sp : Nat → Bool, (∀ x ∈ before, sp x.block = true) → DataW.TrodAll enc P W' 0 sp true f.params.toList args.toList (s.fn H (ds ++ [])).args before := by
  intro sp hsp; rw [hspec]; exact hstay sp hsp
 refine ⟨ds, [], before, [], before, [], hW, hr _ _ _, hargs _ hold, hvr _, World.keptBut_mono (fun x hx => ⟨hx, .inr (by simpa using hx)⟩) (hb.frame (· ∈ before)), fun _ => ?_⟩; refine ⟨ok_one hres rfl (okWide_bool_mk hbool true), _, _, ([] ++ before) ++ [], ⟨[] ++ before, [], trodAll_append (hargs _ (fun _ _ => rfl)) (hr _ _ _), hvr _, rfl, ?_, ?_⟩, ?_⟩
 · intro b off hp
   have hin : MemPlace.cell b off ∈ before := by simpa using hp
   rw [hb.frozen (hlt _ hin)]; exact hz b off hin
 · intro ha
   have := hn ha; simpa using this
 intro x hx _; simpa using hx
end
end Go.Proofs.YtmihponoillihaaGreatDoor
namespace Go.Proofs.YtmihponoillihaaGreatDoor
open Go.RowKit Go.ChangeShapes Go.WideShapes
theorem byte_wf {z : Int} (h : (Lit.int .u8 z).wf = true) : 0 ≤ z ∧ z < 256 := by
 have e1 : IntKind.u8.min = 0 := rfl; have e2 : IntKind.u8.max = 255 := rfl; simp [Lit.wf, e1, e2] at h; omega
section
variable {H : Type} {enc : TypeId × Value → H} {w : World} {base : Nat} {spare : Nat → Bool} {held : Bool} {fuel : Nat} {v : Value} {x : DataW H × List MemPlace}
theorem read_bytes (h : DataW.trod enc Tryz.prog w base spare held fuel 22 [v] = some x) : ∃ xs : List UInt8, BytesR Any w v xs := by
 rcases open_ints Tryz.underlying22 Tryz.underlying5 (by kernel_rfl) h with ⟨hcs, _⟩ | ⟨a, len, cap, zs, hcs, hb, hl, hm, hzl, hx, hc, hwf⟩
 · injection hcs with hv _
   subst hv; exact ⟨[], SliceR.nil_ 0 (Nat.zero_le _) none⟩
 injection hcs with hv _
 subst hv
 have hlz : len ≤ zs.length := by rw [hzl]; split <;> omega
 by_cases h0 : 0 < len
 · have h00 := hc 0 (by omega)
   have ha0 : a.add 0 = a := by simp [Addr.add]
   rw [ha0] at h00; have haa := cell_addr h00
   have hadd : ∀ n, a.add n = ⟨a.block, a.off + n, none⟩ := by
    intro n; unfold Addr.add
    split
    · rename_i h; subst h; rw [Nat.add_zero]; exact haa
    rfl
   rw [haa] at h00
   have hln : ((zs.take len).map (fun z => UInt8.ofNat z.toNat)).length = len := by rw [List.length_map, List.length_take]; omega
   refine ⟨(zs.take len).map (fun z => UInt8.ofNat z.toNat), some a, cap, by rw [hln], by rw [hln]; exact hl, hm, fun _ => ⟨a.block, a.off, by rw [← haa], cell_lt h00, trivial, fun i c hi => ?_⟩⟩; refine ⟨[.int .u8 c.toNat], rfl, fun j u hu => ?_, rfl⟩
   match j, hu with
   | 0, hu =>
     simp at hu; subst hu; rw [List.getElem?_map, List.getElem?_take] at hi
     split at hi
     · have hiz : i < zs.length := by omega
       rw [List.getElem?_eq_getElem hiz] at hi; simp at hi; have hz := byte_wf (hwf _ (List.getElem_mem hiz)); have h1 := hc i hiz; rw [hadd, List.getD_eq_getElem?_getD, List.getElem?_eq_getElem hiz] at h1; rw [← hi, Nat.mul_one, Nat.add_zero, h1, UInt8.toNat_ofNat']; simp; omega
     simp at hi
 obtain rfl : len = 0 := by omega
 exact ⟨[], SliceR.nil_ cap hm _⟩
end
end Go.Proofs.YtmihponoillihaaGreatDoor
namespace Go.Proofs.YtmihponoillihaaGreatDoor
open Go Go.RowKit
variable {H : Type} {enc : TypeId × Value → H}
theorem handed_and_shaped {a : Assume} {C : Checked} {os : Os} {f : FuncId} {fn : Func} {s : ChangeSpec} {conds : List PathCond} {apart fresh handsOn again : Bool} {X : World → Array Value → Prop}
 (hX : ∀ (w w' : World) (args : Array Value), w.heap = w'.heap → X w args → X w' args)
 (own : ownKnob C.prog.godebug = none) (started : os.Started) (noInit : C.prog.inits.idxOf? f = none) (hfn : C.prog.funcs[f]? = some fn)
 (witness : ∃ (w : World) (tape : Tape) (i : Input), w.os = os ∧ (w.forCall tape i).Shaped C.prog ∧ i.vars = [] ∧ Input.okWide C.prog (w.forCall tape i) .any w.heap.size f i ∧
  ((s.pre enc C.prog fn conds apart (w.forCall tape i).memory i.args ∧ X (w.forCall tape i).memory i.args) ∧ sizedMet enc C.prog fn (OpenSpec.ofChange s) apart (w.forCall tape i).memory i.args) ∧ a.holds C.prog (lone (Frame.enter C.prog f i.args .normal) [] (w.forCall tape i)))
 (contract : ∀ (W : World) (base : Nat) (args : Array Value) (ds gs : List (DataW H)) (before : List MemPlace),
  (∀ (j : Nat) t v, fn.params[j]? = some t → args[j]? = some v → Value.okWide C.prog W .any base t v) →
  DataW.Whole enc C.prog fn.params.toList s.vars apart W args.toList ds gs before → X W args → W.ShapedOpen C.prog →
  Calls C.prog f args W fun e W' => ∃ v, e = .returned v ∧ s.post enc C.prog fn apart fresh handsOn again W args v W') :
 ReturnsInHanded a C os f .any (fun w args => (s.pre enc C.prog fn conds apart w args ∧ X w args) ∧ sizedMet enc C.prog fn (OpenSpec.ofChange s) apart w args) (s.post enc C.prog fn apart fresh handsOn again) := by
 refine returnsInHanded_of_calls own started noInit witness ?_; intro w tape i _ hsh _ hok hpre _; obtain ⟨_, _, _, fn', hfn', _, _, _, _, hval⟩ := hok; obtain rfl : fn' = fn := Option.some.inj (hfn'.symm.trans hfn); obtain ⟨⟨⟨ds, gs, before, hw, _⟩, hx⟩, _⟩ := hpre
 refine (contract (w.forCall tape i) w.heap.size i.args ds gs before hval (DataW.Whole.of_heap (w' := w.forCall tape i) (by rfl) hw) (hX _ _ _ (by rfl) hx) hsh).mono fun e W' ⟨v, he, hp⟩ => ?_
 subst he; exact ChangeSpec.post_blind hp
end Go.Proofs.YtmihponoillihaaGreatDoor
namespace Go.Proofs.YtmihponoillihaaGreatDoor
open Go.RowKit Go.ChangeShapes Go.WideShapes Go.ChangeAt
open Go.ChangeMaps (open_string)
theorem law_laid_plain (W : World) : laidMetH Tryz.prog Rows.fnLogTornRow.laid W = laidMet Tryz.prog Rows.fnLogTornRow.laid W := MakeChecks.laidMetH_plain _ _ _ (by kernel_rfl)
theorem door_met (os : Os) (args : Array Value) : laidMetH Tryz.prog Rows.fnLogTornRow.laid ((World.laidAll Tryz.prog os Rows.fnLogTornRow.laid).forCall (fun _ _ => 0) ⟨#[], args, []⟩).memory := by
 rw [law_laid_plain]; exact laidMet_laidAll args (by kernel_rfl) (by kernel_rfl)
theorem maxIs_shaped {W : World} (h : W.ShapedOpen Tryz.prog) : MaxIs W :=
 cell_of_shapedOpen_int (g := 2) (t := 3) (zero := #[.int .i64 0]) (k := .i64) h (of_decide_eq_true (by kernel_rfl)) (by kernel_rfl) rfl (by kernel_rfl) (by kernel_rfl) Tryz.underlying3
theorem pow_laid : (Rows.laid_internal_strconv_uint64pow10 : DataW Unit) = Lib.tabData .u64 Lib.pow10Tab := by kernel_rfl
theorem pow_of_laid {W : World} (h : laidMetH Tryz.prog Rows.fnLogTornRow.laid W) : Lib.TabIs Tryz.prog W "internal/strconv.uint64pow10" .u64 Lib.pow10Tab := by
 rw [law_laid_plain] at h
 have h2 : laidMet Tryz.prog (("internal/strconv.uint64pow10", Rows.laid_internal_strconv_uint64pow10) :: _) W := laidMet.tail (laidMet.tail h)
 rw [pow_laid] at h2; exact Lib.tabIs_of_head (g := 3) (t := 398) (e := 313) (n := 20) (by kernel_rfl) (by kernel_rfl) Tryz.underlying398 Tryz.underlying313 (by kernel_rfl) (by kernel_rfl) h2
theorem star_error : "*" ++ "errors.errorString" = "*errors.errorString" := by decide
theorem row_error (u : TypeId) (h : Tryz.prog.typeName? 3 u = some "*errors.errorString") : u = 425 :=
 typeName_ptr_named (nm := "errors.errorString") (by rw [star_error]; kernel_rfl) (by kernel_rfl) (by decide) u (by rw [star_error]; exact h)
theorem eof_of_laid {W : World} (h : laidMetH Tryz.prog Rows.fnLogTornRow.laid W) : ∃ T y, EofIs W T y := by
 rw [law_laid_plain] at h
 have h2 : laidMet Tryz.prog (("io.EOF", Rows.laid_io_EOF) :: _) W := laidMet.tail (laidMet.tail (laidMet.tail (laidMet.tail h)))
 obtain ⟨a, s, hv, _⟩ := laid_sentinel (g := 0) (ti := 146) (tp := 425) (te := 445) (ts := 9) h2 (by kernel_rfl) (by kernel_rfl) Tryz.underlying146 row_error Tryz.underlying425 Tryz.underlying445 rfl rfl Tryz.underlying9 (by kernel_rfl) (by kernel_rfl)
 exact ⟨_, _, by unfold EofIs; simpa using World.var?_cell (show Tryz.prog.globalNamed "io.EOF" = some 0 by kernel_rfl) hv 0⟩
set_option maxRecDepth 100000 in
theorem fnLogTorn_lifted (os : Os) (started : os.Started) (H : Type) (enc : TypeId × Value → H) :
 ReturnsInHanded {} Tryz.checked os 3 .any (fun w args => (Rows.fnLogTornSpec.pre enc Tryz.prog Tryz.f3 [] false w args ∧ laidMetH Tryz.prog Rows.fnLogTornRow.laid w) ∧ sizedMet enc Tryz.prog Tryz.f3 (OpenSpec.ofChange Rows.fnLogTornSpec) false w args)
  (Rows.fnLogTornSpec.post enc Tryz.prog Tryz.f3 false true false false) := by
 refine handed_and_shaped (C := Tryz.checked) (X := fun w _ => laidMetH Tryz.prog Rows.fnLogTornRow.laid w) (fun _ _ _ hh h => h.of_heap hh) law_own started (by kernel_rfl) Tryz.func3
  (ChangeSpec.witness_shaped (enc := enc) (C := Tryz.checked) (os := os) (X := fun w _ => laidMetH Tryz.prog Rows.fnLogTornRow.laid w) false (World.laidAll Tryz.prog os Rows.fnLogTornRow.laid) #[.slice none 0 0, .slice none 0 0] 8 (World.laidAll_os _ _ _) (World.shaped_of_ZipB (by kernel_rfl) (by kernel_rfl)) (by kernel_rfl) (by kernel_rfl) (by kernel_rfl) (door_met os _)) ?_
 intro W base args ds gs before hval0 hW hL hsh; have hval : ∀ (j : Nat) t v, Tryz.f3.params[j]? = some t → args[j]? = some v → Value.okWide Tryz.prog W .any base t v := hval0; have hW' := hW; obtain ⟨p, q, hA0, hV, rfl, hfz, hnd⟩ := hW; have hA : DataW.TrodAll enc Tryz.prog W 0 (fun _ => true) true Tryz.f3.params.toList args.toList ds p := hA0; rw [Tryz.params3] at hA hval; obtain ⟨v0, v1, d0, d1, p0, p1, rfl, rfl, rfl, ⟨k0, h0⟩, ⟨k1, h1⟩⟩ := trodAll_two hA; obtain ⟨rfl, rfl⟩ := trodVars_none hV; obtain ⟨_, _, _, rfl⟩ := okWide_slice Tryz.underlying22 (hval 0 22 v0 rfl rfl); obtain ⟨_, _, _, rfl⟩ := okWide_slice Tryz.underlying22 (hval 1 22 v1 rfl rfl); obtain ⟨xs, hxs⟩ := read_bytes h0; obtain ⟨ys, hys⟩ := read_bytes h1; clear hA0 hval0; simp only [List.append_nil] at hW'; obtain ⟨T, y, hy⟩ := eof_of_laid hL
 refine (logTorn_law _ _ xs ys T y W hxs hys (maxIs_shaped hsh) hy (pow_of_laid hL)).mono fun e W' ⟨he, hw⟩ => ?_
 subst he; exact ⟨_, rfl, law_post (t := 4) rfl rfl Tryz.underlying4 rfl law_laidOut (by rw [Tryz.params3]; intro t ht; simp at ht; subst ht; exact ⟨by kernel_rfl, of_decide_eq_true (by kernel_rfl)⟩) hW' hw⟩
theorem lt_inst : Tryz.f3.isInstance Tryz.pinned.checked.prog Rows.fnLogTornRow.origin Rows.fnLogTornRow.targs := of_decide_eq_true (by kernel_rfl)
theorem lt_wrap : Tryz.f3.isWrapper Tryz.pinned.checked.prog Rows.fnLogTornRow.wrapper Rows.fnLogTornRow.mainSum := by
 unfold Func.isWrapper; rw [if_neg (of_decide_eq_false (by kernel_rfl))]; exact ⟨rfl, rfl⟩
theorem lt_row (os : Os) (started : os.Started) (H : Type) (enc : TypeId × Value → H) (_ : ∀ a b, enc a = enc b → a = b) :
 ReturnsInHanded Rows.fnLogTornRow.assume Tryz.pinned.checked os 3 .any (Rows.fnLogTornRow.pre enc Tryz.pinned.checked.prog Tryz.f3 (OpenSpec.ofChange Rows.fnLogTornSpec)) (Rows.fnLogTornSpec.post enc Tryz.pinned.checked.prog Tryz.f3 Rows.fnLogTornRow.apart Rows.fnLogTornRow.fresh Rows.fnLogTornRow.handsOn Rows.fnLogTornRow.again) :=
 fnLogTorn_lifted os started H enc
theorem lt_open : Rows.fnLogTornRow.holds Tryz.pinned (OpenSpec.ofChange Rows.fnLogTornSpec) :=
 OpenClaim.holds_of_wide 3 Tryz.f3 rfl rfl rfl rfl rfl rfl rfl ⟨rfl, rfl, rfl, rfl, rfl⟩ rfl rfl rfl rfl rfl (by kernel_rfl) Tryz.func3 lt_closed lt_inst lt_wrap lt_row
theorem fnLogTorn_row : Rows.FnLogTornSaid := lt_open
theorem lt_args : ([22, 22].all fun u => !Tryz.pinned.checked.prog.wantsStandIn u) = true := by kernel_rfl
theorem fnLogTorn_holds : Rows.FnLogTornCardSaid :=
 Claim7.holds_tied_plain_at .later [] [.data, .data, .data, .data, .sentinel, .pinned] true (true, "2babdb2d94baf4ee2b30228363a8f200d7119ec6f88878aa71fc4179e6e9343a") true
  fnLogTorn_row (fun _ h => by cases h) lt_word (fun _ h => by cases h) fnLogTorn_row_tie rfl ⟨rfl, rfl⟩ lt_main rfl
  (fun f fn hf hfn => by
   obtain rfl : f = 3 := Option.some.inj (lt_func.symm.trans hf) |>.symm
   obtain rfl : fn = Tryz.f3 := (Option.some.inj (Tryz.func3.symm.trans hfn)).symm
   exact ⟨lt_looks, fun j t ht => by
    rw [Tryz.params3] at ht
    have hm : t ∈ [22, 22] := by simpa using Array.mem_of_getElem? ht
    exact (show Tryz.pinned.checked.prog.wantsStandIn t = false by simpa using List.all_eq_true.1 lt_args t hm)⟩)
  lt_goes
end Go.Proofs.YtmihponoillihaaGreatDoor
