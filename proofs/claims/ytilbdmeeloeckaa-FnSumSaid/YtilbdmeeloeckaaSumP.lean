/- Plain: a text of which one byte is turned has another sum. -/
import Derived.Test.YtilbdmeeloeckaaSumW
import Derived.Laws.IdiomStrings
import Derived.Laws.BitsAllLaws
namespace Go.Proofs.Ytilbdmeeloeckaa
open Go.RowKit

def sumFrom (s : Int) (l : List UInt8) : Int := l.foldl (fun s c => (s * 31 + (c.toNat : Int) + 7) % 1000003) s
theorem sum_step (s t : Int) (hs : 0 ≤ s ∧ s < 1000003) (ht : 0 ≤ t ∧ t < 1000003) (h : s ≠ t) (c : Nat) : (s * 31 + (c : Int) + 7) % 1000003 ≠ (t * 31 + (c : Int) + 7) % 1000003 := by omega
theorem sumFrom_ne : ∀ (l : List UInt8) (s t : Int), 0 ≤ s ∧ s < 1000003 → 0 ≤ t ∧ t < 1000003 → s ≠ t → sumFrom s l ≠ sumFrom t l
  | [], _, _, _, _, h => h
  | c :: l, s, t, hs, ht, h => sumFrom_ne l ((s * 31 + (c.toNat : Int) + 7) % 1000003) ((t * 31 + (c.toNat : Int) + 7) % 1000003) (by omega) (by omega) (sum_step s t hs ht h c.toNat)
theorem sum_turn (p q : List UInt8) (c d : UInt8) (h : c ≠ d) : sumI (p ++ c :: q) ≠ sumI (p ++ d :: q) := by
  have hb := sumI_bd p
  have e : ∀ x : UInt8, sumI (p ++ x :: q) = sumFrom ((sumI p * 31 + (x.toNat : Int) + 7) % 1000003) q := fun x => by
    unfold sumI sumFrom; rw [List.foldl_append]; rfl
  rw [e, e]
  have hc := c.toNat_lt
  have hd := d.toNat_lt
  have hn : c.toNat ≠ d.toNat := fun e => h (UInt8.toNat_inj.1 e)
  exact sumFrom_ne q _ _ (by omega) (by omega) (by omega)
theorem sum_set (l : List UInt8) (k : Nat) (hk : k < l.length) (d : UInt8) (h : d ≠ l[k]) : sumI (l.set k d) ≠ sumI l := by
  have h1 : l = l.take k ++ l[k] :: l.drop (k + 1) := by rw [← List.drop_eq_getElem_cons hk, List.take_append_drop]
  have h2 : l.set k d = l.take k ++ d :: l.drop (k + 1) := List.set_eq_take_append_cons_drop.trans (if_pos hk)
  rw [h2]
  intro e
  exact sum_turn _ _ d l[k] h (e.trans (congrArg sumI h1))

/-- '[]byte(s)': a new block of s's bytes. -/
theorem bytes_new {P : Program} (w : World) (src dst e : TypeId) (s : ByteArray) (hs : P.underlying src = some .string) (hd : P.underlying dst = some (.slice e)) (he : P.underlying e = some (.int .u8)) (h63 : s.size ≤ maxLen) :
    ∃ cap W, (convert src dst (.string s)).run P w = .ok (.slice (some ⟨w.heap.size, 0, none⟩) s.size cap) W ∧ s.size ≤ cap ∧ cap ≤ maxLen ∧ Below w.heap.size w W ∧ w.heap.size < W.heap.size ∧
      (∀ j (hj : j < s.size), W.cell? ⟨w.heap.size, j, none⟩ = some (.int .u8 (s[j].toNat : Int))) ∧ ∀ j, j < s.size → W.frozen? ⟨w.heap.size, j, none⟩ = false := by
  refine ⟨_, _, run_bytes_of_string w src dst e s hs hd he, grownCap_ge _ _ _ _, grownCap_le_maxLen _ _ _ _ h63, Below.alloc (Below.drew (Below.refl _ _)) (Nat.le_refl _) _, by simp, fun j hj => ?_, fun j hj => ?_⟩
  · have h := World.cell?_alloc_mark w.drew (bytesRow s (grownCap w s.size 0 e)) e ((bytesRow s (grownCap w s.size 0 e)).size, (bytesRow s (grownCap w s.size 0 e)).size + 1) j
    exact h.trans (bytesRow_at s _ j hj)
  · have h := World.frozen?_alloc_mark w.drew (bytesRow s (grownCap w s.size 0 e)) e (bytesRow s (grownCap w s.size 0 e)).size ((bytesRow s (grownCap w s.size 0 e)).size + 1) j
    refine h.trans ?_
    have : (bytesRow s (grownCap w s.size 0 e)).size ≥ s.size := by unfold bytesRow; rw [Array.size_append, Array.size_map]; exact Nat.le_add_right _ _
    rw [decide_eq_false (by omega)]
    rfl

theorem xor_ne (c : UInt8) (d : Nat) (h1 : 1 ≤ d) (h2 : d ≤ 255) : ∃ z : UInt8, bits .xor .u8 (c.toNat : Int) (d : Int) = (z.toNat : Int) ∧ z ≠ c := by
  have hc := c.toNat_lt
  have h3 : c.toNat ^^^ d < 256 := Nat.xor_lt_two_pow (n := 8) (by omega) (by omega)
  refine ⟨UInt8.ofNat (c.toNat ^^^ d), ?_, ?_⟩
  · have e : (UInt8.ofNat (c.toNat ^^^ d)).toNat = c.toNat ^^^ d := by rw [UInt8.toNat_ofNat']; exact Nat.mod_eq_of_lt (by omega)
    rw [e]
    have o : ∀ a : Nat, a < 256 → (BitVec.ofInt 8 (a : Int)).toNat = a := fun a ha => by rw [BitVec.ofInt_natCast, BitVec.toNat_ofNat]; exact Nat.mod_eq_of_lt (by omega)
    show IntKind.u8.wrap ((BitVec.ofInt 8 (c.toNat : Int) ^^^ BitVec.ofInt 8 (d : Int)).toNat : Int) = _
    rw [BitVec.toNat_xor, o _ (by omega), o _ (by omega)]
    unfold IntKind.wrap
    simp [IntKind.bits, IntKind.signed]
    omega
  · intro e
    have : c.toNat ^^^ d = c.toNat := by
      have := congrArg UInt8.toNat e
      rw [UInt8.toNat_ofNat', Nat.mod_eq_of_lt (by omega)] at this
      exact this
    have h4 : c.toNat ^^^ (c.toNat ^^^ d) = 0 := by rw [this, Nat.xor_self]
    rw [← Nat.xor_assoc, Nat.xor_self, Nat.zero_xor] at h4
    omega
end Go.Proofs.Ytilbdmeeloeckaa
