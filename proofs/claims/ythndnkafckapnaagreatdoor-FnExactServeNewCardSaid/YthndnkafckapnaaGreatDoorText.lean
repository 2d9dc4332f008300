/- Plain: atoms and changes as texts. -/
import Derived.Test.YthndnkafckapnaaGreatDoorPlain
namespace Go.Proofs.YthndnkafckapnaaGreatDoor
open Go.RowKit

def strOf (l : List UInt8) : ByteArray := ⟨l.toArray⟩
theorem strOf_list (s : ByteArray) : strOf s.data.toList = s := rfl
theorem list_strOf (l : List UInt8) : (strOf l).data.toList = l := rfl
theorem strOf_append (l m : List UInt8) : strOf l ++ strOf m = strOf (l ++ m) := by
  apply ByteArray.ext
  show (strOf l ++ strOf m).data = _
  rw [ByteArray.data_append]
  simp [strOf]
theorem strOf_size (l : List UInt8) : (strOf l).size = l.length := by simp [strOf, ByteArray.size]

/-- Names with commas between. -/
def namesL : List GT → List UInt8
  | [] => []
  | [t] => t.n.data.toList
  | t :: u :: l => t.n.data.toList ++ [44] ++ namesL (u :: l)
def atomL (a : GA) : List UInt8 := a.n.data.toList ++ [40] ++ namesL a.args ++ [41]
def signedL (c : UInt8) (l : List GA) : List UInt8 := (l.map fun a => [c] ++ atomL a ++ [32]).flatten
def changeL (c : GC) : List UInt8 := signedL 45 c.goes ++ signedL 43 c.comes

theorem namesL_snoc : ∀ (l : List GT) (t : GT), namesL (l ++ [t]) = (if l = [] then [] else namesL l ++ [44]) ++ t.n.data.toList
  | [], t => rfl
  | [u], t => by simp [namesL]
  | u :: v :: l, t => by
    have ih := namesL_snoc (v :: l) t
    simp only [List.cons_append] at ih ⊢
    simp only [namesL, ih]
    simp

theorem namesL_take {l : List GT} {k : Nat} {t : GT} (h : l[k]? = some t) : namesL (l.take (k + 1)) = (if k = 0 then [] else namesL (l.take k) ++ [44]) ++ t.n.data.toList := by
  obtain ⟨hk, rfl⟩ := List.getElem?_eq_some_iff.1 h
  rw [List.take_succ_eq_append_getElem hk, namesL_snoc]
  congr 1
  by_cases h0 : k = 0
  · subst h0; rfl
  · rw [if_neg h0, if_neg]
    rw [List.take_eq_nil_iff]
    rintro (e | e)
    · exact h0 e
    · subst e; simp at hk

theorem signedL_take {l : List GA} {k : Nat} {a : GA} (c : UInt8) (h : l[k]? = some a) : signedL c (l.take (k + 1)) = signedL c (l.take k) ++ ([c] ++ atomL a ++ [32]) := by
  obtain ⟨hk, rfl⟩ := List.getElem?_eq_some_iff.1 h
  unfold signedL
  rw [List.take_succ_eq_append_getElem hk, List.map_append, List.flatten_append]; simp

theorem namesL_len : ∀ (l : List GT), (namesL l).length ≤ wTerms l
  | [] => Nat.zero_le _
  | [t] => by simp [namesL, wTerms, wTerm]
  | t :: u :: l => by
    have ih := namesL_len (u :: l)
    simp only [namesL, wTerms, wTerm, List.length_append, List.length_cons, List.map_cons, List.sum_cons, List.length_nil] at ih ⊢
    have : t.n.data.toList.length = t.n.size := by simp
    omega
theorem wTerms_take (l : List GT) (k : Nat) : wTerms (l.take k) ≤ wTerms l := by
  unfold wTerms
  have h : (l.map wTerm).sum = ((l.take k ++ l.drop k).map wTerm).sum := by rw [List.take_append_drop]
  rw [h, List.map_append, List.sum_append, List.length_take]; omega
theorem atomL_len (a : GA) : (atomL a).length ≤ wAtom a + 2 := by
  have := namesL_len a.args
  have h : a.n.data.toList.length = a.n.size := by simp
  unfold atomL wAtom
  simp only [List.length_append, List.length_cons, List.length_nil]; omega
theorem signedL_len (c : UInt8) : ∀ (l : List GA), (signedL c l).length ≤ 5 * wAtoms l
  | [] => by simp [signedL]
  | a :: l => by
    have ih := signedL_len c l
    have h := atomL_len a
    unfold signedL wAtoms at ih ⊢
    simp only [List.map_cons, List.flatten_cons, List.length_append, List.length_cons, List.length_nil, List.sum_cons] at ih ⊢
    omega
theorem wAtoms_take (l : List GA) (k : Nat) : wAtoms (l.take k) ≤ wAtoms l := by
  unfold wAtoms
  have h : (l.map wAtom).sum = ((l.take k ++ l.drop k).map wAtom).sum := by rw [List.take_append_drop]
  rw [h, List.map_append, List.sum_append, List.length_take]; omega

end Go.Proofs.YthndnkafckapnaaGreatDoor
