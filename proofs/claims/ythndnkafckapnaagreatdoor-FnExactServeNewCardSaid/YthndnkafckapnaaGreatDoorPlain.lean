/- Plain functions on terms, atoms, facts and changes: what the program's functions compute. No program in sight. -/
import Derived.Test.YthndnkafckapnaaGreatDoorRep
import Derived.Lib.Strings
import Derived.Lib.Bytealg
namespace Go.Proofs.YthndnkafckapnaaGreatDoor
open Go.RowKit

def lowDig (c : UInt8) : Bool := decide ((97 ≤ c.toNat ∧ c.toNat ≤ 122) ∨ (48 ≤ c.toNat ∧ c.toNat ≤ 57))
def upper (c : UInt8) : Bool := decide (65 ≤ c.toNat ∧ c.toNat ≤ 90)
def plainB (l : List UInt8) : Bool := l.all lowDig
def inB (n lo hi : Int) : Bool := decide (lo ≤ n ∧ n ≤ hi)
theorem inB_yes {n lo hi : Int} (h1 : lo ≤ n) (h2 : n ≤ hi) : inB n lo hi = true := decide_eq_true ⟨h1, h2⟩
theorem inB_low {n lo hi : Int} (h1 : n < lo) : inB n lo hi = false := decide_eq_false (by omega)
theorem inB_high {n lo hi : Int} (h1 : hi < n) : inB n lo hi = false := decide_eq_false (by omega)
def lettersB (s : ByteArray) : Bool := plainB s.data.toList && inB s.size 1 8
def isNot (s : ByteArray) : Bool := s.toList == [110, 111, 116]
def nameOkB (s : ByteArray) : Bool := lettersB s && !(isNot s)
def capB (s : ByteArray) : Bool := match s.data.toList with | [] => false | c :: _ => upper c
def varOkB (s : ByteArray) : Bool := capB s && decide (s.size ≤ 8) && plainB (s.data.toList.drop 1)
def termOkB (t : GT) : Bool := if t.v then varOkB t.n else nameOkB t.n
def atomOkB (a : GA) : Bool := nameOkB a.n && decide (a.args.length ≤ 3) && a.args.all termOkB
def factB (a : GA) : Bool := atomOkB a && a.args.all fun t => !t.v

theorem lowDig_yes {c : UInt8} (h : lowDig c = true) : (97 ≤ c.toNat ∧ c.toNat ≤ 122) ∨ (48 ≤ c.toNat ∧ c.toNat ≤ 57) := of_decide_eq_true h
theorem lowDig_no {c : UInt8} (h : lowDig c = false) : c.toNat < 48 ∨ (57 < c.toNat ∧ c.toNat < 97) ∨ 122 < c.toNat := by
  have := of_decide_eq_false h; omega

theorem plainB_snoc (l : List UInt8) (c : UInt8) : plainB (l ++ [c]) = (plainB l && lowDig c) := by simp [plainB]

theorem take_snoc' (s : ByteArray) (k : Nat) (h : k < s.size) : s.data.toList.take (k + 1) = s.data.toList.take k ++ [s[k]] := by
  rw [List.take_succ_eq_append_getElem (by simpa using h)]; rfl

theorem take_all (s : ByteArray) : s.data.toList.take s.size = s.data.toList := List.take_of_length_le (by simp)

/-- A prefix that is not plain spoils the whole. -/
theorem plainB_false {l : List UInt8} {k : Nat} (h : plainB (l.take k) = false) : plainB l = false := by
  rw [← List.take_append_drop k l]
  unfold plainB at h ⊢
  rw [List.all_append, h]; rfl

theorem tail_list (s : ByteArray) (k : Nat) : (s.extract k s.size).data.toList = s.data.toList.drop k := by
  simp only [ByteArray.data_extract, Array.toList_extract]
  rw [List.extract_eq_take_drop]
  exact List.take_of_length_le (by simp)

theorem tail_size (s : ByteArray) (k : Nat) (_h : k ≤ s.size) : (s.extract k s.size).size = s.size - k := by
  simp [ByteArray.size_extract]

theorem capB_cons {s : ByteArray} (h : 0 < s.size) : capB s = upper s[0] := by
  unfold capB
  have h1 : s.data.toList = s[0] :: s.data.toList.drop 1 := by
    have h2 : 0 < s.data.toList.length := by simpa using h
    have h3 := List.drop_eq_getElem_cons h2
    rw [List.drop_zero] at h3
    exact h3
  rw [h1]

theorem varOk_long {s : ByteArray} (hp : 0 < s.size) (hu : upper s[0] = true) (h1 : ¬ s.size = 1) : varOkB s = (lettersB (s.extract 1 s.size) && decide (s.size ≤ 8)) := by
  unfold varOkB lettersB
  rw [capB_cons hp, hu, tail_list, tail_size s 1 (by omega)]
  by_cases h8 : s.size ≤ 8
  · rw [inB_yes (by omega) (by omega)]; simp [h8]
  · simp [h8]

theorem all_snoc {α : Type} (p : α → Bool) (l : List α) (k : Nat) (x : α) (h : l[k]? = some x) : (l.take (k + 1)).all p = ((l.take k).all p && p x) := by
  obtain ⟨hk, rfl⟩ := List.getElem?_eq_some_iff.1 h
  rw [List.take_succ_eq_append_getElem hk, List.all_append]; simp
theorem all_false {α : Type} (p : α → Bool) (l : List α) (k : Nat) (x : α) (h : l[k]? = some x) (hp : p x = false) : l.all p = false := by
  rw [List.all_eq_false]; exact ⟨x, List.mem_of_getElem? h, by simp [hp]⟩
theorem all_whole {α : Type} (p : α → Bool) (l : List α) (k : Nat) (hk : ¬ k < l.length) (h : (l.take k).all p = true) : l.all p = true := by
  rwa [List.take_of_length_le (by omega)] at h
def allB {α : Type} (p : α → Bool) (l : List α) : Bool := l.all p

theorem compare_eq : ∀ (x y : List UInt8), Lib.compareBytes x y = if Op.bytesLess x y = true then -1 else if (x == y) = true then 0 else 1
  | [], [] => rfl
  | [], _ :: _ => rfl
  | _ :: _, [] => rfl
  | a :: x, b :: y => by
    have ih := compare_eq x y
    unfold Lib.compareBytes Op.bytesLess
    by_cases h1 : a < b
    · simp [h1]
    · by_cases h2 : b < a
      · have hne : ¬ a = b := fun e => h1 (e ▸ h2)
        simp [h1, h2, hne]
      · have hab : a = b := by
          have h3 := UInt8.not_lt.1 h1; have h4 := UInt8.not_lt.1 h2
          exact UInt8.le_antisymm h4 h3
        subst hab
        simp [h1, ih]

/-- How two texts stand to each other. -/
def cmpS (a b : ByteArray) : Int := Lib.compareBytes a.data.toList b.data.toList
theorem cmpS_less {a b : ByteArray} (h : Op.bytesLess a.toList b.toList = true) : cmpS a b = -1 := by
  unfold cmpS; rw [compare_eq, ← ByteArray.toList_eq, ← ByteArray.toList_eq, if_pos h]
theorem cmpS_same {a b : ByteArray} (h1 : Op.bytesLess a.toList b.toList = false) (h : (!a.toList == b.toList) = false) : cmpS a b = 0 := by
  unfold cmpS; rw [compare_eq, ← ByteArray.toList_eq, ← ByteArray.toList_eq, if_neg (by simp [h1]), if_pos (by simpa using h)]
theorem cmpS_more {a b : ByteArray} (h1 : Op.bytesLess a.toList b.toList = false) (h : (!a.toList == b.toList) = true) : cmpS a b = 1 := by
  unfold cmpS; rw [compare_eq, ← ByteArray.toList_eq, ← ByteArray.toList_eq, if_neg (by simp [h1]), if_neg (by simpa using h)]

def cmpArgs : List GT → List GT → Int
  | [], [] => 0
  | [], _ :: _ => -1
  | _ :: _, [] => 1
  | s :: x, t :: y => if cmpS s.n t.n = 0 then cmpArgs x y else cmpS s.n t.n
def cmpA (a b : GA) : Int := if cmpS a.n b.n = 0 then cmpArgs a.args b.args else cmpS a.n b.n

theorem cmpS_range (a b : ByteArray) : cmpS a b = -1 ∨ cmpS a b = 0 ∨ cmpS a b = 1 := by
  unfold cmpS; rw [compare_eq]; split
  · exact .inl rfl
  · split
    · exact .inr (.inl rfl)
    · exact .inr (.inr rfl)
theorem cmpArgs_range : ∀ (x y : List GT), cmpArgs x y = -1 ∨ cmpArgs x y = 0 ∨ cmpArgs x y = 1
  | [], [] => .inr (.inl rfl)
  | [], _ :: _ => .inl rfl
  | _ :: _, [] => .inr (.inr rfl)
  | s :: x, t :: y => by
    unfold cmpArgs; split
    · exact cmpArgs_range x y
    · exact cmpS_range _ _
theorem cmpA_range (a b : GA) : cmpA a b = -1 ∨ cmpA a b = 0 ∨ cmpA a b = 1 := by
  unfold cmpA; split
  · exact cmpArgs_range _ _
  · exact cmpS_range _ _

theorem drop_cons {α : Type} {l : List α} {k : Nat} {x : α} (h : l[k]? = some x) : l.drop k = x :: l.drop (k + 1) := by
  obtain ⟨hk, rfl⟩ := List.getElem?_eq_some_iff.1 h
  exact List.drop_eq_getElem_cons hk

/-- What is still to be compared behind k terms, where q was found. -/
def cmpFrom (x y : List GT) (k : Nat) (q : Int) : Int := if q = 0 then cmpArgs (x.drop k) (y.drop k) else q
theorem cmpFrom_step {x y : List GT} {k : Nat} {s t : GT} (hs : x[k]? = some s) (ht : y[k]? = some t) : cmpFrom x y k 0 = cmpFrom x y (k + 1) (cmpS s.n t.n) := by
  unfold cmpFrom; rw [if_pos rfl, drop_cons hs, drop_cons ht]; rfl
theorem cmpFrom_done {x y : List GT} {k : Nat} {q : Int} (h : ¬ q = 0) : cmpFrom x y k q = q := if_neg h
theorem cmpFrom_end {x y : List GT} {k : Nat} (h : x.length ≤ k ∨ y.length ≤ k) (hk : k ≤ x.length ∧ k ≤ y.length) :
    cmpFrom x y k 0 = if x.length < y.length then -1 else if y.length < x.length then 1 else 0 := by
  unfold cmpFrom; rw [if_pos rfl]
  rcases Nat.lt_or_ge k x.length with h1 | h1
  · have h2 : y.length ≤ k := by omega
    rw [drop_cons (List.getElem?_eq_getElem h1), List.drop_eq_nil_of_le h2, if_neg (by omega), if_pos (by omega)]; rfl
  · rcases Nat.lt_or_ge k y.length with h2 | h2
    · rw [drop_cons (List.getElem?_eq_getElem h2), List.drop_eq_nil_of_le h1, if_pos (by omega)]; rfl
    · rw [List.drop_eq_nil_of_le h1, List.drop_eq_nil_of_le h2, if_neg (by omega), if_neg (by omega)]; rfl

end Go.Proofs.YthndnkafckapnaaGreatDoor
